/- Walks and plain laws, part 4 of 11: follow.joined: the walk; slices.Compare, cmp.Or, cmp.Compare at ints; the order of a set's looks; the order of a set's looks: the closure of sorted; slices.SortFunc at the looks of a set; (follow.set).sorted; The looks there are; what tail computes; The reference 14: both, Union of two sets, Sum; The reference 14: Sum; follow.tail; Own sets; FIRST as a predicate; One round of begins, plainly; FOLLOW as a predicate; its laws; One round of all, plainly. Conditions: none beyond those that each theorem states. -/
import Derived.Test.YtnnkfgekiaaehaaGreatB3
import Derived.Sort.Grow
import Derived.Shelf.SlSortCmp.NoneTotal
import Derived.Shelf.Lay
import Derived.Ground.SlsfProg
/- follow.joined: the walk. -/
namespace Go.Proofs.YtnnkfgekiaaehaaGreat
open Go.ChangeShapes Go.WideShapes Go.ChangeAt Go.RowKit
set_option linter.unusedVariables false

theorem sumsJ_snoc (k : Nat) (la lb : List Lk) (i : Nat) (x : Lk) (h : la.take (i + 1) = la.take i ++ [x]) : sumsJ k (la.take (i + 1)) lb = sumsJ k (la.take i) lb ++ rowJ k x lb := by
  rw [h]; simp [sumsJ]
theorem rowJ_snoc (k : Nat) (x : Lk) (lb : List Lk) (j : Nat) (y : Lk) (h : lb.take (j + 1) = lb.take j ++ [y]) : rowJ k x (lb.take (j + 1)) = rowJ k x (lb.take j) ++ [lplus k x y] := by
  rw [h]; simp [rowJ]

/-- what joined hands back -/
def RetJ (w : World) (b : Nat) (s cur : List Lk) (e : Ending) (w' : World) : Prop := e = .returned (.bool (decide (cur.length ≠ s.length))) ∧ MapK lookKey w' b cur ∧ w.grownBy w' (some b)

set_option maxHeartbeats 4000000 in
theorem joined_any (k : Nat) (A1 A2 : Option Addr) (n1 n2 c1 c2 : Nat) (la lb s : List Lk) (b Bk : Nat) (w : World) (hk : k ≤ 4) (ha : RdL w w.heap.size A1 n1 la) (hb : RdL w w.heap.size A2 n2 lb) (ra : ∀ x ∈ la, x.right 8) (rb : ∀ x ∈ lb, x.right 8) (hak : ∀ x ∈ la, x.l.length ≤ k)
    (hn1 : n1 ≤ 1000000) (hn2 : n2 ≤ 1000000) (hm : MapK lookKey w b s) (hc : w.cell? ⟨Bk, 0, none⟩ = some (.int .i64 k)) (hBk : Bk < w.heap.size) :
    Calls Tryz.prog 35 #[.map (some b), .slice A1 n1 c1, .slice A2 n2 c2, .func (.func 75) #[] #[.pointer (some ⟨Bk, 0, none⟩)]] w (RetJ w b s (addAll s (sumsJ k la lb))) := by
  have hP := Lib.hid (fun (g : Bool) (w' : World) (cur : List Lk) (hcur : cur = addAll s (sumsJ k la lb)) (hg : g = decide (cur.length ≠ s.length)) (h1 : MapK lookKey w' b cur) (h2 : w.grownBy w' (some b)) =>
    (show RetJ w b s (addAll s (sumsJ k la lb)) (.returned (.bool g)) w' from ⟨by rw [hg, hcur], hcur ▸ h1, h2⟩))
  have hA := Lib.hid ha.1
  have hB := Lib.hid hb.1
  have hJ0 : JW w b Bk k A1 A2 n1 n2 la lb s w := ⟨hm, ⟨rfl, rfl, rfl, Nat.le_refl _, fun _ _ _ => rfl⟩, ha, hb, hc, hm.lt, hBk⟩
  have hC := Lib.hid (fun (x y : Lk) (hx : x ∈ la) (hy : y ∈ lb) (W : World) (h1 : W.cell? ⟨Bk, 0, none⟩ = some (.int .i64 k)) (h2 : Bk < W.heap.size) => plus_any k x y Bk W hk (ra x hx) (rb y hy) (hak x hx) h1 h2)
  have hwf := Lib.hid (fun (x y : Lk) (hx : x ∈ la) (hy : y ∈ lb) => right_wf (lplus_right hk (ra x hx) (rb y hy)))
  clear ha hb ra rb hak hm hc
  unfold Lk.v at hC
  go_enter Tryz.func35, Tryz.ntmps35
  go_wp2_with fail
  go_loopg [17, 9] n1 (fun gk s17 s9 wr => ∃ (i : Nat) (g : Bool) (cur : List Lk), s17 = .int .i64 i ∧ s9 = .bool g ∧ i + gk = n1 ∧ Hid (cur = addAll s (sumsJ k (la.take i) lb)) ∧ Hid (g = decide (cur.length ≠ s.length)) ∧ JW w b Bk k A1 A2 n1 n2 la lb cur wr)
  case atStart => exact ⟨0, false, s, rfl, rfl, by omega, Lib.hid (by simp [sumsJ, addAll]), Lib.hid (by simp), hJ0⟩
  case round =>
    clear hJ0
    obtain ⟨i, g, cur, rfl, rfl, hi, hcur, hg, hJ⟩ := hrel
    replace hi := Lib.hid hi
    by_cases hin : i < n1
    · have hil : i < la.length := by have := hA.out; omega
      have hxi : la[i]? = some la[i] := List.getElem?_eq_getElem hil
      obtain ⟨ab, aoff, rfl, habt, x0, x1, x2, x3, x4⟩ := hJ.2.2.1.get hxi
      have htk : la.take (i + 1) = la.take i ++ [la[i]] := List.take_succ_eq_append_getElem hil
      have hmem : la[i] ∈ la := List.getElem_mem hil
      generalize la[i] = x at *
      have hC1 := Lib.hid (fun y hy => hC.out x y hmem hy)
      have hw1 := Lib.hid (fun y hy => hwf.out x y hmem hy)
      have hzi : (0 : Int) ≤ i := by omega
      have hzn : (i : Int) < n1 := by omega
      replace hxi := Lib.hid hxi
      replace htk := Lib.hid htk
      replace hmem := Lib.hid hmem
      go_upto_region 5 with (fail)
      change Code.wp Tryz.prog _ _ _ (lay5 wr x)
      have hJ1 := hJ.step (lay5_below wr x)
      have q11 := lay5_blk wr x
      have hlt := hJ.2.1.size
      clear hJ x0 x1 x2 x3 x4
      generalize lay5 wr x = W1 at *
      generalize wr.heap.size = B11 at *
      go_wp2_with fail
      go_loopg [23, 9] n2 (fun gk2 s23 s9 wr2 => ∃ (j : Nat) (g2 : Bool) (cur2 : List Lk), s23 = .int .i64 j ∧ s9 = .bool g2 ∧ j + gk2 = n2 ∧ Hid (cur2 = addAll cur (rowJ k x (lb.take j))) ∧ Hid (g2 = decide (cur2.length ≠ s.length)) ∧ JW w b Bk k (some ⟨ab, aoff, none⟩) A2 n1 n2 la lb cur2 wr2 ∧ Blk wr2 B11 41 x.cells)
      case atStart => exact ⟨0, g, cur, rfl, rfl, by omega, Lib.hid (by simp [rowJ, addAll]), hg, hJ1, q11⟩
      case round =>
        clear hJ1 q11
        obtain ⟨j, g2, cur2, rfl, rfl, hj, hcur2, hg2, hJ, q11⟩ := hrel
        replace hj := Lib.hid hj
        by_cases hjn : j < n2
        · have hjl : j < lb.length := by have := hB.out; omega
          have hyi : lb[j]? = some lb[j] := List.getElem?_eq_getElem hjl
          obtain ⟨bb, boff, rfl, hbbt, y0, y1, y2, y3, y4⟩ := hJ.2.2.2.1.get hyi
          have htk2 : lb.take (j + 1) = lb.take j ++ [lb[j]] := List.take_succ_eq_append_getElem hjl
          have hmem2 : lb[j] ∈ lb := List.getElem_mem hjl
          generalize lb[j] = y at *
          have hC2 := Lib.hid (hC1.out y hmem2)
          have hz0 := Lib.hid (hw1.out y hmem2)
          have hsn := Lib.hid (rowJ_snoc k x lb j y htk2)
          have hzj : (0 : Int) ≤ j := by omega
          have hznj : (j : Int) < n2 := by omega
          replace hyi := Lib.hid hyi
          replace htk2 := Lib.hid htk2
          replace hmem2 := Lib.hid hmem2
          generalize hzz : lplus k x y = z at *
          replace hzz := Lib.hid hzz
          go_upto_region 8 with (fail)
          change Code.wp Tryz.prog _ _ _ (lay5 wr y)
          have hJ2 := hJ.step (lay5_below wr y)
          have q13 := lay5_blk wr y
          have q11' := q11.step (lay5_below wr y)
          clear hJ y0 y1 y2 y3 y4 q11
          generalize lay5 wr y = W2 at *
          generalize wr.heap.size = B13 at *
          have d0 := q11'.cell 0
          have d1 := q11'.cell 1
          have d2 := q11'.cell 2
          have d3 := q11'.cell 3
          have d4 := q11'.cell 4
          have e0 := q13.cell 0
          have e1 := q13.cell 1
          have e2 := q13.cell 2
          have e3 := q13.cell 3
          have e4 := q13.cell 4
          simp only [Lk.cells, List.getElem?_toArray, List.getElem?_cons_zero, List.getElem?_cons_succ] at d0 d1 d2 d3 d4 e0 e1 e2 e3 e4
          go_upto_region 9 with (go_at_call 75; refine (hC2.out W2 hJ2.2.2.2.2.1 (by have := hJ2.2.1.size; omega)).mono ?_; rintro e w3 ⟨rfl, hb3⟩)
          change Code.wp Tryz.prog _ _ _ (lay5 w3 z)
          have hJ3 := (hJ2.step hb3).step (lay5_below w3 z)
          have q14 := lay5_blk w3 z
          have q11 := (q11'.step hb3).step (lay5_below w3 z)
          clear hJ2 q13 q11' d0 d1 d2 d3 d4 e0 e1 e2 e3 e4 hb3
          generalize lay5 w3 z = W4 at *
          generalize w3.heap.size = B14 at *
          have d0 := q14.cell 0
          have d1 := q14.cell 1
          have d2 := q14.cell 2
          have d3 := q14.cell 3
          have d4 := q14.cell 4
          simp only [Lk.cells, List.getElem?_toArray, List.getElem?_cons_zero, List.getElem?_cons_succ] at d0 d1 d2 d3 d4
          by_cases hzm : z ∈ cur2
          · have hd : true = true ↔ z ∈ cur2 := ⟨fun _ => hzm, fun _ => rfl⟩
            have hcur3 : Hid (cur2 = addAll cur (rowJ k x (lb.take (j + 1)))) := Lib.hid (by rw [hsn.out, addAll_snoc, ← hcur2.out]; unfold addL; rw [if_pos hzm])
            replace hd := Lib.hid hd
            replace hzm := Lib.hid hzm
            go_wp2_with (at_lookup; refine wpList_lookK (E := lookKey) _ under66 rfl _ _ rfl b cur2 z true hd.out rfl rfl hJ3.1 hz0.out ?_)
            go_roundg (n2 - (j + 1))
            case measure => have := hj.out; omega
            case rel => exact ⟨j + 1, g2, cur2, by go_num, rfl, by have := hj.out; omega, hcur3, hg2, hJ3, q11⟩
          · have hd : false = true ↔ z ∈ cur2 := ⟨fun h => (by cases h), fun h => absurd h hzm⟩
            have hif : (z ∈ cur2 ∧ cur2 ++ [z] = cur2) ∨ (z ∉ cur2 ∧ cur2 ++ [z] = cur2 ++ [z]) := .inr ⟨hzm, rfl⟩
            have hcur3 : Hid (cur2 ++ [z] = addAll cur (rowJ k x (lb.take (j + 1)))) := Lib.hid (by rw [hsn.out, addAll_snoc, ← hcur2.out]; unfold addL; rw [if_neg hzm])
            have hg3 : Hid (true = decide ((cur2 ++ [z]).length ≠ s.length)) := Lib.hid (by
              have h1 := addAll_len s (sumsJ k (la.take i) lb)
              have h2 := addAll_len cur (rowJ k x (lb.take j))
              rw [← hcur.out] at h1
              rw [← hcur2.out] at h2
              symm
              apply decide_eq_true
              rw [List.length_append, List.length_singleton]; omega)
            replace hd := Lib.hid hd
            replace hif := Lib.hid hif
            replace hzm := Lib.hid hzm
            go_wp2_with (first | (at_lookup; refine wpList_lookK (E := lookKey) _ under66 rfl _ _ rfl b cur2 z false hd.out rfl rfl hJ3.1 hz0.out ?_) | (at_mapUpdate; refine wpList_layK (E := lookKey) _ under66 rfl _ _ _ rfl b cur2 (cur2 ++ [z]) z hif.out rfl rfl rfl hJ3.1 hz0.out ?_; intro w5 hM5 ht5))
            have hg5 := turned_grown ht5
            go_roundg (n2 - (j + 1))
            case measure => have := hj.out; omega
            case rel => exact ⟨j + 1, true, cur2 ++ [z], by go_num, rfl, by have := hj.out; omega, hcur3, hg3, hJ3.turned ht5 hM5, q11.grown hg5 (by
                intro e; injection e with e
                have hm := hJ3.1
                obtain ⟨es, clock, hbb, _⟩ := hm
                rw [← e] at hbb
                have := q11
                unfold Blk at this
                rw [hbb] at this; cases this)⟩
        · have hcur3 : Hid (cur2 = addAll s (sumsJ k (la.take (i + 1)) lb)) := Lib.hid (by
            rw [sumsJ_snoc k la lb i x htk.out, addAll_app, ← hcur.out, hcur2.out, List.take_of_length_le (by have := hB.out; omega)])
          go_wp2_with fail
          go_roundg (n1 - (i + 1))
          case measure => have := hi.out; omega
          case rel => exact ⟨i + 1, g2, cur2, by go_num, rfl, by have := hi.out; omega, hcur3, hg2, hJ⟩
    · have hcur3 : cur = addAll s (sumsJ k la lb) := by rw [hcur.out, List.take_of_length_le (by have := hA.out; omega)]
      replace hcur3 := Lib.hid hcur3
      go_wp2_with fail
      go_ret
      exact hP.out g _ cur hcur3.out hg.out hJ.1 hJ.2.1
end Go.Proofs.YtnnkfgekiaaehaaGreat

/- slices.Compare, cmp.Or, cmp.Compare at ints; the order of a set's looks. -/
namespace Go.Proofs.YtnnkfgekiaaehaaGreat
open Go.ChangeShapes Go.WideShapes Go.ChangeAt Go.RowKit
set_option linter.unusedVariables false

theorem isnan_any (x : Int) (w : World) : Calls Tryz.prog 111 #[.int .i64 x] w fun e w' => e = .returned (.bool false) ∧ w = w' := by
  go_enter Tryz.func111, Tryz.ntmps111
  go_wp2_with fail
  go_ret
  exact ⟨by simp, rfl⟩

def cmp1 (x y : Int) : Int := if x < y then -1 else if y < x then 1 else 0
theorem cmp1_any (x y : Int) (w : World) : Calls Tryz.prog 74 #[.int .i64 x, .int .i64 y] w fun e w' => e = .returned (.int .i64 (cmp1 x y)) ∧ w = w' := by
  have hn := Lib.hid isnan_any
  unfold cmp1
  by_cases h1 : x < y
  · rw [if_pos h1]
    go_enter Tryz.func74, Tryz.ntmps74
    go_wp2_with (go_at_call 111; refine (hn.out _ _).mono ?_; rintro e w1 ⟨rfl, rfl⟩)
    go_ret
    exact ⟨rfl, rfl⟩
  · rw [if_neg h1]
    by_cases h2 : y < x
    · rw [if_pos h2]
      go_enter Tryz.func74, Tryz.ntmps74
      go_wp2_with (go_at_call 111; refine (hn.out _ _).mono ?_; rintro e w1 ⟨rfl, rfl⟩)
      go_ret
      exact ⟨rfl, rfl⟩
    · rw [if_neg h2]
      go_enter Tryz.func74, Tryz.ntmps74
      go_wp2_with (go_at_call 111; refine (hn.out _ _).mono ?_; rintro e w1 ⟨rfl, rfl⟩)
      go_ret
      exact ⟨rfl, rfl⟩

set_option maxHeartbeats 1000000 in
theorem slicescmp_any (A1 A2 : Option Addr) (n1 n2 c1 c2 : Nat) (t u : List Int) (w : World) (B : Nat) (ha : Rd1 w B A1 n1 (ints t)) (hb : Rd1 w B A2 n2 (ints u)) (hn1 : n1 ≤ 1000000) (hn2 : n2 ≤ 1000000) :
    Calls Tryz.prog 73 #[.slice A1 n1 c1, .slice A2 n2 c2] w fun e w' => e = .returned (.int .i64 (cmpI t u)) ∧ w = w' := by
  have hl1 : t.length = n1 := by have := ha.1; simpa [ints] using this
  have hl2 : u.length = n2 := by have := hb.1; simpa [ints] using this
  have hQ := Lib.hid (cmpI_part t u)
  have hL := Lib.hid (cmpI_all t u)
  have hn := Lib.hid cmp1_any
  obtain ⟨R, hR⟩ : ∃ R, R = cmpI t u := ⟨_, rfl⟩
  rw [← hR] at hQ hL ⊢
  clear hR
  replace hl1 := Lib.hid hl1
  replace hl2 := Lib.hid hl2
  go_enter Tryz.func73, Tryz.ntmps73
  go_wp2_with fail
  go_loopg [11] n1 (fun gk s11 wr => ∃ j : Nat, s11 = .int .i64 j ∧ j + gk = n1 ∧ j ≤ n2 ∧ Hid (∀ i, i < j → t.getD i 0 = u.getD i 0) ∧ w = wr)
  case atStart => exact ⟨0, rfl, by omega, by omega, Lib.hid (by intro i h; omega), rfl⟩
  case round =>
    obtain ⟨j, rfl, hj, hj2, hE, rfl⟩ := hrel
    replace hj := Lib.hid hj
    by_cases hjn : j < n1
    · have hjt : j < t.length := by have := hl1.out; omega
      have hxi : (ints t)[j]? = some (.int .i64 t[j]) := by simp [ints, hjt]
      have hgx : t.getD j 0 = t[j] := by simp [List.getD_eq_getElem?_getD, hjt]
      obtain ⟨b1, off1, rfl, hbt1, x0⟩ := ha.get hxi
      generalize t[j] = x at *
      have hz1 : (0 : Int) ≤ j := by omega
      have hz2 : (j : Int) < n1 := by omega
      replace hxi := Lib.hid hxi
      replace hgx := Lib.hid hgx
      by_cases hju : j < n2
      · have hjt2 : j < u.length := by have := hl2.out; omega
        have hyi : (ints u)[j]? = some (.int .i64 u[j]) := by simp [ints, hjt2]
        have hgy : u.getD j 0 = u[j] := by simp [List.getD_eq_getElem?_getD, hjt2]
        obtain ⟨b2, off2, rfl, hbt2, y0⟩ := hb.get hyi
        generalize u[j] = y at *
        have hz3 : (j : Int) < n2 := by omega
        replace hyi := Lib.hid hyi
        replace hgy := Lib.hid hgy
        by_cases hxy : x = y
        · subst hxy
          have hcc : Hid (cmp1 x x = 0) := Lib.hid (by simp [cmp1])
          have hE2 : Hid (∀ i, i < j + 1 → t.getD i 0 = u.getD i 0) := Lib.hid (fun i hi => by
            rcases Nat.lt_succ_iff_lt_or_eq.1 hi with h | rfl
            · exact hE.out i h
            · rw [hgx.out, hgy.out])
          go_wp2_with (go_at_call 74; refine (hn.out _ _ _).mono ?_; rintro e w1 ⟨rfl, rfl⟩; rw [hcc.out])
          go_roundg (n1 - (j + 1))
          case measure => have := hj.out; omega
          case rel => exact ⟨j + 1, by go_num, by have := hj.out; omega, by omega, hE2, rfl⟩
        · have hR2 : R = cmp1 x y := by
            rw [hQ.out j hjt hjt2 hE.out (by rw [hgx.out, hgy.out]; exact hxy), hgx.out, hgy.out]
            unfold cmp1
            by_cases h : x < y
            · rw [if_pos h, if_pos h]
            · rw [if_neg h, if_neg h, if_pos (by omega)]
          have hc0 : (R == 0) = false := by rw [hR2]; unfold cmp1; split <;> (try split) <;> simp; omega
          have hc1 : (R != 0) = true := by simpa using hc0
          replace hR2 := Lib.hid hR2
          clear hxy
          go_wp2_with (go_at_call 74; refine (hn.out _ _ _).mono ?_; rintro e w1 ⟨rfl, rfl⟩; rw [← hR2.out])
          go_ret
          exact ⟨rfl, rfl⟩
      · have hR2 : R = 1 := by
          rw [hL.out (fun i h1 h2 => hE.out i (by have := hl2.out; omega)), if_neg (by have := hl2.out; omega), if_pos (by have := hl2.out; omega)]
        subst hR2
        have hz3 : (n2 : Int) ≤ j := by omega
        go_wp2_with fail
        go_ret
        exact ⟨rfl, rfl⟩
    · have hR1 : R = if n1 < n2 then -1 else 0 := by
        rw [hL.out (fun i h1 h2 => hE.out i (by have := hl1.out; omega)), hl1.out, hl2.out]
        by_cases h : n1 < n2
        · rw [if_pos h, if_pos h]
        · rw [if_neg h, if_neg h, if_neg (by have := hj.out; omega)]
      by_cases h12 : n1 < n2
      · rw [if_pos h12] at hR1
        subst hR1
        go_wp2_with fail
        go_ret
        exact ⟨rfl, rfl⟩
      · rw [if_neg h12] at hR1
        subst hR1
        go_wp2_with fail
        go_ret
        exact ⟨rfl, rfl⟩

def or2 (x y : Int) : Int := if x = 0 then y else x
set_option maxHeartbeats 1000000 in
theorem or2_any (x y : Int) (B : Nat) (w : World) (h0 : w.cell? ⟨B, 0, none⟩ = some (.int .i64 x)) (h1 : w.cell? ⟨B, 1, none⟩ = some (.int .i64 y)) :
    Calls Tryz.prog 72 #[.slice (some ⟨B, 0, none⟩) 2 2] w fun e w' => e = .returned (.int .i64 (or2 x y)) ∧ w = w' := by
  unfold or2
  by_cases hx : x = 0
  · subst hx
    rw [if_pos rfl]
    by_cases hy : y = 0
    · subst hy
      go_enter Tryz.func72, Tryz.ntmps72
      go_wp2_with fail
      go_loopg [8] 2 (fun gk s8 wr => ∃ j : Nat, s8 = .int .i64 j ∧ j + gk = 2 ∧ w = wr)
      case atStart => exact ⟨0, rfl, by omega, rfl⟩
      case round =>
        obtain ⟨j, rfl, hj, rfl⟩ := hrel
        rcases (show j = 0 ∨ j = 1 ∨ j = 2 by omega) with rfl | rfl | rfl
        · go_wp2_with fail
          go_roundg 1
          case measure => omega
          case rel => exact ⟨1, by go_num, by omega, rfl⟩
        · go_wp2_with fail
          go_roundg 0
          case measure => omega
          case rel => exact ⟨2, by go_num, by omega, rfl⟩
        · go_wp2_with fail
          go_ret
          exact ⟨rfl, rfl⟩
    · have hy1 : (y == 0) = false := by simpa using hy
      have hy2 : (y != 0) = true := by simpa using hy
      go_enter Tryz.func72, Tryz.ntmps72
      go_wp2_with fail
      go_loopg [8] 2 (fun gk s8 wr => ∃ j : Nat, s8 = .int .i64 j ∧ j ≤ 1 ∧ j + gk = 2 ∧ w = wr)
      case atStart => exact ⟨0, rfl, by omega, by omega, rfl⟩
      case round =>
        obtain ⟨j, rfl, hj1, hj, rfl⟩ := hrel
        rcases (show j = 0 ∨ j = 1 by omega) with rfl | rfl
        · go_wp2_with fail
          go_roundg 1
          case measure => omega
          case rel => exact ⟨1, by go_num, by omega, by omega, rfl⟩
        · go_wp2_with fail
          go_ret
          exact ⟨rfl, rfl⟩
  · rw [if_neg hx]
    have hx1 : (x == 0) = false := by simpa using hx
    have hx2 : (x != 0) = true := by simpa using hx
    go_enter Tryz.func72, Tryz.ntmps72
    go_wp2_with fail
    go_loopg [8] 2 (fun gk s8 wr => s8 = .int .i64 0 ∧ w = wr)
    case atStart => exact ⟨rfl, rfl⟩
    case round =>
      obtain ⟨rfl, rfl⟩ := hrel
      go_wp2_with fail
      go_ret
      exact ⟨rfl, rfl⟩
end Go.Proofs.YtnnkfgekiaaehaaGreat

/- the order of a set's looks: the closure of sorted. -/
namespace Go.Proofs.YtnnkfgekiaaehaaGreat
open Go.ChangeShapes Go.WideShapes Go.ChangeAt Go.RowKit Go.Sort
set_option linter.unusedVariables false

theorem rd_look {W : World} {g : Nat} {x : Lk} {m : Int} (h : Blk W g 41 x.cells) (hx : x.right m) : Rd1 W (g + 1) (some ⟨g, 1, none⟩) x.l.length (ints x.l) := by
  refine ⟨by simp [ints], .inr ⟨g, 1, rfl, by omega, fun i v hv => ?_⟩⟩
  have hl := right_l hx
  have hi : i < x.l.length := by have := (List.getElem?_eq_some_iff.1 hv).1; simpa [ints] using this
  have h1 : x.cells[1 + i]? = some (.int .i64 (x.s i)) := Lk.cellAt x i (by omega)
  rw [h.cell (1 + i), h1, s_getD hx i]
  simp [ints, hi] at hv
  rw [← hv]
  simp [List.getD_eq_getElem?_getD, hi]
/-- grown by draws and blocks -/
def Grew (w w' : World) : Prop := ∃ (q : Nat) (os : Array Obj), w' = grow (w.drewN q) os
theorem Grew.refl (w : World) : Grew w w := ⟨0, #[], by simp [World.drewN]⟩
theorem Grew.alloc {w w' : World} (h : Grew w w') (o : Obj) : Grew w (w'.alloc o) := by
  obtain ⟨q, os, rfl⟩ := h
  exact ⟨q, os ++ #[o], by rw [alloc_eq_grow, grow_grow]⟩
theorem Grew.drew {w w' : World} (h : Grew w w') : Grew w w'.drew := by
  obtain ⟨q, os, rfl⟩ := h
  exact ⟨q + 1, os, rfl⟩
theorem Grew.below {w w' : World} (h : Grew w w') : Below w.heap.size w w' := by
  obtain ⟨q, os, rfl⟩ := h
  exact ⟨rfl, rfl, rfl, by simp [grow, World.drewN], fun k hk => by simp [grow, World.drewN, Array.getElem?_append_left hk]⟩

/-- the two looks in their boxes, inside the closure -/
def SC (w : World) (x y : Lk) (W : World) : Prop := Blk W w.heap.size 41 x.cells ∧ Blk W (w.heap.size + 1) 41 y.cells ∧ Grew w W
theorem SC.drew {w : World} {x y : Lk} {W : World} (h : SC w x y W) : SC w x y W.drew := ⟨h.1.drew, h.2.1.drew, h.2.2.drew⟩
theorem SC.alloc {w : World} {x y : Lk} {W : World} (h : SC w x y W) (o : Obj) : SC w x y (W.alloc o) := ⟨h.1.alloc _, h.2.1.alloc _, h.2.2.alloc _⟩
theorem SC.cells {w : World} {x y : Lk} {W : World} (h : SC w x y W) : W.cell? ⟨w.heap.size, 0, none⟩ = some (.int .i64 x.n) ∧ W.cell? ⟨w.heap.size + 1, 0, none⟩ = some (.int .i64 y.n) ∧ SC w x y W :=
  ⟨h.1.cell 0, h.2.1.cell 0, h⟩

theorem or2_lcmp {x y : Lk} (n m : Int) (hn : n = x.l.length) (hm : m = y.l.length) : or2 (cmpI x.l y.l) (cmp1 n m) = lcmp x y := by
  unfold or2 lcmp
  by_cases h : cmpI x.l y.l = 0
  · rw [if_pos h, h]
    have := cmpI_eq _ _ h
    rw [hn, hm, this]
    unfold cmp1; simp
  · rw [if_neg h]

set_option maxHeartbeats 2000000 in
theorem setcmp_any (x y : Lk) (w : World) (hx : x.right 8) (hy : y.right 8) : Calls Tryz.prog 71 #[x.v, y.v] w fun e w' => e = .returned (.int .i64 (lcmp x y)) ∧ Grew w w' := by
  have hlx := right_l hx
  have hly := right_l hy
  have h4 := Lib.hid slicescmp_any
  have h5 := Lib.hid cmp1_any
  have h6 := Lib.hid or2_any
  have hR := Lib.hid (or2_lcmp (x := x) (y := y) x.n y.n hlx.1.symm hly.1.symm)
  have hrx := Lib.hid (fun (W : World) (h : SC w x y W) => (rd_look h.1 hx).mono (B' := w.heap.size + 2) (by omega))
  have hry := Lib.hid (fun (W : World) (h : SC w x y W) => (rd_look h.2.1 hy).mono (B' := w.heap.size + 2) (by omega))
  obtain ⟨lx, hlx0⟩ : ∃ lx, lx = x.l.length := ⟨_, rfl⟩
  obtain ⟨ly, hly0⟩ : ∃ ly, ly = y.l.length := ⟨_, rfl⟩
  rw [← hlx0] at hrx hlx
  rw [← hly0] at hry hly
  have hnx : x.n = (lx : Int) := hlx.1.symm
  have hny : y.n = (ly : Int) := hly.1.symm
  have hx4 : lx ≤ 4 := hlx.2.1
  have hy4 : ly ≤ 4 := hly.2.1
  clear hlx hly hlx0 hly0 hx hy
  generalize lcmp x y = R at *
  have hS0 : SC w x y ((w.alloc (.cells x.cells 41)).alloc (.cells y.cells 41)) := ⟨(Blk.new _ _ _).alloc _, Blk.newAt _ _ _ _ (by simp), ((Grew.refl w).alloc _).alloc _⟩
  unfold Lk.v
  unfold Lk.cells at hS0
  rw [hnx] at hS0
  rw [hny] at hS0
  go_enter Tryz.func71, Tryz.ntmps71
  go_wp2_with fail
  rw [hnx, hny]
  generalize (w.alloc (.cells #[.int .i64 lx, .int .i64 x.a, .int .i64 x.b, .int .i64 x.c, .int .i64 x.d] 41)).alloc (.cells #[.int .i64 ly, .int .i64 y.a, .int .i64 y.b, .int .i64 y.c, .int .i64 y.d] 41) = W at *
  have hS1 := hS0.drew
  have hcl := Lib.hid (fun (W : World) (h : SC w x y W) => show W.cell? ⟨w.heap.size, 0, none⟩ = some (.int .i64 lx) ∧ W.cell? ⟨w.heap.size + 1, 0, none⟩ = some (.int .i64 ly) ∧ SC w x y W by rw [← hnx, ← hny]; exact h.cells)
  clear hS0
  have hb0 := Lib.hid ((Blk.newAt W.drew 3 #[.int .i64 (cmpI x.l y.l), .int .i64 (cmp1 lx ly)] W.heap.size rfl).cell 0)
  have hb1 := Lib.hid ((Blk.newAt W.drew 3 #[.int .i64 (cmpI x.l y.l), .int .i64 (cmp1 lx ly)] W.heap.size rfl).cell 1)
  rw [hnx, hny] at hR
  have hz1 : (0 : Int) ≤ lx := by omega
  have hz2 : (0 : Int) ≤ ly := by omega
  have hz3 : (lx : Int) ≤ 4 := by omega
  have hz4 : (ly : Int) ≤ 4 := by omega
  replace hnx := Lib.hid hnx
  replace hny := Lib.hid hny
  go_region_held3 (fun w' => w'.cell? ⟨w.heap.size, 0, none⟩ = some (.int .i64 lx) ∧ w'.cell? ⟨w.heap.size + 1, 0, none⟩ = some (.int .i64 ly) ∧ SC w x y w')
    ((refine hcl.out _ ?_; first | assumption | exact SC.alloc hS1 _))
    (first
      | (go_at_call 73; refine (h4.out _ _ _ _ _ _ x.l y.l _ (w.heap.size + 2) (hrx.out _ hS1) (hry.out _ hS1) (by omega) (by omega)).mono ?_; rintro e w1 ⟨rfl, rfl⟩)
      | (go_at_call 74; refine (h5.out _ _ _).mono ?_; rintro e w1 ⟨rfl, rfl⟩)
      | (go_at_call 72; refine (h6.out (cmpI x.l y.l) (cmp1 lx ly) W.heap.size _ hb0.out hb1.out).mono ?_; rintro e w1 ⟨rfl, rfl⟩; rw [hR.out]))
  all_goals
    go_wp2_with fail
    go_ret
    exact ⟨rfl, (SC.alloc hS1 _).2.2⟩
end Go.Proofs.YtnnkfgekiaaehaaGreat

/- slices.SortFunc at the looks of a set. -/
namespace Go.Proofs
open Go.Shelf
shelf_lay_g SlLaysF0.n6 Slsf 6 at Tryz 70 as Tryz.sortL
end Go.Proofs
namespace Go.Proofs.YtnnkfgekiaaehaaGreat
open Go.ChangeShapes Go.WideShapes Go.ChangeAt Go.RowKit Go.Sort Go.Shelf
set_option linter.unusedVariables false

structure RL where
  x : Lk
  h : x.right 8
instance : Inhabited RL := ⟨⟨Lk.of [], nil_right 8 (by omega)⟩⟩
def encR (x : RL) : List Value := x.x.cells.toList
def cfR (x y : RL) : Int := lcmp x.x y.x
theorem encR_len (x : RL) : (encR x).length = 5 := rfl
theorem encR_one (x : RL) : ∀ v ∈ encR x, v.oneCell' = true := by
  intro v hv
  simp [encR, Lk.cells] at hv
  rcases hv with rfl | rfl | rfl | rfl | rfl <;> rfl
theorem ltR (x y : RL) : ltOf cfR x y = decide (lcmp x.x y.x < 0) := rfl
theorem swoR : SWO (ltOf cfR) where
  irrefl x := by rw [ltR, lcmp_refl]; rfl
  trans x y z h1 h2 := by
    rw [ltR] at *
    simp at *
    have a1 : lcmp x.x y.x = -1 := by rcases lcmp_vals x.1 y.1 with h | h | h <;> omega
    have a2 : lcmp y.x z.x = -1 := by rcases lcmp_vals y.1 z.1 with h | h | h <;> omega
    rw [lcmp_trans a1 a2]; omega
  ntrans x y z h1 h2 := by
    rw [ltR] at *
    simp at *
    rcases lcmp_vals x.1 z.1 with h | h | h
    · rcases lcmp_vals x.1 y.1 with g1 | g1 | g1
      · omega
      · have := lcmp_eq x.h y.h g1; rw [this] at h; omega
      · rcases lcmp_vals y.1 z.1 with g2 | g2 | g2
        · omega
        · have := lcmp_eq y.h z.h g2; rw [← this] at h; omega
        · have e1 : lcmp y.x x.x = -1 := by rw [lcmp_anti]; omega
          have e2 : lcmp z.x y.x = -1 := by rw [lcmp_anti]; omega
          have := lcmp_trans e2 e1
          rw [lcmp_anti] at this; omega
    · omega
    · omega
theorem totR (x y : RL) (h1 : ltOf cfR x y = false) (h2 : ltOf cfR y x = false) : x = y := by
  rw [ltR] at *
  simp at h1 h2
  rw [lcmp_anti] at h2
  have e := lcmp_eq x.h y.h (by omega)
  cases x; cases y; simp only at e; subst e; rfl

/-- the looks of a list of right ones -/
def mkR : (l : List Lk) → (∀ x ∈ l, x.right 8) → List RL
  | [], _ => []
  | x :: l, h => ⟨x, h x List.mem_cons_self⟩ :: mkR l fun y hy => h y (List.mem_cons_of_mem _ hy)
theorem mkR_map : ∀ (l : List Lk) (h : ∀ x ∈ l, x.right 8), (mkR l h).map RL.x = l
  | [], _ => rfl
  | x :: l, h => by rw [mkR, List.map_cons, mkR_map l]
theorem flatR (ts : List RL) : flatK encR 5 ts.toArray = (cellsL (ts.map RL.x)).toArray := by
  apply Array.ext
  · rw [size_flatK]; simp [cellsL_len]
  · intro t h1 h2
    rw [size_flatK] at h1
    simp only [List.size_toArray] at h1
    have ht : t / 5 < ts.length := by omega
    have e1 : (flatK encR 5 ts.toArray)[t]'(by rw [size_flatK]; simpa using h1) = (encR ts.toArray[t / 5]!)[t % 5]! := by
      rw [← get_flatK encR 5 ts.toArray t (by simpa using h1), getElem!_pos]
    rw [e1]
    have hx : (ts.map RL.x)[t / 5]? = some ts[t / 5].x := by simp [ht]
    have e2 := cellsL_get (ts.map RL.x) (t / 5) ts[t / 5].x hx (t % 5) (by omega)
    rw [show t / 5 * 5 + t % 5 = t by omega] at e2
    have e3 : ts.toArray[t / 5]! = ts[t / 5] := by rw [getElem!_pos ts.toArray (t / 5) (by simpa using ht)]; simp
    rw [e3]
    have hc : t % 5 < ts[t / 5].x.cells.size := by simp [Lk.cells]; omega
    have e4 : (cellsL (ts.map RL.x))[t]? = some ((cellsL (ts.map RL.x)).toArray[t]'h2) := by simp at h2 ⊢
    rw [e4, Array.getElem?_eq_getElem hc] at e2
    injection e2 with e2
    rw [e2]
    have : (encR ts[t / 5])[t % 5]! = (encR ts[t / 5])[t % 5]'(by simpa [encR] using hc) := getElem!_pos _ _ _
    rw [this]; simp [encR]

theorem sorted_is_lset (l : List Lk) (h : ∀ x ∈ l, x.right 8) (hn : l.Nodup) : ((mkR l h).mergeSort fun x y => !(ltOf cfR) y x).map RL.x = lset l := by
  have hp := List.mergeSort_perm (mkR l h) (fun x y => !(ltOf cfR) y x)
  have hw := List.pairwise_mergeSort (le := fun x y => !(ltOf cfR) y x) (fun a b c h1 h2 => by
      simp only [Bool.not_eq_true'] at *
      exact swoR.ntrans c b a h2 h1) (fun a b => by
      cases hh : ltOf cfR b a with
      | false => simp
      | true =>
        have : ltOf cfR a b = false := by
          cases h3 : ltOf cfR a b with
          | false => rfl
          | true => have := swoR.trans _ _ _ hh h3; rw [swoR.irrefl] at this; cases this
        simp [this]) (mkR l h)
  generalize (mkR l h).mergeSort (fun x y => !(ltOf cfR) y x) = m at *
  have hpm : (m.map RL.x).Perm l := by have := hp.map RL.x; rwa [mkR_map] at this
  have hnd : (m.map RL.x).Nodup := hpm.nodup_iff.2 hn
  have hnd2 : m.Pairwise (fun x y => x.x ≠ y.x) := List.pairwise_map.1 hnd
  refine lset_of h ?_ (fun z => hpm.mem_iff)
  unfold Asc
  rw [List.pairwise_map]
  refine (hw.and hnd2).imp fun {x y} hxy => ?_
  obtain ⟨h1, h2⟩ := hxy
  rw [ltR] at h1
  simp at h1
  rcases lcmp_vals x.x y.1 with g | g | g
  · exact g
  · exact absurd (lcmp_eq x.h y.h g) h2
  · rw [lcmp_anti] at h1; omega

theorem holds_ownL {w : World} {g cap base : Nat} {l : List Lk} {cur : Array Value} (hb : w.heap[g]? = some (.cells cur 41 (0, 0))) (ht : cur.toList.take (l.length * 5) = cellsL l) : Holds id w g 0 (cellsL l).toArray := by
  intro j hj
  have hj' : j < (cellsL l).length := by simpa using hj
  have hj2 : j < l.length * 5 := by rw [← cellsL_len]; exact hj'
  refine ⟨?_, by simp [World.frozen?, hb]⟩
  have h1 : (cur.toList.take (l.length * 5))[j]? = (cellsL l)[j]? := by rw [ht]
  rw [List.getElem?_take_of_lt hj2] at h1
  simp only [World.cell?, hb, Nat.zero_add]
  simp only [Option.isSome_none, Bool.false_eq_true, if_false]
  rw [← Array.getElem?_toList, h1]
  simp [hj']

theorem aggR : ∀ w, (isAgg 41).run Tryz.prog w = .ok true w := fun w => by first | exact Tryz.isAgg41 w | rfl
theorem sizeR : ∀ w, (Go.sizeOf 41).run Tryz.prog w = .ok 5 w := fun w => by first | exact Tryz.sizeOf41 w | rfl

/-- the slice sorted -/
theorem sortfunc_any (l : List Lk) (v : Value) (base : Nat) (w : World) (hr : ∀ x ∈ l, x.right 8) (hn : l.Nodup) (hlen : l.length ≤ 1000000) (ho : OwnL w base v l) :
    Calls Tryz.prog 70 #[v, .func (.func 71) #[] #[]] w fun e w' => e = .returned (.tuple #[]) ∧ OwnL w' base v (lset l) ∧ w.grownBy w' v.ownBlock ∧ (lset l).length = l.length := by
  have hll : (lset l).length = l.length := by
    rw [← sorted_is_lset l hr hn, List.length_map, List.length_mergeSort]
    have := congrArg List.length (mkR_map l hr)
    simpa using this
  rcases ho.2 with ⟨rfl, h0⟩ | ⟨g, cap, cur, rfl, hbase, hb, h1, h2, h3, h4⟩
  · have hl0 : l = [] := List.eq_nil_of_length_eq_zero h0
    subst hl0
    refine (AnyF.slices_SortFunc_none Tryz.sortL none 0 (.func (.func 71) #[] #[]) w).mono ?_
    rintro e w' ⟨rfl, rfl⟩
    exact ⟨rfl, ho, ⟨rfl, rfl, rfl, Nat.le_refl _, fun _ _ _ => rfl⟩, hll⟩
  · have hg : g < w.heap.size := (Array.getElem?_eq_some_iff.1 hb).1
    have hH : HoldsK encR 5 w g 0 (mkR l hr).toArray := by
      unfold HoldsK
      rw [flatR, mkR_map]
      exact holds_ownL (cap := cap) (base := base) hb h4
    have hms : (mkR l hr).length = l.length := by simpa using congrArg List.length (mkR_map l hr)
    have hcmp : CmpLays Tryz.prog 71 #[] encR 5 cfR g 0 (mkR l hr).toArray.size w := fun m os dk _ x y => setcmp_any x.x y.x _ x.h y.h
    have eg : ∀ args w, (callFunc 71 args).run Tryz.prog w = .ok (.enter 71 args) w := enters_of Tryz.func71 (by kernel_rfl) rfl
    have hcon := AnyQ.slices_SortFunc_total Tryz.sortL 5 aggR sizeR encR encR_len encR_one cfR swoR 71 #[] g 0 cap (mkR l hr).toArray w eg hcmp hH hg (by simp [hms]; omega) totR
    have hs : (mkR l hr).toArray.size = l.length := by simp [hms]
    rw [hs] at hcon
    refine Calls.mono hcon ?_
    rintro e w' ⟨rfl, n, os, rfl⟩
    have e1 : (mkR l hr).toArray.toList = mkR l hr := rfl
    have e2 : flatK encR 5 ((mkR l hr).mergeSort fun x y => !(ltOf cfR) y x).toArray = (cellsL (lset l)).toArray := by rw [flatR, sorted_is_lset l hr hn]
    unfold sortWorldK putRowK
    rw [e1, e2]
    have hlc : (cellsL (lset l)).length = l.length * 5 := by rw [cellsL_len, hll]
    refine ⟨rfl, ⟨by rw [hll]; exact hlc, .inr ⟨g, cap, putCells id 0 (cellsL (lset l)).toArray cur, by rw [hll], hbase, ?_, by omega, h2, by simp [putCells, h3], ?_⟩⟩, ⟨rfl, rfl, rfl, by simp, fun k hk hne => ?_⟩, hll⟩
    · rw [heap_grow_old _ _ (by simpa using hg)]
      simp [putRow, mapBlock, Sort.ahead, Array.getElem?_modify, hb, onCells]
    · rw [hll]
      apply List.ext_getElem?
      intro j
      by_cases hj : j < l.length * 5
      · have hjc : j < cur.size := by rw [h3]; have := Nat.mul_le_mul_right 5 h1; omega
        rw [List.getElem?_take_of_lt hj, Array.getElem?_toList]
        simp [putCells, hlc, hj, hjc]
      · rw [List.getElem?_take_eq_none (by omega), List.getElem?_eq_none (by omega)]
    · rw [heap_grow_old _ _ (by simpa using hk)]
      have : g ≠ k := fun e => hne (by rw [← e]; rfl)
      simp [putRow, mapBlock, Sort.ahead, Array.getElem?_modify, this]
end Go.Proofs.YtnnkfgekiaaehaaGreat

/- (follow.set).sorted. -/
namespace Go.Proofs.YtnnkfgekiaaehaaGreat
open Go.ChangeShapes Go.WideShapes Go.ChangeAt Go.RowKit
set_option linter.unusedVariables false

theorem iter_ne {w : World} {b r : Nat} {s out : List Lk} (h : IterL w b r s out) : b ≠ r := by
  obtain ⟨es, clock, since, seen, c0, h1, _, h3, _⟩ := h
  rintro rfl
  rw [h1] at h3; cases h3
theorem IterL.step {w w' : World} {b r : Nat} {s out : List Lk} (h : IterL w b r s out) (hb : Below w.heap.size w w') : IterL w' b r s out := h.grown (grown_of_below hb) (by simp) (by simp)
theorem nodup_same {out s : List Lk} (h1 : out.Nodup) (h2 : ∀ x ∈ out, x ∈ s) (h3 : ∀ x ∈ s, x ∈ out) : ∀ z, z ∈ s ↔ z ∈ out := fun z => ⟨h3 z, h2 z⟩
theorem IterL.parts {w : World} {b r : Nat} {s out : List Lk} (h : IterL w b r s out) : out.Nodup ∧ (∀ x ∈ out, x ∈ s) ∧ s.Nodup := by
  obtain ⟨es, clock, since, seen, c0, h1, h2, h3, h4, h5, h6, h7, h8, h9⟩ := h
  exact ⟨h8, h9, h2.2.2.2.1⟩
theorem nodup_len {out s : List Lk} (h1 : out.Nodup) (h2 : ∀ x ∈ out, x ∈ s) : out.length ≤ s.length := by
  induction out generalizing s with
  | nil => simp
  | cons x out ih =>
    obtain ⟨hx, hn⟩ := List.nodup_cons.1 h1
    have hm := h2 x List.mem_cons_self
    have := ih (s := s.erase x) hn (fun y hy => (List.mem_erase_of_ne (by rintro rfl; exact hx hy)).2 (h2 y (List.mem_cons_of_mem _ hy)))
    rw [List.length_erase_of_mem hm] at this
    have : 0 < s.length := List.length_pos_of_mem hm
    simp; omega

set_option maxHeartbeats 2000000 in
theorem sorted_any (b : Nat) (s : List Lk) (w : World) (hm : MapK lookKey w b s) (hr : ∀ x ∈ s, x.right 8) (hlen : s.length ≤ 900000) : Calls Tryz.prog 37 #[.map (some b)] w (RetL w (lset s)) := by
  have hP := Lib.hid (fun (v : Value) (w' : World) (h1 : OwnL w' w.heap.size v (lset s)) (h2 : Below w.heap.size w w') => (show RetL w (lset s) (.returned v) w' from ⟨v, rfl, h1, h2⟩))
  have hS := Lib.hid sortfunc_any
  have hr' := Lib.hid hr
  have hb := hm.lt
  clear hr
  go_enter Tryz.func37, Tryz.ntmps37
  go_wp2_with (at_range; refine wpList_range_look _ under67 rfl _ rfl b s rfl hm ?_; intro w1 hit hb1; go_frame)
  have hsz : w.heap.size < w1.heap.size := by
    obtain ⟨es, clock, since, seen, c0, h1, _, h3, _⟩ := hit
    exact (Array.getElem?_eq_some_iff.1 h3).1
  go_loopg [3] s.length (fun gk s3 wr => ∃ out : List Lk, out.length + gk = s.length ∧ OwnL wr (w.heap.size + 1) s3 out ∧ IterL wr b w.heap.size s out ∧ Below w.heap.size w wr ∧ w.heap.size < wr.heap.size)
  case atStart => exact ⟨[], by simp, OwnL.nil _ _, hit, hb1, hsz⟩
  case round =>
    clear hit hb1 hsz
    obtain ⟨out, hlo, ho, hit, hbw, hsz⟩ := hrel
    replace hlo := Lib.hid hlo
    go_wp2_with (first
      | (at_next; refine wpList_next_look _ rfl _ rfl b w.heap.size s out rfl hit ?_ ?_)
      | go_in)
    · intro hall
      obtain ⟨hn, hsub, hns⟩ := hit.parts
      have hro : ∀ x ∈ out, x.right 8 := fun x hx => hr'.out x (hsub x hx)
      have hls : lset out = lset s := lset_same hr'.out (fun z => (nodup_same hn hsub hall z).symm)
      have hol : out.length ≤ 1000000 := by have := hlo.out; omega
      replace hls := Lib.hid hls
      go_wp2_with (go_at_call 70; refine (hS.out out u3 (w.heap.size + 1) wr hro hn hol ho).mono ?_; rintro e w3 ⟨rfl, ho3, hg3, hl3⟩)
      go_ret
      exact hP.out _ _ (hls.out ▸ ho3.mono (by omega)) (hbw.grown hg3 (by omega) (fun k hk => by have := (own_in ho k hk).1; omega))
    · intro x w2 hxs hxo hit2 hen hg2 hsz2
      have ho2 : OwnL w2 (w.heap.size + 1) u3 out := World.ownsRow.kept ho hg2 (.inr (fun e => by have := (own_in ho _ e).1; omega))
      have hb2 : Below w.heap.size w w2 := hbw.grown hg2 (by omega) (fun k hk => by cases hk; exact Nat.le_refl _)
      have hol : out.length < 1000000 := by have := hlo.out; omega
      have hlen2 := nodup_len hit2.parts.1 hit2.parts.2.1
      rw [List.length_append, List.length_singleton] at hlen2
      have hsz3 : w.heap.size < w2.heap.size := by omega
      unfold Lk.v at hen
      replace hsz2 := Lib.hid hsz2
      go_upto_region 5 with (fail)
      change Code.wp Tryz.prog _ _ _ (lay5 w2 x)
      have hbl := lay5_below w2 x
      have q4 := lay5_blk w2 x
      have ho3 := ho2.step hbl
      have hit3 := hit2.step hbl
      have hb3 := bStep hb2 hbl
      have hsz4 := Nat.lt_of_lt_of_le hsz3 hbl.size
      clear hen ho2 hit2 hb2 hbl hsz3
      generalize lay5 w2 x = W1 at *
      generalize w2.heap.size = B4 at *
      have d0 := q4.cell 0
      have d1 := q4.cell 1
      have d2 := q4.cell 2
      have d3 := q4.cell 3
      have d4 := q4.cell 4
      simp only [Lk.cells, List.getElem?_toArray, List.getElem?_cons_zero, List.getElem?_cons_succ] at d0 d1 d2 d3 d4
      go_wp2_with (at_builtin; refine wpList_pushL _ rfl _ _ rfl (w.heap.size + 1) _ out rfl (ho3.alloc _) _ x rfl (Blk.new _ _ _) hol (by simp; omega) ?_; intro v' w5 ho5 hg5 hat5 hb5)
      all_goals
        have hbo : ∀ k, u3.ownBlock = some k → w.heap.size + 1 ≤ k := fun k hk => (own_in ho3 k hk).1
        have hit5 : IterL w5 b w.heap.size s (out ++ [x]) := (hit3.step ((Below.refl _ _).alloc (Nat.le_refl _) _)).grown hg5 (fun e => by have := hbo _ e.symm; omega) (fun e => by have := hbo _ e.symm; omega)
        have hz5 := hg5.size
        simp only [World.size_alloc] at hz5
        go_roundg (s.length - (out.length + 1))
        case measure => have := hlo.out; omega
        case rel => exact ⟨out ++ [x], by rw [List.length_append, List.length_singleton]; omega, ho5, hit5, (bAlc hb3 _).grown hg5 (by simp; omega) (fun k hk => by have := hbo k hk; omega), by omega⟩
end Go.Proofs.YtnnkfgekiaaehaaGreat

/- The looks there are; what tail computes. -/
namespace Go.Proofs.YtnnkfgekiaaehaaGreat
open Go.ChangeShapes Go.WideShapes Go.ChangeAt Go.RowKit
set_option linter.unusedVariables false

def digs8 : List Int := [0, 1, 2, 3, 4, 5, 6, 7]
def wordsOf : Nat → List (List Int)
  | 0 => [[]]
  | n + 1 => digs8.flatMap fun a => (wordsOf n).map (a :: ·)
/-- all looks of at most four terminals of eight -/
def univ : List Lk := ((List.range 5).flatMap wordsOf).map Lk.of
theorem univ_len : univ.length = 4681 := by decide +kernel
theorem digs8_mem {v : Int} (h1 : 0 ≤ v) (h2 : v < 8) : v ∈ digs8 := by
  have : v = 0 ∨ v = 1 ∨ v = 2 ∨ v = 3 ∨ v = 4 ∨ v = 5 ∨ v = 6 ∨ v = 7 := by omega
  simpa [digs8] using this
theorem words_mem : ∀ t : List Int, (∀ v ∈ t, 0 ≤ v ∧ v < 8) → t ∈ wordsOf t.length
  | [], _ => by simp [wordsOf]
  | a :: t, h => by
    simp only [List.length_cons, wordsOf, List.mem_flatMap]
    exact ⟨a, digs8_mem (h a List.mem_cons_self).1 (h a List.mem_cons_self).2, List.mem_map.2 ⟨t, words_mem t (fun v hv => h v (List.mem_cons_of_mem _ hv)), rfl⟩⟩
theorem univ_mem {x : Lk} (h : x.right 8) : x ∈ univ := by
  obtain ⟨_, h4, ho, hv⟩ := right_l h
  rw [← ho]
  exact List.mem_map_of_mem (List.mem_flatMap.2 ⟨x.l.length, List.mem_range.2 (by omega), words_mem _ hv⟩)
theorem right_len {s : List Lk} (hn : s.Nodup) (hr : ∀ x ∈ s, x.right 8) : s.length ≤ 4681 := by
  rw [← univ_len]; exact nodup_len hn fun x hx => univ_mem (hr x hx)

theorem addL_nodup {s : List Lk} (h : s.Nodup) (z : Lk) : (addL s z).Nodup := by
  unfold addL; split
  · exact h
  · rename_i hz
    rw [List.nodup_append]
    exact ⟨h, by simp, fun a ha b hb => by simp at hb; subst hb; rintro rfl; exact hz ha⟩
theorem addAll_nodup {s : List Lk} (h : s.Nodup) (l : List Lk) : (addAll s l).Nodup := by
  induction l generalizing s with
  | nil => exact h
  | cons z l ih => exact ih (addL_nodup h z)
theorem sums_mem (k : Nat) (la lb : List Lk) (z : Lk) : z ∈ sumsJ k la lb ↔ ∃ x ∈ la, ∃ y ∈ lb, z = lplus k x y := by
  simp only [sumsJ, rowJ, List.mem_flatMap, List.mem_map]
  constructor
  · rintro ⟨x, hx, y, hy, rfl⟩; exact ⟨x, hx, y, hy, rfl⟩
  · rintro ⟨x, hx, y, hy, rfl⟩; exact ⟨x, hx, y, hy, rfl⟩

/-- right, and not longer than k -/
def Fit (k : Nat) (x : Lk) : Prop := x.right 8 ∧ x.l.length ≤ k
theorem sums_fit {k : Nat} (hk : k ≤ 4) {la lb : List Lk} (ha : ∀ x ∈ la, Fit k x) (hb : ∀ x ∈ lb, Fit k x) : ∀ z ∈ sumsJ k la lb, Fit k z := by
  intro z hz
  obtain ⟨x, hx, y, hy, rfl⟩ := (sums_mem k la lb z).1 hz
  exact ⟨lplus_right hk (ha x hx).1 (hb y hy).1, by rw [lplus_l hk, List.length_take]; omega⟩
theorem all_fit {k : Nat} {s l : List Lk} (ha : ∀ x ∈ s, Fit k x) (hb : ∀ x ∈ l, Fit k x) : ∀ z ∈ addAll s l, Fit k z := fun z hz =>
  ((addAll_mem s l z).1 hz).elim (ha z) (hb z)

/-- one symbol's looks -/
def oneL (ss : List (List Lk)) (s : Int) : List Lk := if 16 ≤ s then lset (ss.getD (s - 16).toNat []) else [Lk.of [s]]
def stepL (k : Nat) (ss : List (List Lk)) (out : List Lk) (s : Int) : List Lk := lset (addAll [] (sumsJ k out (oneL ss s)))
/-- FIRST of symbols, out of sets -/
def tailL (k : Nat) (ss : List (List Lk)) (l : List Int) : List Lk := l.foldl (stepL k ss) [Lk.of []]
theorem tailL_snoc (k : Nat) (ss : List (List Lk)) (l : List Int) (s : Int) : tailL k ss (l ++ [s]) = stepL k ss (tailL k ss l) s := by simp [tailL]

/-- a symbol that is a terminal, or a nonterminal of n -/
def SymOk (n : Nat) (s : Int) : Prop := (0 ≤ s ∧ s < 8) ∨ (16 ≤ s ∧ s < 16 + (n : Int))
def SetsFit (k : Nat) (ss : List (List Lk)) : Prop := ∀ s ∈ ss, ∀ x ∈ s, Fit k x
theorem setsFit_get {k : Nat} {ss : List (List Lk)} (h : SetsFit k ss) (i : Nat) : ∀ x ∈ ss.getD i [], Fit k x := by
  intro x hx
  rw [List.getD_eq_getElem?_getD] at hx
  cases hi : ss[i]? with
  | none => rw [hi] at hx; simp at hx
  | some s => rw [hi] at hx; exact h s (List.mem_of_getElem? hi) x hx
theorem lset_fit {k : Nat} {l : List Lk} (h : ∀ x ∈ l, Fit k x) : ∀ x ∈ lset l, Fit k x := fun x hx => h x ((lset_mem (fun y hy => (h y hy).1) x).1 hx)
theorem one_fit {k n : Nat} (hk : 1 ≤ k) {ss : List (List Lk)} (h : SetsFit k ss) {s : Int} (hs : SymOk n s) : ∀ x ∈ oneL ss s, Fit k x := by
  unfold oneL
  split
  · exact lset_fit (setsFit_get h _)
  · intro x hx
    simp at hx
    subst hx
    have hv : 0 ≤ s ∧ s < 8 := by unfold SymOk at hs; omega
    refine ⟨of_right (by omega) (by simp) (by simpa using hv), ?_⟩
    rw [l_of _ (by simp)]; simpa using hk
theorem step_fit {k n : Nat} (hk : 1 ≤ k) (hk4 : k ≤ 4) {ss : List (List Lk)} (h : SetsFit k ss) {out : List Lk} (ho : ∀ x ∈ out, Fit k x) {s : Int} (hs : SymOk n s) : ∀ x ∈ stepL k ss out s, Fit k x :=
  lset_fit (all_fit (by simp) (sums_fit hk4 ho (one_fit hk h hs)))
theorem nil_fit (k : Nat) : Fit k (Lk.of []) := ⟨nil_right 8 (by omega), by rw [l_of _ (by simp)]; simp⟩
theorem tail_fit {k n : Nat} (hk : 1 ≤ k) (hk4 : k ≤ 4) {ss : List (List Lk)} (h : SetsFit k ss) (l : List Int) (hl : ∀ s ∈ l, SymOk n s) : ∀ x ∈ tailL k ss l, Fit k x := by
  unfold tailL
  have : ∀ (l : List Int) (out : List Lk), (∀ s ∈ l, SymOk n s) → (∀ x ∈ out, Fit k x) → ∀ x ∈ l.foldl (stepL k ss) out, Fit k x := by
    intro l
    induction l with
    | nil => intro out _ ho; exact ho
    | cons s l ih => intro out hl ho; exact ih _ (fun y hy => hl y (List.mem_cons_of_mem _ hy)) (step_fit hk hk4 h ho (hl s List.mem_cons_self))
  exact this l _ hl (by intro x hx; simp at hx; subst hx; exact nil_fit k)
theorem lset_nodup {k : Nat} {l : List Lk} (h : ∀ x ∈ l, Fit k x) : (lset l).Nodup := asc_nodup (lset_asc fun x hx => (h x hx).1)
theorem fit_len {k : Nat} {s : List Lk} (hn : s.Nodup) (hr : ∀ x ∈ s, Fit k x) : s.length ≤ 4681 := right_len hn fun x hx => (hr x hx).1
theorem tail_nodup {k n : Nat} (hk : 1 ≤ k) (hk4 : k ≤ 4) {ss : List (List Lk)} (h : SetsFit k ss) (l : List Int) (hl : ∀ s ∈ l, SymOk n s) : (tailL k ss l).Nodup := by
  rcases List.eq_nil_or_concat l with rfl | ⟨l', s, rfl⟩
  · simp [tailL]
  · rw [List.concat_eq_append] at hl ⊢
    rw [tailL_snoc]
    unfold stepL
    exact lset_nodup (all_fit (by simp) (sums_fit hk4 (tail_fit hk hk4 h l' (fun y hy => hl y (List.mem_append_left _ hy))) (one_fit hk h (hl s (by simp)))))

/-- a slice of sets that reads -/
def SetsR (W : World) (B : Nat) (A : Option Addr) (n : Nat) (ss : List (List Lk)) : Prop :=
  ss.length = n ∧ (n = 0 ∨ ∃ b off, A = some ⟨b, off, none⟩ ∧ b < B ∧ ∀ (i : Nat) (s : List Lk), ss[i]? = some s → ∃ mb, mb < B ∧ W.cell? ⟨b, off + i, none⟩ = some (.map (some mb)) ∧ MapK lookKey W mb s)
theorem MapK.below {α : Type} {E : KeyEnc α} {w w' : World} {B b : Nat} {s : List α} (h : MapK E w b s) (hb : Below B w w') (hlt : b < B) : MapK E w' b s := by
  obtain ⟨es, clock, h1, h2⟩ := h
  exact ⟨es, clock, (hb.block b hlt).trans h1, h2⟩
theorem SetsR.below {W W' : World} {B : Nat} {A : Option Addr} {n : Nat} {ss : List (List Lk)} (h : SetsR W B A n ss) (hb : Below B W W') : SetsR W' B A n ss := by
  refine ⟨h.1, ?_⟩
  rcases h.2 with h0 | ⟨b, off, rfl, hlt, hc⟩
  · exact .inl h0
  · refine .inr ⟨b, off, rfl, hlt, fun i s hs => ?_⟩
    obtain ⟨mb, h1, h2, h3⟩ := hc i s hs
    exact ⟨mb, h1, (hb.cell (p := ⟨b, off + i, none⟩) hlt).trans h2, h3.below hb h1⟩
theorem rdL_one {W : World} {g : Nat} {x : Lk} (h : Blk W g 41 x.cells) : RdL W (g + 1) (some ⟨g, 0, none⟩) 1 [x] := by
  refine ⟨rfl, .inr ⟨g, 0, rfl, by omega, fun i y hy j hj => ?_⟩⟩
  have hi : i = 0 := by have := (List.getElem?_eq_some_iff.1 hy).1; simp at this; omega
  subst hi
  simp at hy
  subst hy
  rw [h.cell]; simp
theorem ownL_one {W : World} {g base : Nat} {x : Lk} (h : Blk W g 41 x.cells) (hb : base ≤ g) : OwnL W base (.slice (some ⟨g, 0, none⟩) 1 1) [x] :=
  ⟨by simp [cellsL, Lk.cells], .inr ⟨g, 1, x.cells, rfl, hb, h, Nat.le_refl _, by simp [maxLen], rfl, by simp [cellsL, Lk.cells]⟩⟩
end Go.Proofs.YtnnkfgekiaaehaaGreat

/- The reference 14: both, Union of two sets, Sum. -/
namespace Go.Proofs.YtnnkfgekiaaehaaGreat
open Go.ChangeShapes Go.WideShapes Go.ChangeAt Go.RowKit
set_option linter.unusedVariables false

/-- a set of looks in memory, right for m terminals -/
structure SetAt (w : World) (m : Int) (A : Option Addr) (n c : Nat) (l : List Lk) : Prop where
  rd : RdL w w.heap.size A n l
  right : ∀ x ∈ l, x.right m
  asc : Asc l
  n4 : n ≤ 4681
  nc : n ≤ c
  cm : c ≤ maxLen
theorem SetAt.step {w w' : World} {m : Int} {A : Option Addr} {n c : Nat} {l : List Lk} (h : SetAt w m A n c l) (hb : Below w.heap.size w w') : SetAt w' m A n c l :=
  ⟨(h.rd.below hb).mono hb.size, h.right, h.asc, h.n4, h.nc, h.cm⟩
theorem SetAt.of_own {w : World} {m : Int} {base : Nat} {v : Value} {l : List Lk} (h : OwnL w base v l) (hr : ∀ x ∈ l, x.right m) (hm8 : m ≤ 8) (ha : Asc l) : ∃ A c, v = .slice A l.length c ∧ SetAt w m A l.length c l := by
  obtain ⟨A, c, e, h1, h2, h3, _⟩ := h.reads
  refine ⟨A, c, e, h1, hr, ha, right_len (asc_nodup ha) fun x hx => ?_, h2, h3⟩
  exact right_mono (hr x hx) hm8 (by omega)

theorem both14_ok (m : Int) (A A2 : Option Addr) (n n2 c c2 : Nat) (la lb : List Lk) (w : World) (hm1 : 1 ≤ m) (hm8 : m ≤ 8) (ha : SetAt w m A n c la) (hb : SetAt w m A2 n2 c2 lb) :
    Calls Tryz.prog 80 #[.int .i64 m, .slice A n c, .slice A2 n2 c2] w fun e w' => e = .returned (.int .i64 0) ∧ Below w.heap.size w w' := by
  have hC := Lib.hid (fun (W : World) (A : Option Addr) (n c : Nat) (l : List Lk) (h : SetAt W m A n c l) => check14_ok m A n c l W hm1 hm8 h.n4 h.rd h.right h.asc)
  go_enter Tryz.func80, Tryz.ntmps80
  go_wp2_with fail
  refine (hC.out _ A n c la ha).mono ?_
  rintro e w1 ⟨rfl, hb1⟩
  go_wp2_with fail
  refine (hC.out _ A2 n2 c2 lb (hb.step hb1)).mono ?_
  rintro e w2 ⟨rfl, hb2⟩
  go_wp2_with fail
  go_ret
  exact ⟨rfl, bStep hb1 hb2⟩

/-- the union of the first i of two -/
def uniL (la lb : List Lk) (i : Nat) : List Lk := if i = 0 then [] else if i = 1 then la else lmerge la lb

set_option maxHeartbeats 1000000 in
theorem union_ok (m : Int) (g : Nat) (A A2 : Option Addr) (n n2 c c2 : Nat) (la lb : List Lk) (w : World) (hm1 : 1 ≤ m) (hm8 : m ≤ 8) (ha : SetAt w m A n c la) (hb : SetAt w m A2 n2 c2 lb) (q : Blk w g 28 #[.slice A n c, .slice A2 n2 c2]) :
    Calls Tryz.prog 85 #[.int .i64 m, .slice (some ⟨g, 0, none⟩) 2 2] w (RetL0 w (lmerge la lb)) := by
  have hP := Lib.hid (fun (v : Value) (w' : World) (h1 : OwnL w' w.heap.size v (lmerge la lb)) (h2 : Below w.heap.size w w') => (show RetL0 w (lmerge la lb) (.returned (.tuple #[v, .int .i64 0])) w' from ⟨v, rfl, h1, h2⟩))
  have hC := Lib.hid (fun (W : World) (A : Option Addr) (n c : Nat) (l : List Lk) (h : SetAt W m A n c l) => check14_ok m A n c l W hm1 hm8 h.n4 h.rd h.right h.asc)
  have r8 : ∀ {l : List Lk}, (∀ x ∈ l, x.right m) → ∀ x ∈ l, x.right 8 := fun h x hx => right_mono (h x hx) hm8 (by omega)
  have hE : Hid (∀ i, i < 2 → ∃ X xn xc l, w.cell? ⟨g, i, none⟩ = some (.slice X xn xc) ∧ SetAt w m X xn xc l ∧ lmerge (uniL la lb i) l = uniL la lb (i + 1) ∧ (∀ x ∈ uniL la lb i, x.right 8) ∧ (uniL la lb i).length ≤ 4681 ∧ (∀ x ∈ l, x.right 8)) := Lib.hid fun i hi => by
    obtain rfl | rfl : i = 0 ∨ i = 1 := by omega
    · exact ⟨A, n, c, la, q.cell 0, ha, by simp [uniL, lmerge], by simp [uniL], by simp [uniL], r8 ha.right⟩
    · exact ⟨A2, n2, c2, lb, q.cell 1, hb, by simp [uniL], by simpa [uniL] using r8 ha.right, by simpa [uniL, ha.rd.1] using ha.n4, r8 hb.right⟩
  have hend : Hid (uniL la lb 2 = lmerge la lb) := Lib.hid (by simp [uniL])
  have hlt := q.lt
  clear q ha hb
  go_enter Tryz.func85, Tryz.ntmps85
  go_wp2_with fail
  refine (range8_any m _).mono ?_
  rintro e w1 ⟨rfl, rfl⟩
  rw [if_neg (by omega)]
  go_wp2_with fail
  go_loopg [6, 7] 2 (fun gk s6 s7 wr => ∃ i : Nat, s6 = .int .i64 0 ∧ s7 = .int .i64 i ∧ i + gk = 2 ∧ Below w.heap.size w wr)
  case atStart => exact ⟨0, rfl, rfl, by omega, Below.refl _ _⟩
  case round =>
    obtain ⟨i, rfl, rfl, hi, hb⟩ := hrel
    replace hi := Lib.hid hi
    by_cases hin : i < 2
    · obtain ⟨X, xn, xc, l, hcell, hS, _⟩ := hE.out i hin
      have hcell' := (hb.cell (p := ⟨g, i, none⟩) hlt).trans hcell
      have z1 : (0 : Int) ≤ i := by omega
      have z2 : (i : Int) < 2 := by omega
      go_wp2_with fail
      refine (hC.out _ X xn xc l (hS.step hb)).mono ?_
      rintro e w2 ⟨rfl, hb2⟩
      go_wp2_with fail
      go_roundg (2 - (i + 1))
      case measure => have := hi.out; omega
      case rel => exact ⟨i + 1, rfl, by go_num, by have := hi.out; omega, bStep hb hb2⟩
    · go_wp2_with fail
      go_loopg [9, 8] 2 (fun gk s9 s8 wr => ∃ i : Nat, s9 = .int .i64 i ∧ i + gk = 2 ∧ OwnL wr w.heap.size s8 (uniL la lb i) ∧ Below w.heap.size w wr)
      case atStart => exact ⟨0, rfl, by omega, by simpa [uniL] using OwnL.nil _ _, hb⟩
      case round =>
        clear hb hi hin
        obtain ⟨i, rfl, hi, ho, hb⟩ := hrel
        replace hi := Lib.hid hi
        by_cases hin : i < 2
        · obtain ⟨X, xn, xc, l, hcell, hS, hmg, hr1, hl1, hr2⟩ := hE.out i hin
          have hcell' := (hb.cell (p := ⟨g, i, none⟩) hlt).trans hcell
          have z1 : (0 : Int) ≤ i := by omega
          have z2 : (i : Int) < 2 := by omega
          generalize uniL la lb i = U at *
          obtain ⟨A1, c1, rfl, hd1, hk1, hm1', hg1⟩ := ho.reads
          replace hmg := Lib.hid hmg
          have hS' := hS.step hb
          have hn4 := hS.n4
          go_wp2_with fail
          refine (merge_any A1 X U.length xn c1 xc U l _ hd1 hS'.rd hr1 hr2 hk1 hS.nc hm1' hS.cm (by omega)).mono ?_
          rintro e w2 ⟨v, rfl, ho2, hb2⟩
          rw [hmg.out] at ho2
          go_wp2_with fail
          go_roundg (2 - (i + 1))
          case measure => have := hi.out; omega
          case rel => exact ⟨i + 1, by go_num, by have := hi.out; omega, ho2.mono hb.size, bStep hb hb2⟩
        · have he : i = 2 := by have := hi.out; omega
          subst he
          rw [hend.out] at ho
          go_wp2_with fail
          go_ret2
          exact hP.out _ _ ho hb

section
variable {w : World} {ops : Array Oper} {o : Oper} {a : Act} {K : Act → World → Prop} {Q : Exit → Act → World → Prop}
/-- 'append(s, x)' of one look, as one operation -/
theorem wp_pushL (s x : Operand) (ho : o.op = .call { callee := .builtin .append, args := #[s, x], argTypes := #[28, 28] })
    (base : Nat) (v : Value) (l : List Lk) (hs : a.eval s = v) (hown : OwnL w base v l) (g : Nat) (k : Lk) (hx : a.eval x = .slice (some ⟨g, 0, none⟩) 1 1) (hb : Blk w g 41 k.cells) (h63 : l.length < 1000000) (hbase : base ≤ w.heap.size)
    (h : ∀ v' w', OwnL w' base v' (l ++ [k]) → w.grownBy w' v.ownBlock → (∀ W0, Below base W0 w → Below base W0 w') → K (a.put o.dst v') w') : Oper.wp Tryz.prog o a w K Q := by
  obtain ⟨i0, hi0, hz0, hz1, hz2⟩ := info_parts info42
  have ht : Tryz.prog.underlying 28 = some (.slice 41) := by kernel_rfl
  have hnews : ∀ j u, k.cells.toList[j]? = some u → w.cell? ((⟨g, 0, none⟩ : Addr).add j) = some u := by
    intro j u hu
    have hadd : (⟨g, 0, none⟩ : Addr).add j = ⟨g, j, none⟩ := by unfold Addr.add; split <;> simp_all
    rw [hadd, hb.cell]
    simpa using hu
  obtain ⟨v', w', hrun, h2, h3, h4, h5⟩ := run_append_own_at (P := Tryz.prog) w base 28 o.type 41 i0 _ 5 40 ht hi0 hz0 hz1 hz2 rfl (by omega) v l.length (cellsL l) hown ⟨g, 0, none⟩ 1 1 k.cells.toList (by simp [Lk.cells]) hnews (by simp [Lk.cells, Value.oneCell']) (by unfold maxLen; omega) (by omega) hbase
  unfold Oper.wp execOp
  simp only [ho, resolve, invoke, builtin, Sem.run_bind, Sem.run_pure, Result.andThen_ok, List.map_toArray, List.map_cons, List.map_nil, hs, hx, hrun]
  refine h v' w' ?_ h3 fun W0 hB => hB.grown h3 hbase (fun k hk => (own_in hown k hk).1)
  unfold OwnL
  rw [cellsL_append, List.length_append]
  have : cellsL [k] = k.cells.toList := by simp [cellsL]
  rw [this]
  exact h2
end
end Go.Proofs.YtnnkfgekiaaehaaGreat

/- The reference 14: Sum. -/
namespace Go.Proofs.YtnnkfgekiaaehaaGreat
open Go.ChangeShapes Go.WideShapes Go.ChangeAt Go.RowKit
set_option linter.unusedVariables false

theorem fit_plus_nil {k : Nat} (hk : k ≤ 4) {x : Lk} (h : Fit k x) : lplus k x (Lk.of []) = x := by
  refine right_ext (m := 8) (k := 8) (lplus_right hk h.1 (nil_right 8 (by omega))) h.1 ?_
  rw [lplus_l hk, l_of _ (by simp), List.append_nil, List.take_of_length_le h.2]
theorem full_plus {k : Nat} (hk : k ≤ 4) {x y : Lk} (h : Fit k x) (hy : y.right 8) (hn : x.l.length = k) : lplus k x y = x := by
  refine right_ext (m := 8) (k := 8) (lplus_right hk h.1 hy) h.1 ?_
  rw [lplus_l hk, List.take_append_of_le_length (by omega), List.take_of_length_le (by omega)]
theorem lcut_same {k : Nat} (hk : k ≤ 4) {l : List Lk} (h : ∀ x ∈ l, Fit k x) (ha : Asc l) : lcut k l = l := by
  unfold lcut
  have : l.map (fun x => lplus k x (Lk.of [])) = l := by
    conv => rhs; rw [← List.map_id l]
    exact List.map_congr_left fun x hx => fit_plus_nil hk (h x hx)
  rw [this]
  exact (lset_of (k := 8) (fun x hx => (h x hx).1) ha fun z => Iff.rfl).symm
/-- the sums of two sets, in order -/
def sumR (k : Nat) (la lb : List Lk) : List Lk := lset (sumsJ k la lb)
theorem sumR_fit {k : Nat} (hk : k ≤ 4) {la lb : List Lk} (ha : ∀ x ∈ la, Fit k x) (hb : ∀ x ∈ lb, Fit k x) : ∀ x ∈ sumR k la lb, Fit k x := fun x hx =>
  sums_fit hk ha hb x ((lset_mem (k := 8) (fun z hz => (sums_fit hk ha hb z hz).1) x).1 hx)
theorem sumR_mem {k : Nat} (hk : k ≤ 4) {la lb : List Lk} (ha : ∀ x ∈ la, Fit k x) (hb : ∀ x ∈ lb, Fit k x) (z : Lk) : z ∈ sumR k la lb ↔ ∃ x ∈ la, ∃ y ∈ lb, z = lplus k x y := by
  unfold sumR
  rw [lset_mem (k := 8) (fun z hz => (sums_fit hk ha hb z hz).1), sums_mem]
theorem sumR_asc {k : Nat} (hk : k ≤ 4) {la lb : List Lk} (ha : ∀ x ∈ la, Fit k x) (hb : ∀ x ∈ lb, Fit k x) : Asc (sumR k la lb) := lset_asc (k := 8) fun z hz => (sums_fit hk ha hb z hz).1
/-- one look more on the left -/
theorem sumR_next {k : Nat} (hk : k ≤ 4) {la lb m : List Lk} {i : Nat} {x : Lk} (ha : ∀ x ∈ la, Fit k x) (hb : ∀ x ∈ lb, Fit k x) (hx : la[i]? = some x) (hm : ∀ z ∈ m, z.right 8) (has : Asc m) (hmm : ∀ z, z ∈ m ↔ ∃ y ∈ lb, z = lplus k x y) :
    lmerge (sumR k (la.take i) lb) m = sumR k (la.take (i + 1)) lb := by
  have ht : ∀ {j : Nat}, ∀ x ∈ la.take j, Fit k x := fun x h => ha x (List.mem_of_mem_take h)
  have hil := (List.getElem?_eq_some_iff.1 hx).1
  have htk : la.take (i + 1) = la.take i ++ [x] := by
    rw [List.take_succ_eq_append_getElem hil, (List.getElem?_eq_some_iff.1 hx).2]
  have h8 : ∀ z ∈ sumR k (la.take i) lb, z.right 8 := fun z hz => (sumR_fit hk ht hb z hz).1
  rw [merge_set h8 hm (sumR_asc hk ht hb) has]
  refine (lset_of (k := 8) (fun z hz => (List.mem_append.1 hz).elim (h8 z) (hm z)) (sumR_asc hk ht hb) fun z => ?_).symm
  rw [sumR_mem hk ht hb, List.mem_append, sumR_mem hk ht hb, hmm, htk]
  constructor
  · rintro ⟨x', hx', y, hy, rfl⟩
    rcases List.mem_append.1 hx' with h | h
    · exact .inl ⟨x', h, y, hy, rfl⟩
    · simp at h; subst h; exact .inr ⟨y, hy, rfl⟩
  · rintro (⟨x', hx', y, hy, rfl⟩ | ⟨y, hy, rfl⟩)
    · exact ⟨x', List.mem_append_left _ hx', y, hy, rfl⟩
    · exact ⟨x, by simp, y, hy, rfl⟩

set_option maxRecDepth 100000 in
set_option maxHeartbeats 2000000 in
theorem sum_ok (m : Int) (k : Nat) (A A2 : Option Addr) (n n2 c c2 : Nat) (la lb : List Lk) (w : World) (hm1 : 1 ≤ m) (hm8 : m ≤ 8) (h1 : 1 ≤ k) (hk : k ≤ 4) (ha : SetAt w m A n c la) (hb : SetAt w m A2 n2 c2 lb) (hfa : ∀ x ∈ la, Fit k x) (hfb : ∀ x ∈ lb, Fit k x) :
    Calls Tryz.prog 40 #[.int .i64 m, .int .i64 k, .slice A n c, .slice A2 n2 c2] w (RetL0 w (sumR k la lb)) := by
  have hP := Lib.hid (fun (v : Value) (w' : World) (h1 : OwnL w' w.heap.size v (sumR k la lb)) (h2 : Below w.heap.size w w') => (show RetL0 w (sumR k la lb) (.returned (.tuple #[v, .int .i64 0])) w' from ⟨v, rfl, h1, h2⟩))
  have hfa' := Lib.hid hfa
  have hfb' := Lib.hid hfb
  have hasa := Lib.hid ha.asc
  have hasb := Lib.hid hb.asc
  have hJ := Lib.hid (fun (x y : Lk) (hx : Fit k x) (hy : Fit k y) (W : World) => join14_right k x y W h1 hk hx.1 hy.1)
  have hna := ha.n4
  have hnb := hb.n4
  have hla := ha.rd.1
  have hlb := hb.rd.1
  go_enter Tryz.func40, Tryz.ntmps40
  go_wp2_with fail
  refine (both14_ok m A A2 n n2 c c2 la lb _ hm1 hm8 ha hb).mono ?_
  rintro e w1 ⟨rfl, hb1⟩
  have ha1 := ha.step hb1
  have hb1' := hb.step hb1
  go_wp2_with fail
  refine (ranged_ok k _ h1 hk).mono ?_
  rintro e w2 ⟨rfl, rfl⟩
  go_wp2_with fail
  refine (cut14_any k A n c la _ h1 hk (by omega) ha1.rd (fun x hx => (hfa x hx).1) ha1.nc ha1.cm).mono ?_
  rintro e w3 ⟨v3, rfl, ho3, hb3⟩
  rw [lcut_same hk hfa ha.asc] at ho3
  obtain ⟨A3, c3, rfl, hd3, hk3, hm3, hg3⟩ := ho3.reads
  go_wp2_with fail
  refine (cut14_any k A2 n2 c2 lb _ h1 hk (by omega) (hb1'.step hb3).rd (fun x hx => (hfb x hx).1) hb.nc hb.cm).mono ?_
  rintro e w4 ⟨v4, rfl, ho4, hb4⟩
  rw [lcut_same hk hfb hb.asc] at ho4
  obtain ⟨A4, c4, rfl, hd4, hk4, hm4, hg4⟩ := ho4.reads
  have hd3' := (hd3.below hb4).mono hb4.size
  have hbw : Below w.heap.size w w4 := bStep (bStep hb1 hb3) hb4
  clear ha hb ha1 hb1' hb1 hb3 hb4 ho3 ho4 hd3 hg3 hg4 hfa hfb
  go_wp2_with fail
  go_loopg [11, 12] n (fun gk s11 s12 wr => ∃ i : Nat, s12 = .int .i64 i ∧ i + gk = n ∧ OwnL wr w4.heap.size s11 (sumR k (la.take i) lb) ∧ Below w4.heap.size w4 wr)
  case atStart => exact ⟨0, rfl, by omega, by simpa [sumR, sumsJ, lset] using OwnL.nil _ _, Below.refl _ _⟩
  case round =>
    obtain ⟨i, rfl, hi, ho, hb⟩ := hrel
    replace hi := Lib.hid hi
    by_cases hin : i < n
    · have hil : i < la.length := by omega
      have hx : la[i]? = some la[i] := List.getElem?_eq_getElem hil
      have hdr := hd3'.below hb
      obtain ⟨b, off, hA3, hbt, x0, x1, x2, x3, x4⟩ := hdr.get hx
      have hxf := hfa'.out _ (List.getElem_mem hil)
      have hU8 : ∀ z ∈ sumR k (la.take i) lb, z.right 8 := fun z hz => (sumR_fit hk (fun x h => hfa'.out x (List.mem_of_mem_take h)) hfb'.out z hz).1
      have hUl : (sumR k (la.take i) lb).length ≤ 4681 := right_len (asc_nodup (sumR_asc hk (fun x h => hfa'.out x (List.mem_of_mem_take h)) hfb'.out)) hU8
      have hNx := Lib.hid (fun (m : List Lk) h1 h2 h3 => sumR_next hk hfa'.out hfb'.out hx (m := m) h1 h2 h3)
      generalize la[i] = x at *
      generalize sumR k (la.take i) lb = U at *
      replace hx := Lib.hid hx
      have hz0 : (0 : Int) ≤ i := by omega
      have hz1 : (i : Int) < la.length := by omega
      obtain ⟨A1, c1, rfl, hd1, hk1, hm1', hg1⟩ := ho.reads
      have hnr := (right_l hxf.1).1
      have hone : RdL wr wr.heap.size (some ⟨b, off + i * 5, none⟩) 1 [x] := by
        refine ⟨rfl, .inr ⟨b, off + i * 5, rfl, Nat.lt_of_lt_of_le hbt hb.size, fun j y hy j' hj' => ?_⟩⟩
        have hj0 : j = 0 := by have := (List.getElem?_eq_some_iff.1 hy).1; simp at this; omega
        subst hj0
        simp at hy
        subst hy
        rcases j' with _ | _ | _ | _ | _ | j' <;> first | (simp [Lk.cells, x0, x1, x2, x3, x4]; done) | omega
      unfold maxLen at hm3
      subst hA3
      by_cases hfull : x.n = (k : Int)
      · have hfl : x.l.length = k := by omega
        by_cases hemp : lb.length = 0
        · have hfb : (x.n == (k : Int)) = true := by simpa using hfull
          replace hfull := Lib.hid hfull
          replace hfl := Lib.hid hfl
          replace hnr := Lib.hid hnr
          have hbn : ¬ (0 : Int) < lb.length := by omega
          replace hemp := Lib.hid hemp
          have hbn2 : ¬ (0 : Int) < n2 := by omega
          go_wp2_with fail
          generalize wr = wE at *
          go_loopg [13, 14] n2 (fun gk2 s13 s14 wr => ∃ j : Nat, s14 = .int .i64 j ∧ j + gk2 = n2 ∧ OwnL wr wE.heap.size s13 ((lb.take j).map (lplus k x)) ∧ Below wE.heap.size wE wr)
          case atStart => exact ⟨0, rfl, by omega, by simpa using OwnL.nil _ _, Below.refl _ _⟩
          case round =>
            obtain ⟨j, rfl, hj, ho2, hbE⟩ := hrel
            replace hj := Lib.hid hj
            have hbF : Below w4.heap.size w4 wr := bStep hb hbE
            by_cases hjn : j < n2
            · have hjl : j < lb.length := by omega
              have hy : lb[j]? = some lb[j] := List.getElem?_eq_getElem hjl
              obtain ⟨b', off', hA4, hbt', y0, y1, y2, y3, y4⟩ := (hd4.below hbF).get hy
              have hyf := hfb'.out _ (List.getElem_mem hjl)
              have htk : lb.take (j + 1) = lb.take j ++ [lb[j]] := List.take_succ_eq_append_getElem hjl
              have hjj := Lib.hid (hJ.out x lb[j] hxf hyf)
              have hG : (lb.take (j + 1)).map (lplus k x) = (lb.take j).map (lplus k x) ++ [lplus k x lb[j]] := by rw [htk, List.map_append, List.map_cons, List.map_nil]
              have hl9 : ((lb.take j).map (lplus k x)).length < 1000000 := by rw [List.length_map, List.length_take]; omega
              clear htk
              generalize lb[j] = y at *
              generalize lplus k x y = z at *
              replace hy := Lib.hid hy
              replace hG := Lib.hid hG
              have x0' := cell_later hbE x0
              have x1' := cell_later hbE x1
              have x2' := cell_later hbE x2
              have x3' := cell_later hbE x3
              have x4' := cell_later hbE x4
              have hszE := hbE.size
              have hszq : ∀ (W : World), Below wr.heap.size wr W → wE.heap.size ≤ W.heap.size := fun W h => Nat.le_trans hszE h.size
              replace hszq := Lib.hid hszq
              have hzj : (0 : Int) ≤ j := by omega
              have hzj2 : (j : Int) < n2 := by omega
              have hzj3 : (j : Int) < lb.length := by omega
              subst hA4
              unfold Lk.v at hjj
              go_upto_region 15 with (fail)
              refine wp_region_held_drew (S := (fun _ => True)) (by kernel_rfl) trivial (fun hHeld => ?_)
              refine wpAnyH_take (i := 0) (oi := ⟨some 61, _, _, _, _, _⟩) (v := ?vp1) rfl (by kernel_rfl) (by kernel_rfl) (by kernel_rfl) (fun _ _ _ h => h) (Or.inl ⟨by rfl, ?hyp1⟩) (by assumption) ?restp1
              case hyp1 => (intro w hSw; (try dsimp only at hSw); go_simp <;> with_reducible rfl)
              try simp only [Act.put, List.setIfInBounds_toArray, List.set_cons_zero, List.set_cons_succ]
              refine wpAnyH_take (i := 1) (oi := ⟨some 62, _, _, _, _, _⟩) (v := ?vp2) rfl (by kernel_rfl) (by kernel_rfl) (by kernel_rfl) (fun _ _ _ h => h) (Or.inl ⟨by rfl, ?hyp2⟩) (by assumption) ?restp2
              case hyp2 => (intro w hSw; (try dsimp only at hSw); go_simp <;> with_reducible rfl)
              try simp only [Act.put, List.setIfInBounds_toArray, List.set_cons_zero, List.set_cons_succ]
              refine wpAnyH_take (i := 2) (oi := ⟨some 63, _, _, _, _, _⟩) (v := ?vp3) rfl (by kernel_rfl) (by kernel_rfl) (by kernel_rfl) (fun _ _ _ h => h) (Or.inl ⟨by rfl, ?hyp3⟩) (by assumption) ?restp3
              case hyp3 => (intro w hSw; (try dsimp only at hSw); go_simp <;> with_reducible rfl)
              try simp only [Act.put, List.setIfInBounds_toArray, List.set_cons_zero, List.set_cons_succ]
              refine wpAnyH_take (i := 3) (oi := ⟨some 64, _, _, _, _, _⟩) (v := ?vp4) rfl (by kernel_rfl) (by kernel_rfl) (by kernel_rfl) (fun _ _ _ h => h) (Or.inl ⟨by rfl, ?hyp4⟩) (by assumption) ?restp4
              case hyp4 => (intro w hSw; (try dsimp only at hSw); go_simp <;> with_reducible rfl)
              try simp only [Act.put, List.setIfInBounds_toArray, List.set_cons_zero, List.set_cons_succ]
              refine wpAnyH_take (i := 4) (oi := ⟨some 65, _, _, _, _, _⟩) (v := ?vp5) rfl (by kernel_rfl) (by kernel_rfl) (by kernel_rfl) (fun _ _ _ h => h) (Or.inl ⟨by rfl, ?hyp5⟩) (by assumption) ?restp5
              case hyp5 => (intro w hSw; (try dsimp only at hSw); go_simp <;> with_reducible rfl)
              try simp only [Act.put, List.setIfInBounds_toArray, List.set_cons_zero, List.set_cons_succ]
              refine wpAnyH_take (i := 6) (oi := ⟨some 67, _, _, _, _, _⟩) (v := ?vp6) rfl (by kernel_rfl) (by kernel_rfl) (by kernel_rfl) (fun _ _ _ h => h) (Or.inl ⟨by rfl, ?hyp6⟩) (by assumption) ?restp6
              case hyp6 => (intro w hSw; (try dsimp only at hSw); go_simp <;> with_reducible rfl)
              try simp only [Act.put, List.setIfInBounds_toArray, List.set_cons_zero, List.set_cons_succ]
              refine wpAnyH_take (i := 7) (oi := ⟨some 68, _, _, _, _, _⟩) (v := ?vp7) rfl (by kernel_rfl) (by kernel_rfl) (by kernel_rfl) (fun _ _ _ h => h) (Or.inl ⟨by rfl, ?hyp7⟩) (by assumption) ?restp7
              case hyp7 => (intro w hSw; (try dsimp only at hSw); go_simp <;> with_reducible rfl)
              try simp only [Act.put, List.setIfInBounds_toArray, List.set_cons_zero, List.set_cons_succ]
              refine wpAnyH_take (i := 8) (oi := ⟨some 69, _, _, _, _, _⟩) (v := ?vp8) rfl (by kernel_rfl) (by kernel_rfl) (by kernel_rfl) (fun _ _ _ h => h) (Or.inl ⟨by rfl, ?hyp8⟩) (by assumption) ?restp8
              case hyp8 => (intro w hSw; (try dsimp only at hSw); go_simp <;> with_reducible rfl)
              try simp only [Act.put, List.setIfInBounds_toArray, List.set_cons_zero, List.set_cons_succ]
              refine wpAnyH_ready (rs := [5, 9]) (by kernel_rfl) (by simp) ?_
              refine AllReadyH.cons (o := ⟨some 66, _, _, _, _, _⟩) rfl (fun K hK => ?_) ?_
              · go_simp
                refine hK.out _ _ ?_ (fun hHeld => ?_)
                · trivial
                clear hK K
                try simp only [Act.put, List.setIfInBounds_toArray, List.set_cons_zero, List.set_cons_succ]
                refine wpAnyH_ready (rs := [9]) (by kernel_rfl) (by simp) ?_
                refine AllReadyH.cons (o := ⟨some 70, _, _, _, _, _⟩) rfl (fun K hK => ?_) ?_
                · go_simp
                  refine hK.out _ _ ?_ (fun hHeld => ?_)
                  · trivial
                  clear hK K
                  try simp only [Act.put, List.setIfInBounds_toArray, List.set_cons_zero, List.set_cons_succ]
                  refine wpAnyH_ready (rs := [10]) (by kernel_rfl) (by simp) ?_
                  refine AllReadyH.cons (o := ⟨some 71, _, _, _, _, _⟩) rfl (fun K hK => ?_) ?_
                  · go_simp
                    go_at_call 83
                    refine (hjj.out _).mono ?_
                    rintro e w9 ⟨rfl, hb9⟩
                    go_wp2_with fail
                    refine hK.out _ _ ?_ (fun hHeld => ?_)
                    · trivial
                    clear hK K
                    try simp only [Act.put, List.setIfInBounds_toArray, List.set_cons_zero, List.set_cons_succ]
                    refine wpAnyH_ready (rs := [11]) (by kernel_rfl) (by simp) ?_
                    refine AllReadyH.cons (o := ⟨some 72, _, _, _, _, _⟩) rfl (fun K hK => ?_) ?_
                    · go_simp
                      refine hK.out _ _ ?_ (fun hHeld => ?_)
                      · trivial
                      clear hK K
                      try simp only [Act.put, List.setIfInBounds_toArray, List.set_cons_zero, List.set_cons_succ]
                      refine wpAnyH_ready (rs := [12]) (by kernel_rfl) (by simp) ?_
                      refine AllReadyH.cons (o := ⟨some 73, _, _, _, _, _⟩) rfl (fun K hK => ?_) ?_
                      · skip
                        refine step_of_wp _ (by rfl) ?_
                        refine wp_pushL _ _ (by rfl) wE.heap.size _ _ (by rfl) (ho2.step (by repeat (first | assumption | exact Below.refl _ _ | (refine bStep ?_ (by assumption)) | (with_reducible refine bAlc ?_ _) | (with_reducible refine bDrw ?_)))) _ z (by rfl) (Blk.new _ _ _) hl9 (hszq _ (by repeat (first | assumption | exact Below.refl _ _ | (refine bStep ?_ (by assumption)) | (with_reducible refine bAlc ?_ _) | (with_reducible refine bDrw ?_)))) ?_
                        intro v9 wn ho9 hg9 hb9n
                        refine hK.out _ _ ?_ (fun hHeld => ?_)
                        · trivial
                        clear hK K
                        try simp only [Act.put, List.setIfInBounds_toArray, List.set_cons_zero, List.set_cons_succ]
                        refine wpAnyH_take (i := 13) (oi := ⟨some 13, _, _, _, _, _⟩) (v := ?vp9) rfl (by kernel_rfl) (by kernel_rfl) (by kernel_rfl) (fun _ _ _ h => h) (Or.inl ⟨by rfl, ?hyp9⟩) (by assumption) ?restp9
                        case hyp9 => (intro w hSw; (try dsimp only at hSw); go_simp <;> with_reducible rfl)
                        try simp only [Act.put, List.setIfInBounds_toArray, List.set_cons_zero, List.set_cons_succ]
                        refine wpAnyH_done (by kernel_rfl) ?_ _
                        go_wp2_with fail
                        have hbn : Below wE.heap.size wE wn := hb9n wE (hbE.trans (Below.mono (B := wr.heap.size) (by repeat (first | assumption | exact Below.refl _ _ | (refine bStep ?_ (by assumption)) | (with_reducible refine bAlc ?_ _) | (with_reducible refine bDrw ?_))) hbE.size))
                        go_roundg (n2 - (j + 1))
                        case measure => have := hj.out; omega
                        case rel => exact ⟨j + 1, by go_num, by have := hj.out; omega, by rw [hG.out]; exact ho9, hbn⟩
                      exact AllReadyH.nil
                    exact AllReadyH.nil
                  exact AllReadyH.nil
                exact AllReadyH.nil
              refine AllReadyH.cons (o := ⟨some 70, _, _, _, _, _⟩) rfl (fun K hK => ?_) ?_
              · go_simp
                refine hK.out _ _ ?_ (fun hHeld => ?_)
                · trivial
                clear hK K
                try simp only [Act.put, List.setIfInBounds_toArray, List.set_cons_zero, List.set_cons_succ]
                refine wpAnyH_ready (rs := [5]) (by kernel_rfl) (by simp) ?_
                refine AllReadyH.cons (o := ⟨some 66, _, _, _, _, _⟩) rfl (fun K hK => ?_) ?_
                · go_simp
                  refine hK.out _ _ ?_ (fun hHeld => ?_)
                  · trivial
                  clear hK K
                  try simp only [Act.put, List.setIfInBounds_toArray, List.set_cons_zero, List.set_cons_succ]
                  refine wpAnyH_ready (rs := [10]) (by kernel_rfl) (by simp) ?_
                  refine AllReadyH.cons (o := ⟨some 71, _, _, _, _, _⟩) rfl (fun K hK => ?_) ?_
                  · go_simp
                    go_at_call 83
                    refine (hjj.out _).mono ?_
                    rintro e w9 ⟨rfl, hb9⟩
                    go_wp2_with fail
                    refine hK.out _ _ ?_ (fun hHeld => ?_)
                    · trivial
                    clear hK K
                    try simp only [Act.put, List.setIfInBounds_toArray, List.set_cons_zero, List.set_cons_succ]
                    refine wpAnyH_ready (rs := [11]) (by kernel_rfl) (by simp) ?_
                    refine AllReadyH.cons (o := ⟨some 72, _, _, _, _, _⟩) rfl (fun K hK => ?_) ?_
                    · go_simp
                      refine hK.out _ _ ?_ (fun hHeld => ?_)
                      · trivial
                      clear hK K
                      try simp only [Act.put, List.setIfInBounds_toArray, List.set_cons_zero, List.set_cons_succ]
                      refine wpAnyH_ready (rs := [12]) (by kernel_rfl) (by simp) ?_
                      refine AllReadyH.cons (o := ⟨some 73, _, _, _, _, _⟩) rfl (fun K hK => ?_) ?_
                      · skip
                        refine step_of_wp _ (by rfl) ?_
                        refine wp_pushL _ _ (by rfl) wE.heap.size _ _ (by rfl) (ho2.step (by repeat (first | assumption | exact Below.refl _ _ | (refine bStep ?_ (by assumption)) | (with_reducible refine bAlc ?_ _) | (with_reducible refine bDrw ?_)))) _ z (by rfl) (Blk.new _ _ _) hl9 (hszq _ (by repeat (first | assumption | exact Below.refl _ _ | (refine bStep ?_ (by assumption)) | (with_reducible refine bAlc ?_ _) | (with_reducible refine bDrw ?_)))) ?_
                        intro v9 wn ho9 hg9 hb9n
                        refine hK.out _ _ ?_ (fun hHeld => ?_)
                        · trivial
                        clear hK K
                        try simp only [Act.put, List.setIfInBounds_toArray, List.set_cons_zero, List.set_cons_succ]
                        refine wpAnyH_take (i := 13) (oi := ⟨some 13, _, _, _, _, _⟩) (v := ?vp10) rfl (by kernel_rfl) (by kernel_rfl) (by kernel_rfl) (fun _ _ _ h => h) (Or.inl ⟨by rfl, ?hyp10⟩) (by assumption) ?restp10
                        case hyp10 => (intro w hSw; (try dsimp only at hSw); go_simp <;> with_reducible rfl)
                        try simp only [Act.put, List.setIfInBounds_toArray, List.set_cons_zero, List.set_cons_succ]
                        refine wpAnyH_done (by kernel_rfl) ?_ _
                        go_wp2_with fail
                        have hbn : Below wE.heap.size wE wn := hb9n wE (hbE.trans (Below.mono (B := wr.heap.size) (by repeat (first | assumption | exact Below.refl _ _ | (refine bStep ?_ (by assumption)) | (with_reducible refine bAlc ?_ _) | (with_reducible refine bDrw ?_))) hbE.size))
                        go_roundg (n2 - (j + 1))
                        case measure => have := hj.out; omega
                        case rel => exact ⟨j + 1, by go_num, by have := hj.out; omega, by rw [hG.out]; exact ho9, hbn⟩
                      exact AllReadyH.nil
                    exact AllReadyH.nil
                  exact AllReadyH.nil
                exact AllReadyH.nil
              exact AllReadyH.nil
            · have hje : j = n2 := by have := hj.out; omega
              subst hje
              have htk : lb.take j = lb := List.take_of_length_le (by omega)
              rw [htk] at ho2
              clear htk
              have hr5 : ∀ z ∈ lb.map (lplus k x), z.right 8 := by
                intro z hz
                obtain ⟨y, hy, rfl⟩ := List.mem_map.1 hz
                exact lplus_right hk hxf.1 (hfb'.out y hy).1
              have hl5 : (lb.map (lplus k x)).length ≤ 4681 := by rw [List.length_map]; omega
              have hN5 := hNx.out (lset (lb.map (lplus k x))) (fun z hz => lset_right hr5 z hz) (lset_asc hr5) (fun z => by rw [lset_mem hr5, List.mem_map]; exact ⟨fun ⟨y, a, b⟩ => ⟨y, a, b.symm⟩, fun ⟨y, a, b⟩ => ⟨y, a, b.symm⟩⟩)
              have hl6 : (lset (lb.map (lplus k x))).length ≤ 4681 := Nat.le_trans (lset_len hr5) hl5
              have hr6 : ∀ z ∈ lset (lb.map (lplus k x)), z.right 8 := fun z hz => lset_right hr5 z hz
              replace hN5 := Lib.hid hN5
              generalize hL5 : lb.map (lplus k x) = L at *
              replace hL5 := Lib.hid hL5
              obtain ⟨A5, c5, rfl, hd5, hk5, hm5, hg5⟩ := ho2.reads
              go_wp2_with fail
              refine (sorted14_any 100000 A5 L.length c5 L _ (by omega) (by omega) hd5 hr5 hk5 hm5).mono ?_
              rintro e w6 ⟨v6, rfl, ho6, hb6⟩
              generalize lset L = M at *
              obtain ⟨A6, c6, rfl, hd6, hk6, hm6, hg6⟩ := ho6.reads
              have hbE6 : Below wE.heap.size wE w6 := bStep hbE hb6
              go_wp2_with fail
              refine (merge_any A1 A6 U.length M.length c1 c6 U M _ ((hd1.below hbE6).mono hbE6.size) hd6 hU8 hr6 hk1 hk6 hm1' hm6 (by omega)).mono ?_
              rintro e w7 ⟨v7, rfl, ho7, hb7⟩
              rw [hN5.out] at ho7
              go_wp2_with fail
              have hb9 := bStep (bStep hb hbE6) hb7
              go_roundg (n - (i + 1))
              case measure => have := hi.out; omega
              case rel => exact ⟨i + 1, by go_num, by have := hi.out; omega, ho7.mono (by have := hb.size; have := hbE6.size; omega), hb9⟩
        · have hbp : (0 : Int) < lb.length := by omega
          obtain ⟨y9, hy9⟩ : ∃ y, y ∈ lb := List.exists_mem_of_length_pos (by omega)
          have hN5 := hNx.out [x] (by simpa using hxf.1) (asc_one x) (fun z => by
            simp only [List.mem_singleton]
            exact ⟨fun e => ⟨y9, hy9, by rw [full_plus hk hxf (hfb'.out y9 hy9).1 hfl]; exact e⟩, fun ⟨y, hy, e⟩ => by rw [full_plus hk hxf (hfb'.out y hy).1 hfl] at e; exact e⟩)
          rw [hfull] at x0
          have hz2 : ¬ c3 = i := by omega
          have hz3 : (i : Int) + 1 ≤ c3 := by omega
          replace hN5 := Lib.hid hN5
          have hz4 : 1 ≤ c3 - i := by omega
          have hz5 : c3 - i ≤ maxLen := by unfold maxLen; omega
          go_wp2_with fail
          refine (merge_any A1 _ U.length 1 c1 _ U [x] _ hd1 hone hU8 (by simpa using hxf.1) hk1 hz4 hm1' hz5 (by omega)).mono ?_
          rintro e w7 ⟨v7, rfl, ho7, hb7⟩
          rw [hN5.out] at ho7
          go_wp2_with fail
          have hb9 := bStep hb hb7
          go_roundg (n - (i + 1))
          case measure => have := hi.out; omega
          case rel => exact ⟨i + 1, by go_num, by have := hi.out; omega, ho7.mono hb.size, hb9⟩
      · have hfb : (x.n == (k : Int)) = false := by simpa using hfull
        replace hfull := Lib.hid hfull
        replace hnr := Lib.hid hnr
        go_wp2_with fail
        generalize wr = wE at *
        go_loopg [13, 14] n2 (fun gk2 s13 s14 wr => ∃ j : Nat, s14 = .int .i64 j ∧ j + gk2 = n2 ∧ OwnL wr wE.heap.size s13 ((lb.take j).map (lplus k x)) ∧ Below wE.heap.size wE wr)
        case atStart => exact ⟨0, rfl, by omega, by simpa using OwnL.nil _ _, Below.refl _ _⟩
        case round =>
          obtain ⟨j, rfl, hj, ho2, hbE⟩ := hrel
          replace hj := Lib.hid hj
          have hbF : Below w4.heap.size w4 wr := bStep hb hbE
          by_cases hjn : j < n2
          · have hjl : j < lb.length := by omega
            have hy : lb[j]? = some lb[j] := List.getElem?_eq_getElem hjl
            obtain ⟨b', off', hA4, hbt', y0, y1, y2, y3, y4⟩ := (hd4.below hbF).get hy
            have hyf := hfb'.out _ (List.getElem_mem hjl)
            have htk : lb.take (j + 1) = lb.take j ++ [lb[j]] := List.take_succ_eq_append_getElem hjl
            have hjj := Lib.hid (hJ.out x lb[j] hxf hyf)
            have hG : (lb.take (j + 1)).map (lplus k x) = (lb.take j).map (lplus k x) ++ [lplus k x lb[j]] := by rw [htk, List.map_append, List.map_cons, List.map_nil]
            have hl9 : ((lb.take j).map (lplus k x)).length < 1000000 := by rw [List.length_map, List.length_take]; omega
            clear htk
            generalize lb[j] = y at *
            generalize lplus k x y = z at *
            replace hy := Lib.hid hy
            replace hG := Lib.hid hG
            have x0' := cell_later hbE x0
            have x1' := cell_later hbE x1
            have x2' := cell_later hbE x2
            have x3' := cell_later hbE x3
            have x4' := cell_later hbE x4
            have hszE := hbE.size
            have hszq : ∀ (W : World), Below wr.heap.size wr W → wE.heap.size ≤ W.heap.size := fun W h => Nat.le_trans hszE h.size
            replace hszq := Lib.hid hszq
            have hzj : (0 : Int) ≤ j := by omega
            have hzj2 : (j : Int) < n2 := by omega
            have hzj3 : (j : Int) < lb.length := by omega
            subst hA4
            unfold Lk.v at hjj
            go_upto_region 15 with (fail)
            refine wp_region_held_drew (S := (fun _ => True)) (by kernel_rfl) trivial (fun hHeld => ?_)
            refine wpAnyH_take (i := 0) (oi := ⟨some 61, _, _, _, _, _⟩) (v := ?vq1) rfl (by kernel_rfl) (by kernel_rfl) (by kernel_rfl) (fun _ _ _ h => h) (Or.inl ⟨by rfl, ?hyq1⟩) (by assumption) ?restq1
            case hyq1 => (intro w hSw; (try dsimp only at hSw); go_simp <;> with_reducible rfl)
            try simp only [Act.put, List.setIfInBounds_toArray, List.set_cons_zero, List.set_cons_succ]
            refine wpAnyH_take (i := 1) (oi := ⟨some 62, _, _, _, _, _⟩) (v := ?vq2) rfl (by kernel_rfl) (by kernel_rfl) (by kernel_rfl) (fun _ _ _ h => h) (Or.inl ⟨by rfl, ?hyq2⟩) (by assumption) ?restq2
            case hyq2 => (intro w hSw; (try dsimp only at hSw); go_simp <;> with_reducible rfl)
            try simp only [Act.put, List.setIfInBounds_toArray, List.set_cons_zero, List.set_cons_succ]
            refine wpAnyH_take (i := 2) (oi := ⟨some 63, _, _, _, _, _⟩) (v := ?vq3) rfl (by kernel_rfl) (by kernel_rfl) (by kernel_rfl) (fun _ _ _ h => h) (Or.inl ⟨by rfl, ?hyq3⟩) (by assumption) ?restq3
            case hyq3 => (intro w hSw; (try dsimp only at hSw); go_simp <;> with_reducible rfl)
            try simp only [Act.put, List.setIfInBounds_toArray, List.set_cons_zero, List.set_cons_succ]
            refine wpAnyH_take (i := 3) (oi := ⟨some 64, _, _, _, _, _⟩) (v := ?vq4) rfl (by kernel_rfl) (by kernel_rfl) (by kernel_rfl) (fun _ _ _ h => h) (Or.inl ⟨by rfl, ?hyq4⟩) (by assumption) ?restq4
            case hyq4 => (intro w hSw; (try dsimp only at hSw); go_simp <;> with_reducible rfl)
            try simp only [Act.put, List.setIfInBounds_toArray, List.set_cons_zero, List.set_cons_succ]
            refine wpAnyH_take (i := 4) (oi := ⟨some 65, _, _, _, _, _⟩) (v := ?vq5) rfl (by kernel_rfl) (by kernel_rfl) (by kernel_rfl) (fun _ _ _ h => h) (Or.inl ⟨by rfl, ?hyq5⟩) (by assumption) ?restq5
            case hyq5 => (intro w hSw; (try dsimp only at hSw); go_simp <;> with_reducible rfl)
            try simp only [Act.put, List.setIfInBounds_toArray, List.set_cons_zero, List.set_cons_succ]
            refine wpAnyH_take (i := 6) (oi := ⟨some 67, _, _, _, _, _⟩) (v := ?vq6) rfl (by kernel_rfl) (by kernel_rfl) (by kernel_rfl) (fun _ _ _ h => h) (Or.inl ⟨by rfl, ?hyq6⟩) (by assumption) ?restq6
            case hyq6 => (intro w hSw; (try dsimp only at hSw); go_simp <;> with_reducible rfl)
            try simp only [Act.put, List.setIfInBounds_toArray, List.set_cons_zero, List.set_cons_succ]
            refine wpAnyH_take (i := 7) (oi := ⟨some 68, _, _, _, _, _⟩) (v := ?vq7) rfl (by kernel_rfl) (by kernel_rfl) (by kernel_rfl) (fun _ _ _ h => h) (Or.inl ⟨by rfl, ?hyq7⟩) (by assumption) ?restq7
            case hyq7 => (intro w hSw; (try dsimp only at hSw); go_simp <;> with_reducible rfl)
            try simp only [Act.put, List.setIfInBounds_toArray, List.set_cons_zero, List.set_cons_succ]
            refine wpAnyH_take (i := 8) (oi := ⟨some 69, _, _, _, _, _⟩) (v := ?vq8) rfl (by kernel_rfl) (by kernel_rfl) (by kernel_rfl) (fun _ _ _ h => h) (Or.inl ⟨by rfl, ?hyq8⟩) (by assumption) ?restq8
            case hyq8 => (intro w hSw; (try dsimp only at hSw); go_simp <;> with_reducible rfl)
            try simp only [Act.put, List.setIfInBounds_toArray, List.set_cons_zero, List.set_cons_succ]
            refine wpAnyH_ready (rs := [5, 9]) (by kernel_rfl) (by simp) ?_
            refine AllReadyH.cons (o := ⟨some 66, _, _, _, _, _⟩) rfl (fun K hK => ?_) ?_
            · go_simp
              refine hK.out _ _ ?_ (fun hHeld => ?_)
              · trivial
              clear hK K
              try simp only [Act.put, List.setIfInBounds_toArray, List.set_cons_zero, List.set_cons_succ]
              refine wpAnyH_ready (rs := [9]) (by kernel_rfl) (by simp) ?_
              refine AllReadyH.cons (o := ⟨some 70, _, _, _, _, _⟩) rfl (fun K hK => ?_) ?_
              · go_simp
                refine hK.out _ _ ?_ (fun hHeld => ?_)
                · trivial
                clear hK K
                try simp only [Act.put, List.setIfInBounds_toArray, List.set_cons_zero, List.set_cons_succ]
                refine wpAnyH_ready (rs := [10]) (by kernel_rfl) (by simp) ?_
                refine AllReadyH.cons (o := ⟨some 71, _, _, _, _, _⟩) rfl (fun K hK => ?_) ?_
                · go_simp
                  go_at_call 83
                  refine (hjj.out _).mono ?_
                  rintro e w9 ⟨rfl, hb9⟩
                  go_wp2_with fail
                  refine hK.out _ _ ?_ (fun hHeld => ?_)
                  · trivial
                  clear hK K
                  try simp only [Act.put, List.setIfInBounds_toArray, List.set_cons_zero, List.set_cons_succ]
                  refine wpAnyH_ready (rs := [11]) (by kernel_rfl) (by simp) ?_
                  refine AllReadyH.cons (o := ⟨some 72, _, _, _, _, _⟩) rfl (fun K hK => ?_) ?_
                  · go_simp
                    refine hK.out _ _ ?_ (fun hHeld => ?_)
                    · trivial
                    clear hK K
                    try simp only [Act.put, List.setIfInBounds_toArray, List.set_cons_zero, List.set_cons_succ]
                    refine wpAnyH_ready (rs := [12]) (by kernel_rfl) (by simp) ?_
                    refine AllReadyH.cons (o := ⟨some 73, _, _, _, _, _⟩) rfl (fun K hK => ?_) ?_
                    · skip
                      refine step_of_wp _ (by rfl) ?_
                      refine wp_pushL _ _ (by rfl) wE.heap.size _ _ (by rfl) (ho2.step (by repeat (first | assumption | exact Below.refl _ _ | (refine bStep ?_ (by assumption)) | (with_reducible refine bAlc ?_ _) | (with_reducible refine bDrw ?_)))) _ z (by rfl) (Blk.new _ _ _) hl9 (hszq _ (by repeat (first | assumption | exact Below.refl _ _ | (refine bStep ?_ (by assumption)) | (with_reducible refine bAlc ?_ _) | (with_reducible refine bDrw ?_)))) ?_
                      intro v9 wn ho9 hg9 hb9n
                      refine hK.out _ _ ?_ (fun hHeld => ?_)
                      · trivial
                      clear hK K
                      try simp only [Act.put, List.setIfInBounds_toArray, List.set_cons_zero, List.set_cons_succ]
                      refine wpAnyH_take (i := 13) (oi := ⟨some 13, _, _, _, _, _⟩) (v := ?vq9) rfl (by kernel_rfl) (by kernel_rfl) (by kernel_rfl) (fun _ _ _ h => h) (Or.inl ⟨by rfl, ?hyq9⟩) (by assumption) ?restq9
                      case hyq9 => (intro w hSw; (try dsimp only at hSw); go_simp <;> with_reducible rfl)
                      try simp only [Act.put, List.setIfInBounds_toArray, List.set_cons_zero, List.set_cons_succ]
                      refine wpAnyH_done (by kernel_rfl) ?_ _
                      go_wp2_with fail
                      have hbn : Below wE.heap.size wE wn := hb9n wE (hbE.trans (Below.mono (B := wr.heap.size) (by repeat (first | assumption | exact Below.refl _ _ | (refine bStep ?_ (by assumption)) | (with_reducible refine bAlc ?_ _) | (with_reducible refine bDrw ?_))) hbE.size))
                      go_roundg (n2 - (j + 1))
                      case measure => have := hj.out; omega
                      case rel => exact ⟨j + 1, by go_num, by have := hj.out; omega, by rw [hG.out]; exact ho9, hbn⟩
                    exact AllReadyH.nil
                  exact AllReadyH.nil
                exact AllReadyH.nil
              exact AllReadyH.nil
            refine AllReadyH.cons (o := ⟨some 70, _, _, _, _, _⟩) rfl (fun K hK => ?_) ?_
            · go_simp
              refine hK.out _ _ ?_ (fun hHeld => ?_)
              · trivial
              clear hK K
              try simp only [Act.put, List.setIfInBounds_toArray, List.set_cons_zero, List.set_cons_succ]
              refine wpAnyH_ready (rs := [5]) (by kernel_rfl) (by simp) ?_
              refine AllReadyH.cons (o := ⟨some 66, _, _, _, _, _⟩) rfl (fun K hK => ?_) ?_
              · go_simp
                refine hK.out _ _ ?_ (fun hHeld => ?_)
                · trivial
                clear hK K
                try simp only [Act.put, List.setIfInBounds_toArray, List.set_cons_zero, List.set_cons_succ]
                refine wpAnyH_ready (rs := [10]) (by kernel_rfl) (by simp) ?_
                refine AllReadyH.cons (o := ⟨some 71, _, _, _, _, _⟩) rfl (fun K hK => ?_) ?_
                · go_simp
                  go_at_call 83
                  refine (hjj.out _).mono ?_
                  rintro e w9 ⟨rfl, hb9⟩
                  go_wp2_with fail
                  refine hK.out _ _ ?_ (fun hHeld => ?_)
                  · trivial
                  clear hK K
                  try simp only [Act.put, List.setIfInBounds_toArray, List.set_cons_zero, List.set_cons_succ]
                  refine wpAnyH_ready (rs := [11]) (by kernel_rfl) (by simp) ?_
                  refine AllReadyH.cons (o := ⟨some 72, _, _, _, _, _⟩) rfl (fun K hK => ?_) ?_
                  · go_simp
                    refine hK.out _ _ ?_ (fun hHeld => ?_)
                    · trivial
                    clear hK K
                    try simp only [Act.put, List.setIfInBounds_toArray, List.set_cons_zero, List.set_cons_succ]
                    refine wpAnyH_ready (rs := [12]) (by kernel_rfl) (by simp) ?_
                    refine AllReadyH.cons (o := ⟨some 73, _, _, _, _, _⟩) rfl (fun K hK => ?_) ?_
                    · skip
                      refine step_of_wp _ (by rfl) ?_
                      refine wp_pushL _ _ (by rfl) wE.heap.size _ _ (by rfl) (ho2.step (by repeat (first | assumption | exact Below.refl _ _ | (refine bStep ?_ (by assumption)) | (with_reducible refine bAlc ?_ _) | (with_reducible refine bDrw ?_)))) _ z (by rfl) (Blk.new _ _ _) hl9 (hszq _ (by repeat (first | assumption | exact Below.refl _ _ | (refine bStep ?_ (by assumption)) | (with_reducible refine bAlc ?_ _) | (with_reducible refine bDrw ?_)))) ?_
                      intro v9 wn ho9 hg9 hb9n
                      refine hK.out _ _ ?_ (fun hHeld => ?_)
                      · trivial
                      clear hK K
                      try simp only [Act.put, List.setIfInBounds_toArray, List.set_cons_zero, List.set_cons_succ]
                      refine wpAnyH_take (i := 13) (oi := ⟨some 13, _, _, _, _, _⟩) (v := ?vq10) rfl (by kernel_rfl) (by kernel_rfl) (by kernel_rfl) (fun _ _ _ h => h) (Or.inl ⟨by rfl, ?hyq10⟩) (by assumption) ?restq10
                      case hyq10 => (intro w hSw; (try dsimp only at hSw); go_simp <;> with_reducible rfl)
                      try simp only [Act.put, List.setIfInBounds_toArray, List.set_cons_zero, List.set_cons_succ]
                      refine wpAnyH_done (by kernel_rfl) ?_ _
                      go_wp2_with fail
                      have hbn : Below wE.heap.size wE wn := hb9n wE (hbE.trans (Below.mono (B := wr.heap.size) (by repeat (first | assumption | exact Below.refl _ _ | (refine bStep ?_ (by assumption)) | (with_reducible refine bAlc ?_ _) | (with_reducible refine bDrw ?_))) hbE.size))
                      go_roundg (n2 - (j + 1))
                      case measure => have := hj.out; omega
                      case rel => exact ⟨j + 1, by go_num, by have := hj.out; omega, by rw [hG.out]; exact ho9, hbn⟩
                    exact AllReadyH.nil
                  exact AllReadyH.nil
                exact AllReadyH.nil
              exact AllReadyH.nil
            exact AllReadyH.nil
          · have hje : j = n2 := by have := hj.out; omega
            subst hje
            have htk : lb.take j = lb := List.take_of_length_le (by omega)
            rw [htk] at ho2
            clear htk
            have hr5 : ∀ z ∈ lb.map (lplus k x), z.right 8 := by
              intro z hz
              obtain ⟨y, hy, rfl⟩ := List.mem_map.1 hz
              exact lplus_right hk hxf.1 (hfb'.out y hy).1
            have hl5 : (lb.map (lplus k x)).length ≤ 4681 := by rw [List.length_map]; omega
            have hN5 := hNx.out (lset (lb.map (lplus k x))) (fun z hz => lset_right hr5 z hz) (lset_asc hr5) (fun z => by rw [lset_mem hr5, List.mem_map]; exact ⟨fun ⟨y, a, b⟩ => ⟨y, a, b.symm⟩, fun ⟨y, a, b⟩ => ⟨y, a, b.symm⟩⟩)
            have hl6 : (lset (lb.map (lplus k x))).length ≤ 4681 := Nat.le_trans (lset_len hr5) hl5
            have hr6 : ∀ z ∈ lset (lb.map (lplus k x)), z.right 8 := fun z hz => lset_right hr5 z hz
            replace hN5 := Lib.hid hN5
            generalize hL5 : lb.map (lplus k x) = L at *
            replace hL5 := Lib.hid hL5
            obtain ⟨A5, c5, rfl, hd5, hk5, hm5, hg5⟩ := ho2.reads
            go_wp2_with fail
            refine (sorted14_any 100000 A5 L.length c5 L _ (by omega) (by omega) hd5 hr5 hk5 hm5).mono ?_
            rintro e w6 ⟨v6, rfl, ho6, hb6⟩
            generalize lset L = M at *
            obtain ⟨A6, c6, rfl, hd6, hk6, hm6, hg6⟩ := ho6.reads
            have hbE6 : Below wE.heap.size wE w6 := bStep hbE hb6
            go_wp2_with fail
            refine (merge_any A1 A6 U.length M.length c1 c6 U M _ ((hd1.below hbE6).mono hbE6.size) hd6 hU8 hr6 hk1 hk6 hm1' hm6 (by omega)).mono ?_
            rintro e w7 ⟨v7, rfl, ho7, hb7⟩
            rw [hN5.out] at ho7
            go_wp2_with fail
            have hb9 := bStep (bStep hb hbE6) hb7
            go_roundg (n - (i + 1))
            case measure => have := hi.out; omega
            case rel => exact ⟨i + 1, by go_num, by have := hi.out; omega, ho7.mono (by have := hb.size; have := hbE6.size; omega), hb9⟩
    · have he : i = n := by have := hi.out; omega
      subst he
      have htk : la.take i = la := List.take_of_length_le (by omega)
      rw [htk] at ho
      clear htk
      go_wp2_with fail
      go_ret2
      exact hP.out _ _ (ho.mono hbw.size) (bStep hbw hb)
end Go.Proofs.YtnnkfgekiaaehaaGreat

/- follow.tail. -/
namespace Go.Proofs.YtnnkfgekiaaehaaGreat
open Go.ChangeShapes Go.WideShapes Go.ChangeAt Go.RowKit
set_option linter.unusedVariables false

theorem SetsR.get {W : World} {B : Nat} {A : Option Addr} {n : Nat} {ss : List (List Lk)} (h : SetsR W B A n ss) (i : Nat) (hi : i < n) :
    ∃ b off mb, A = some ⟨b, off, none⟩ ∧ b < B ∧ mb < B ∧ W.cell? ⟨b, off + i, none⟩ = some (.map (some mb)) ∧ MapK lookKey W mb (ss.getD i []) := by
  rcases h.2 with h0 | ⟨b, off, rfl, hlt, hc⟩
  · omega
  · have hil : i < ss.length := by rw [h.1]; exact hi
    obtain ⟨mb, h1, h2, h3⟩ := hc i ss[i] (List.getElem?_eq_getElem hil)
    refine ⟨b, off, mb, rfl, hlt, h1, h2, ?_⟩
    simpa [List.getD_eq_getElem?_getD, hil] using h3

theorem one_len {k : Nat} {ss : List (List Lk)} (h : SetsFit k ss) (s : Int) : (oneL ss s).length ≤ 4681 := by
  unfold oneL
  split
  · have hgf := setsFit_get h (s - 16).toNat
    exact right_len (asc_nodup (lset_asc fun x hx => (hgf x hx).1)) (fun x hx => (lset_fit hgf x hx).1)
  · simp

set_option maxHeartbeats 4000000 in
theorem tail_any (g : Gr) (a : GA) (k : Nat) (hgk : g.k = (k : Int)) (hk1 : 1 ≤ k) (hk4 : k ≤ 4) (A : Option Addr) (n c : Nat) (ss : List (List Lk)) (B2 : Option Addr) (n2 c2 : Nat) (l : List Int) (w : World) (hg : GrAt w w.heap.size g a)
    (hS : SetsR w w.heap.size A n ss) (hfit : SetsFit k ss) (hnd : ∀ s ∈ ss, s.Nodup) (hn : n ≤ 1000000) (hl : Rd1 w w.heap.size B2 n2 (ints l)) (hn2 : n2 ≤ 1000000) (hok : ∀ s ∈ l, SymOk n s) :
    Calls Tryz.prog 36 #[gval g a, .slice A n c, .slice B2 n2 c2] w (RetL w (tailL k ss l)) := by
  have hP := Lib.hid (fun (v : Value) (w' : World) (h1 : OwnL w' w.heap.size v (tailL k ss l)) (h2 : Below w.heap.size w w') => (show RetL w (tailL k ss l) (.returned v) w' from ⟨v, rfl, h1, h2⟩))
  obtain ⟨ta, tc, na, nc, pa, pc⟩ := a
  have hll : l.length = n2 := by have := hl.1; simpa [ints] using this
  have hS' := Lib.hid hS
  have hl' := Lib.hid hl
  have hok' := Lib.hid hok
  have hfit' := Lib.hid hfit
  have hnd' := Lib.hid hnd
  have hG0 := GB.start hg
  have hll' := Lib.hid hll
  have hJ := Lib.hid joined_any
  have hPl := Lib.hid (fun (w : World) => show Calls Tryz.prog 38 #[.int .i64 g.k] w (RetP w k) by rw [hgk]; exact mkplus_any k w)
  clear hgk
  have hSo := Lib.hid sorted_any
  clear hS hl hok hfit hnd hg hll
  unfold gval at *
  unfold gcells at *
  dsimp only at *
  have hmm := @run_makeMap Tryz.prog
  go_enter Tryz.func36, Tryz.ntmps36
  go_wp2_with fail
  have q1 : Blk ((w.alloc (.cells #[.int .i64 g.k, .slice ta g.toks.length tc, .string g.sep, .slice na g.names.length nc, .int .i64 g.start, .slice pa g.prods.length pc] 25)).alloc (.cells #[.int .i64 0, .int .i64 0, .int .i64 0, .int .i64 0, .int .i64 0] 41)) (w.heap.size + 1) 41 (Lk.of []).cells := Blk.newAt _ _ _ _ (by simp)
  have ho1 := ownL_one (base := w.heap.size + 1) q1 (Nat.le_refl _)
  have hG1 := hG0.alloc (.cells #[.int .i64 0, .int .i64 0, .int .i64 0, .int .i64 0, .int .i64 0] 41)
  clear hG0
  go_loopg [16, 7] n2 (fun gk s16 s7 wr => ∃ (i : Nat) (cur : List Lk), s16 = .int .i64 i ∧ i + gk = n2 ∧ Hid (cur = tailL k ss (l.take i)) ∧ OwnL wr (w.heap.size + 1) s7 cur ∧ GB w g ⟨ta, tc, na, nc, pa, pc⟩ wr)
  case atStart => exact ⟨0, [Lk.of []], rfl, by omega, Lib.hid (by simp [tailL]), ho1, hG1⟩
  case round =>
    clear q1 ho1 hG1
    obtain ⟨i, cur, rfl, hi, hcur, ho, hG⟩ := hrel
    replace hi := Lib.hid hi
    by_cases hin : i < n2
    · have hil : i < l.length := by have := hll'.out; omega
      have hsi : (ints l)[i]? = some (.int .i64 l[i]) := by simp [ints, hil]
      have htk : l.take (i + 1) = l.take i ++ [l[i]] := List.take_succ_eq_append_getElem hil
      have hsm : l[i] ∈ l := List.getElem_mem hil
      have hlr : Rd1 wr w.heap.size B2 n2 (ints l) := hl'.out.below hG.2.2
      obtain ⟨lb, loff, rfl, hlb, y0⟩ := hlr.get hsi
      have hso := Lib.hid (hok'.out _ hsm)
      have hcf := Lib.hid (tail_fit hk1 hk4 hfit'.out (l.take i) (fun s hs => hok'.out s (List.mem_of_mem_take hs)))
      have hcn := Lib.hid (tail_nodup hk1 hk4 hfit'.out (l.take i) (fun s hs => hok'.out s (List.mem_of_mem_take hs)))
      rw [← hcur.out] at hcf hcn
      generalize l[i] = s at *
      have hof := Lib.hid (one_fit hk1 hfit'.out hso.out)
      have hstep : Hid (stepL k ss cur s = tailL k ss (l.take (i + 1))) := Lib.hid (by rw [htk, tailL_snoc, ← hcur.out])
      clear hlr
      replace hsi := Lib.hid hsi
      replace htk := Lib.hid htk
      replace hsm := Lib.hid hsm
      have hz1 : (0 : Int) ≤ i := by omega
      have hz2 : (i : Int) < n2 := by omega
      go_upto_region 7 with (fail)
      have hM : MapK lookKey ((wr.alloc (.map #[] 0)).alloc (.cells #[.int .i64 1, .int .i64 s, .int .i64 0, .int .i64 0, .int .i64 0] 41)) wr.heap.size [] := (mapk_new lookKey wr wr.heap.size rfl).step (bAlc (Below.refl _ _) _)
      have q1 : Blk ((wr.alloc (.map #[] 0)).alloc (.cells #[.int .i64 1, .int .i64 s, .int .i64 0, .int .i64 0, .int .i64 0] 41)) (wr.heap.size + 1) 41 (Lk.of [s]).cells := Blk.newAt _ _ _ _ (by simp)
      have hG2 := (hG.alloc (.map #[] 0)).alloc (.cells #[.int .i64 1, .int .i64 s, .int .i64 0, .int .i64 0, .int .i64 0] 41)
      have ho2 := (ho.alloc (.map #[] 0)).alloc (.cells #[.int .i64 1, .int .i64 s, .int .i64 0, .int .i64 0, .int .i64 0] 41)
      have hmb : w.heap.size < wr.heap.size := hG.lt
      clear hG ho
      generalize (wr.alloc (.map #[] 0)).alloc (.cells #[.int .i64 1, .int .i64 s, .int .i64 0, .int .i64 0, .int .i64 0] 41) = W2 at *
      generalize wr.heap.size = mb at *
      by_cases h16 : 16 ≤ s
      · have hj : (s - 16).toNat < n := by
          have := hso.out
          unfold SymOk at this
          omega
        have hsr : SetsR W2 w.heap.size A n ss := hS'.out.below hG2.2.2
        obtain ⟨sb, soff, smb, rfl, hsb, hsmb, z0, zm⟩ := hsr.get _ hj
        have hgf := Lib.hid (fun x hx => (setsFit_get hfit'.out (s - 16).toNat x hx))
        have hgn : (ss.getD (s - 16).toNat []).Nodup := by
          rw [List.getD_eq_getElem?_getD]
          cases hh : ss[(s - 16).toNat]? with
          | none => simp
          | some t => exact hnd'.out t (List.mem_of_getElem? hh)
        have hgl : (ss.getD (s - 16).toNat []).length ≤ 900000 := by have := fit_len hgn hgf.out; omega
        have hone : Hid (lset (ss.getD (s - 16).toNat []) = oneL ss s) := Lib.hid (by unfold oneL; rw [if_pos h16])
        generalize ss.getD (s - 16).toNat [] = t at *
        obtain ⟨j, hjj⟩ := Int.eq_ofNat_of_zero_le (show 0 ≤ s - 16 by omega)
        have hjn : (s - 16).toNat = j := by omega
        rw [hjn] at z0 hj
        have zI : s - 16 = (j : Int) := by omega
        have zw : IntKind.i64.wrap (j : Int) = j := IntWalk.i64_in _ (by omega)
        replace hgn := Lib.hid hgn
        clear hjj hjn hsr
        have hz5 : (j : Int) < n := by omega
        have hz6 : (0 : Int) ≤ j := by omega
        go_upto_region 9 with (go_at_call 37; refine (hSo.out smb t W2 zm (fun x hx => (hgf.out x hx).1) hgl).mono ?_; rintro e wc ⟨v3, rfl, ho3, hb3⟩; obtain ⟨A1, c1, rfl, hd1, hk3, hm3, hbb3⟩ := ho3.reads)
        rw [hone.out] at hd1 ⊢
        obtain ⟨m, hm00⟩ : ∃ m, m = (oneL ss s).length := ⟨_, rfl⟩
        rw [← hm00] at hd1 ⊢
        have hG := hG2.step hb3
        have hMm := hM.step hb3
        have ho := ho2.step hb3
        clear hG2 hM ho2 q1 hb3 ho3 hk3 z0 zm hm00
        have hm : m = (oneL ss s).length := hd1.1.symm
        have hml : m ≤ 1000000 := by
          rw [hm]; have := one_len hfit'.out s; omega
        obtain ⟨A0, c0', rfl, hd0, hk0, hm0, hbb0⟩ := ho.reads
        have hcl : cur.length ≤ 1000000 := by have := fit_len hcn.out hcf.out; omega
        obtain ⟨c0, c1', c2', c3, c4, c5⟩ := hG.cells
        replace hm := Lib.hid hm
        clear hm0
        obtain ⟨J, hJl⟩ : ∃ J, J = addAll [] (sumsJ k cur (oneL ss s)) := ⟨_, rfl⟩
        have hJf : ∀ x ∈ J, Fit k x := by rw [hJl]; exact all_fit (by simp) (sums_fit hk4 hcf.out hof.out)
        have hJn : J.length ≤ 900000 := by
          have : J.Nodup := by rw [hJl]; exact addAll_nodup (by simp) _
          have := fit_len this hJf; omega
        have hJs : Hid (lset J = tailL k ss (l.take (i + 1))) := Lib.hid (by rw [hJl, ← hstep.out]; rfl)
        replace hJl := Lib.hid hJl
        have hJf' := Lib.hid hJf
        clear hJf
        go_wp2_with (first
          | (go_at_call 38; refine (hPl.out wc).mono ?_; rintro e w4 ⟨Bk, rfl, p1, p2, p3, p4⟩)
          | (go_at_call 35; refine (hJ.out k A0 A1 cur.length m c0' c1 cur (oneL ss s) [] mb Bk w4 hk4 ((hd0.below p4).mono p4.size) ((hd1.below p4).mono p4.size) (fun x hx => (hcf.out x hx).1) (fun x hx => (hof.out x hx).1) (fun x hx => (hcf.out x hx).2) hcl hml (hMm.step p4) p1 p3).mono ?_; rintro e w5 ⟨rfl, hM5, hg5⟩; rw [← hJl.out] at hM5)
          | (go_at_call 37; refine (hSo.out mb J w5 hM5 (fun x hx => (hJf'.out x hx).1) hJn).mono ?_; rintro e w6 ⟨v6, rfl, ho6, hb6⟩))
        have hG5 := (hG.step p4).grown hg5 (fun j hj => by cases hj; exact hmb)
        go_roundg (n2 - (i + 1))
        case measure => have := hi.out; omega
        case rel => exact ⟨i + 1, lset J, by go_num, by have := hi.out; omega, hJs, ho6.mono (by have := hG5.lt; omega), hG5.step hb6⟩
      · have hone : [Lk.of [s]] = oneL ss s := by unfold oneL; rw [if_neg h16]
        have hd1 := (rdL_one q1).mono (show mb + 1 + 1 ≤ W2.heap.size by have := q1.lt; omega)
        rw [hone] at hd1
        obtain ⟨A1, hA1⟩ : ∃ A1 : Option Addr, A1 = some ⟨mb + 1, 0, none⟩ := ⟨_, rfl⟩
        obtain ⟨m, hm00⟩ : ∃ m : Nat, m = 1 := ⟨_, rfl⟩
        have hG := hG2
        have hMm := hM
        have ho := ho2
        rw [← hA1, ← hm00] at hd1
        replace hone := Lib.hid hone
        replace hA1 := Lib.hid hA1
        replace hm00 := Lib.hid hm00
        clear hG2 hM ho2 q1
        go_upto_region 9 with (fail)
        obtain ⟨wc, hwc⟩ : ∃ wc, wc = W2 := ⟨_, rfl⟩
        rw [← hwc] at hd1 hG hMm ho ⊢
        clear hwc
        have hm : m = (oneL ss s).length := hd1.1.symm
        have hml : m ≤ 1000000 := by
          rw [hm]; have := one_len hfit'.out s; omega
        obtain ⟨A0, c0', rfl, hd0, hk0, hm0, hbb0⟩ := ho.reads
        have hcl : cur.length ≤ 1000000 := by have := fit_len hcn.out hcf.out; omega
        obtain ⟨c0, c1', c2', c3, c4, c5⟩ := hG.cells
        replace hm := Lib.hid hm
        clear hm0
        obtain ⟨J, hJl⟩ : ∃ J, J = addAll [] (sumsJ k cur (oneL ss s)) := ⟨_, rfl⟩
        have hJf : ∀ x ∈ J, Fit k x := by rw [hJl]; exact all_fit (by simp) (sums_fit hk4 hcf.out hof.out)
        have hJn : J.length ≤ 900000 := by
          have : J.Nodup := by rw [hJl]; exact addAll_nodup (by simp) _
          have := fit_len this hJf; omega
        have hJs : Hid (lset J = tailL k ss (l.take (i + 1))) := Lib.hid (by rw [hJl, ← hstep.out]; rfl)
        replace hJl := Lib.hid hJl
        have hJf' := Lib.hid hJf
        clear hJf
        go_wp2_with (first
          | (go_at_call 38; refine (hPl.out wc).mono ?_; rintro e w4 ⟨Bk, rfl, p1, p2, p3, p4⟩)
          | (go_at_call 35; refine (hJ.out k A0 (some ⟨mb + 1, 0, none⟩) cur.length 1 c0' 1 cur (oneL ss s) [] mb Bk w4 hk4 ((hd0.below p4).mono p4.size) (by have := (hd1.below p4).mono p4.size; rw [hA1.out, hm00.out] at this; exact this) (fun x hx => (hcf.out x hx).1) (fun x hx => (hof.out x hx).1) (fun x hx => (hcf.out x hx).2) hcl (by omega) (hMm.step p4) p1 p3).mono ?_; rintro e w5 ⟨rfl, hM5, hg5⟩; rw [← hJl.out] at hM5)
          | (go_at_call 37; refine (hSo.out mb J w5 hM5 (fun x hx => (hJf'.out x hx).1) hJn).mono ?_; rintro e w6 ⟨v6, rfl, ho6, hb6⟩))
        have hG5 := (hG.step p4).grown hg5 (fun j hj => by cases hj; exact hmb)
        go_roundg (n2 - (i + 1))
        case measure => have := hi.out; omega
        case rel => exact ⟨i + 1, lset J, by go_num, by have := hi.out; omega, hJs, ho6.mono (by have := hG5.lt; omega), hG5.step hb6⟩
    · have hcur2 : cur = tailL k ss l := by rw [hcur.out, List.take_of_length_le (by have := hll'.out; omega)]
      replace hcur2 := Lib.hid hcur2
      go_wp2_with fail
      go_ret
      exact hP.out _ _ (hcur2.out ▸ ho.mono (by omega)) hG.2.2
end Go.Proofs.YtnnkfgekiaaehaaGreat

/- Own sets; FIRST as a predicate. -/
namespace Go.Proofs.YtnnkfgekiaaehaaGreat
open Go.ChangeShapes Go.WideShapes Go.ChangeAt Go.RowKit
set_option linter.unusedVariables false

/-- a slice of n cells, whose first places hold maps of its own with these sets -/
def SetsO (W : World) (base bo n : Nat) (ss : List (List Lk)) : Prop :=
  ∃ (cs : Array Value) (mbs : List Nat), Blk W bo 69 cs ∧ cs.size = n ∧ mbs.length = ss.length ∧ mbs.Nodup ∧ (∀ m ∈ mbs, base ≤ m ∧ m < W.heap.size) ∧
    ∀ (i m : Nat) (s : List Lk), mbs[i]? = some m → ss[i]? = some s → cs[i]? = some (.map (some m)) ∧ MapK lookKey W m s
theorem SetsO.step {W W' : World} {base bo n : Nat} {ss : List (List Lk)} (h : SetsO W base bo n ss) (hb : Below W.heap.size W W') : SetsO W' base bo n ss := by
  obtain ⟨cs, mbs, h1, h2, h3, h4, h5, h6⟩ := h
  exact ⟨cs, mbs, h1.step hb, h2, h3, h4, fun m hm => ⟨(h5 m hm).1, Nat.lt_of_lt_of_le (h5 m hm).2 hb.size⟩, fun i m s a b => ⟨(h6 i m s a b).1, (h6 i m s a b).2.step hb⟩⟩
theorem grownBy_setC (w : World) (b i : Nat) (v : Value) : w.grownBy (w.setCell ⟨b, i, none⟩ v) (some b) :=
  ⟨rfl, rfl, rfl, by simp, fun k hk hne => Below.heap_setCell w ⟨b, i, none⟩ v k (fun e => hne (by rw [e]))⟩
theorem mapk_blk {α : Type} {E : KeyEnc α} {W : World} {m g : Nat} {s : List α} {t : TypeId} {cs : Array Value} (h : MapK E W m s) (q : Blk W g t cs) : m ≠ g := by
  rintro rfl
  obtain ⟨es, clock, hb, _⟩ := h
  unfold Blk at q
  rw [hb] at q; cases q
theorem SetsO.put {W : World} {base bo n : Nat} {ss : List (List Lk)} (h : SetsO W base bo n ss) {g : Nat} {t : TypeId} {cs' : Array Value} (q : Blk W g t cs') (hg : g ≠ bo) (i : Nat) (v : Value) : SetsO (W.setCell ⟨g, i, none⟩ v) base bo n ss := by
  obtain ⟨cs, mbs, h1, h2, h3, h4, h5, h6⟩ := h
  refine ⟨cs, mbs, h1.far (Ne.symm hg) v, h2, h3, h4, fun m hm => ?_, fun j m s a b => ⟨(h6 j m s a b).1, ?_⟩⟩
  · have := h5 m hm; simpa using this
  · have hm := (h6 j m s a b).2
    exact hm.grown (grownBy_setC W g i v) (by simpa using mapk_blk hm q)
theorem SetsO.push {W : World} {base bo n : Nat} {ss : List (List Lk)} (h : SetsO W base bo n ss) (hn : ss.length < n) (hb : base ≤ W.heap.size) :
    SetsO ((W.alloc (.map #[] 0)).setCell ⟨bo, ss.length, none⟩ (.map (some W.heap.size))) base bo n (ss ++ [[]]) := by
  obtain ⟨cs, mbs, h1, h2, h3, h4, h5, h6⟩ := h
  have hlt := h1.lt
  have hbo : W.heap.size ≠ bo := by omega
  refine ⟨cs.setIfInBounds ss.length (.map (some W.heap.size)), mbs ++ [W.heap.size], (h1.alloc _).put _ _, by simpa using h2, by simp [h3], ?_, ?_, ?_⟩
  · rw [List.nodup_append]
    refine ⟨h4, by simp, fun a ha b hb' => ?_⟩
    simp at hb'; subst hb'
    have := (h5 a ha).2
    omega
  · intro m hm
    rcases List.mem_append.1 hm with hm | hm
    · have := h5 m hm; simp; omega
    · simp at hm; subst hm; simp; omega
  · intro i m s hmi hsi
    by_cases hi : i < ss.length
    · rw [List.getElem?_append_left (by omega)] at hmi hsi
      obtain ⟨a, b⟩ := h6 i m s hmi hsi
      refine ⟨by rw [Array.getElem?_setIfInBounds_ne (by omega)]; exact a, ?_⟩
      have b2 := b.step (w' := W.alloc (.map #[] 0)) (bAlc (Below.refl _ _) _)
      exact b2.grown (grownBy_setC _ bo _ _) (by simpa using mapk_blk b h1)
    · have hi2 : i = ss.length := by have := (List.getElem?_eq_some_iff.1 hsi).1; simp at this; omega
      subst hi2
      rw [← h3] at hmi
      simp at hmi hsi
      subst hmi; subst hsi
      refine ⟨by rw [Array.getElem?_setIfInBounds_self]; simp [h2, hn], ?_⟩
      exact (mapk_new lookKey W W.heap.size rfl).grown (grownBy_setC _ bo _ _) (by simpa using hbo)
theorem SetsO.get {W : World} {base bo n : Nat} {ss : List (List Lk)} (h : SetsO W base bo n ss) (i : Nat) (hi : i < ss.length) :
    ∃ m, base ≤ m ∧ m < W.heap.size ∧ W.cell? ⟨bo, i, none⟩ = some (.map (some m)) ∧ MapK lookKey W m (ss.getD i []) ∧ ∀ (W1 W' : World) (cur : List Lk), Below W.heap.size W W1 → W1.grownBy W' (some m) → MapK lookKey W' m cur → SetsO W' base bo n (ss.set i cur) := by
  obtain ⟨cs, mbs, h1, h2, h3, h4, h5, h6⟩ := h
  have him : i < mbs.length := by omega
  obtain ⟨a, b⟩ := h6 i mbs[i] ss[i] (List.getElem?_eq_getElem him) (List.getElem?_eq_getElem hi)
  obtain ⟨c, d⟩ := h5 _ (List.getElem_mem him)
  refine ⟨mbs[i], c, d, by rw [h1.cell]; exact a, by simpa [List.getD_eq_getElem?_getD, hi] using b, ?_⟩
  intro W1 W' cur hb hg hm
  have hz := hb.size
  have hz2 := hg.size
  refine ⟨cs, mbs, (h1.step hb).grown hg (by simpa using Ne.symm (mapk_blk b h1)), h2, by simpa using h3, h4, fun m hm => ⟨(h5 m hm).1, by have := (h5 m hm).2; omega⟩, ?_⟩
  intro j m s hmj hsj
  by_cases hij : i = j
  · subst hij
    rw [List.getElem?_eq_getElem him] at hmj
    injection hmj with hmj
    subst hmj
    rw [List.getElem?_set_self hi] at hsj
    injection hsj with hsj
    subst hsj
    exact ⟨a, hm⟩
  · rw [List.getElem?_set_ne hij] at hsj
    obtain ⟨a2, b2⟩ := h6 j m s hmj hsj
    refine ⟨a2, (b2.step hb).grown hg ?_⟩
    intro e
    injection e with e
    have hjm := (List.getElem?_eq_some_iff.1 hmj).1
    have e2 : mbs[j] = m := by rw [List.getElem?_eq_getElem hjm] at hmj; injection hmj
    exact hij ((List.getElem_inj h4).1 (by rw [e2, e]))
theorem SetsO.reads {W : World} {base bo n : Nat} {ss : List (List Lk)} (h : SetsO W base bo n ss) (hn : ss.length = n) : SetsR W W.heap.size (some ⟨bo, 0, none⟩) n ss := by
  obtain ⟨cs, mbs, h1, h2, h3, h4, h5, h6⟩ := h
  refine ⟨hn, .inr ⟨bo, 0, rfl, h1.lt, fun i s hs => ?_⟩⟩
  have hi := (List.getElem?_eq_some_iff.1 hs).1
  have him : i < mbs.length := by omega
  obtain ⟨a, b⟩ := h6 i mbs[i] s (List.getElem?_eq_getElem him) hs
  exact ⟨mbs[i], (h5 _ (List.getElem_mem him)).2, by rw [Nat.zero_add, h1.cell]; exact a, b⟩
theorem SetsO.nodup {W : World} {base bo n : Nat} {ss : List (List Lk)} (h : SetsO W base bo n ss) : ∀ s ∈ ss, s.Nodup := by
  obtain ⟨cs, mbs, h1, h2, h3, h4, h5, h6⟩ := h
  intro s hs
  obtain ⟨i, hi, rfl⟩ := List.getElem_of_mem hs
  have him : i < mbs.length := by omega
  obtain ⟨a, es, clock, _, _, _, _, hn, _⟩ := h6 i mbs[i] ss[i] (List.getElem?_eq_getElem him) (List.getElem?_eq_getElem hi)
  exact hn

/-- what a list of symbols may begin with -/
inductive FL (ps : List Pr) (k : Nat) : List Int → Lk → Prop
  | nil : FL ps k [] (Lk.of [])
  | term {l : List Int} {x : Lk} {s : Int} : FL ps k l x → s < 16 → FL ps k (l ++ [s]) (lplus k x (Lk.of [s]))
  | non {l : List Int} {x : Lk} {p : Pr} {y : Lk} : FL ps k l x → p ∈ ps → 16 ≤ p.left → FL ps k p.right y → FL ps k (l ++ [p.left]) (lplus k x y)
/-- what a nonterminal may begin with -/
def FN (ps : List Pr) (k : Nat) (s : Int) (y : Lk) : Prop := ∃ p ∈ ps, p.left = s ∧ FL ps k p.right y
/-- every look in the sets is a FIRST -/
def SoundF (ps : List Pr) (k : Nat) (ss : List (List Lk)) : Prop := ∀ (i : Nat) (y : Lk), y ∈ ss.getD i [] → FN ps k (16 + (i : Int)) y
/-- the sets hold what the productions give -/
def ClosedF (ps : List Pr) (k : Nat) (ss : List (List Lk)) : Prop := ∀ p ∈ ps, ∀ y ∈ tailL k ss p.right, y ∈ ss.getD (p.left - 16).toNat []

theorem step_mem {k n : Nat} (hk : 1 ≤ k) (hk4 : k ≤ 4) {ss : List (List Lk)} (hf : SetsFit k ss) {out : List Lk} (ho : ∀ x ∈ out, Fit k x) {s : Int} (hs : SymOk n s) (z : Lk) :
    z ∈ stepL k ss out s ↔ ∃ x ∈ out, ∃ y ∈ oneL ss s, z = lplus k x y := by
  unfold stepL
  rw [lset_mem (k := 8) (fun x hx => (all_fit (by simp) (sums_fit hk4 ho (one_fit hk hf hs)) x hx).1), addAll_mem, sums_mem]
  simp
theorem one_mem {k : Nat} {ss : List (List Lk)} (hf : SetsFit k ss) (s : Int) (y : Lk) : y ∈ oneL ss s ↔ (16 ≤ s ∧ y ∈ ss.getD (s - 16).toNat []) ∨ (s < 16 ∧ y = Lk.of [s]) := by
  unfold oneL
  split
  · rename_i h
    rw [lset_mem (k := 8) (fun x hx => (setsFit_get hf _ x hx).1)]
    constructor
    · intro hy; exact .inl ⟨h, hy⟩
    · rintro (⟨_, hy⟩ | ⟨h2, _⟩)
      · exact hy
      · omega
  · rename_i h
    simp only [List.mem_singleton]
    constructor
    · intro hy; exact .inr ⟨by omega, hy⟩
    · rintro (⟨h2, _⟩ | ⟨_, hy⟩)
      · omega
      · exact hy
theorem tail_sound {ps : List Pr} {k n : Nat} (hk : 1 ≤ k) (hk4 : k ≤ 4) {ss : List (List Lk)} (hf : SetsFit k ss) (hs : SoundF ps k ss) (l : List Int) (hl : ∀ s ∈ l, SymOk n s) : ∀ y ∈ tailL k ss l, FL ps k l y := by
  have : ∀ m, ∀ l : List Int, l.length = m → (∀ s ∈ l, SymOk n s) → ∀ y ∈ tailL k ss l, FL ps k l y := by
    intro m
    induction m with
    | zero =>
      intro l h0 _ y hy
      have : l = [] := List.eq_nil_of_length_eq_zero h0
      subst this
      simp [tailL] at hy
      subst hy
      exact FL.nil
    | succ m ih =>
      intro l hlm hl y hy
      rcases List.eq_nil_or_concat l with rfl | ⟨l', s, rfl⟩
      · simp at hlm
      · rw [List.concat_eq_append] at *
        have hl' : ∀ s ∈ l', SymOk n s := fun z hz => hl z (List.mem_append_left _ hz)
        rw [tailL_snoc, step_mem hk hk4 hf (tail_fit hk hk4 hf l' hl') (hl s (by simp))] at hy
        obtain ⟨x, hx, z, hz, rfl⟩ := hy
        have hx' := ih l' (by simp at hlm; exact hlm) hl' x hx
        rcases (one_mem hf s z).1 hz with ⟨h1, h2⟩ | ⟨h1, rfl⟩
        · obtain ⟨p, hp, hpl, hpy⟩ := hs _ _ h2
          have e : p.left = s := by rw [hpl]; omega
          rw [← e]
          exact FL.non hx' hp (by omega) hpy
        · exact FL.term hx' h1
  exact this _ l rfl hl
theorem tail_full {ps : List Pr} {k n : Nat} (hk : 1 ≤ k) (hk4 : k ≤ 4) {ss : List (List Lk)} (hf : SetsFit k ss) (hc : ClosedF ps k ss) (hps : ∀ p ∈ ps, ∀ s ∈ p.right, SymOk n s) {l : List Int} {y : Lk} (h : FL ps k l y) : (∀ s ∈ l, SymOk n s) → y ∈ tailL k ss l := by
  induction h with
  | nil => intro _; simp [tailL]
  | @term l x s hx hs ih =>
    intro hl
    have hl' : ∀ s ∈ l, SymOk n s := fun z hz => hl z (List.mem_append_left _ hz)
    rw [tailL_snoc, step_mem hk hk4 hf (tail_fit hk hk4 hf l hl') (hl s (by simp))]
    exact ⟨x, ih hl', _, (one_mem hf s _).2 (.inr ⟨hs, rfl⟩), rfl⟩
  | @non l x p y hx hp h16 hy ih1 ih2 =>
    intro hl
    have hl' : ∀ s ∈ l, SymOk n s := fun z hz => hl z (List.mem_append_left _ hz)
    rw [tailL_snoc, step_mem hk hk4 hf (tail_fit hk hk4 hf l hl') (hl p.left (by simp))]
    exact ⟨x, ih1 hl', _, (one_mem hf p.left _).2 (.inl ⟨h16, hc p hp y (ih2 (hps p hp))⟩), rfl⟩
/-- the sets are the FIRSTs -/
theorem first_iff {ps : List Pr} {k n : Nat} (hk : 1 ≤ k) (hk4 : k ≤ 4) {ss : List (List Lk)} (hf : SetsFit k ss) (hs : SoundF ps k ss) (hc : ClosedF ps k ss) (hps : ∀ p ∈ ps, ∀ s ∈ p.right, SymOk n s) (l : List Int) (hl : ∀ s ∈ l, SymOk n s) (y : Lk) :
    y ∈ tailL k ss l ↔ FL ps k l y := ⟨tail_sound hk hk4 hf hs l hl y, fun h => tail_full hk hk4 hf hc hps h hl⟩
end Go.Proofs.YtnnkfgekiaaehaaGreat

/- One round of begins, plainly. -/
namespace Go.Proofs.YtnnkfgekiaaehaaGreat
open Go.ChangeShapes Go.WideShapes Go.ChangeAt Go.RowKit
set_option linter.unusedVariables false

def tot (ss : List (List Lk)) : Nat := (ss.map List.length).sum
theorem tot_set : ∀ (ss : List (List Lk)) (i : Nat) (c : List Lk), i < ss.length → tot (ss.set i c) + (ss.getD i []).length = tot ss + c.length
  | [], i, c, h => by simp at h
  | s :: ss, 0, c, _ => by simp [tot]; omega
  | s :: ss, i + 1, c, h => by
    have := tot_set ss i c (by simpa using h)
    simp [tot] at this ⊢
    omega
theorem tot_le : ∀ (ss : List (List Lk)), (∀ s ∈ ss, s.length ≤ 4681) → tot ss ≤ ss.length * 4681
  | [], _ => by simp [tot]
  | s :: ss, h => by
    have h1 := h s List.mem_cons_self
    have h2 := tot_le ss fun t ht => h t (List.mem_cons_of_mem _ ht)
    simp [tot] at h2 ⊢
    omega
theorem plus_nil {k : Nat} {x : Lk} (h : Fit k x) : lplus k x (Lk.of []) = x := by
  unfold lplus
  rw [l_of [] (by simp), List.append_nil, List.take_of_length_le h.2]
  exact (right_l h.1).2.2.1
theorem sums_nil {k : Nat} {T : List Lk} (h : ∀ x ∈ T, Fit k x) : ∀ z, z ∈ sumsJ k T [Lk.of []] ↔ z ∈ T := by
  intro z
  rw [sums_mem]
  constructor
  · rintro ⟨x, hx, y, hy, rfl⟩
    simp at hy; subst hy
    rw [plus_nil (h x hx)]; exact hx
  · intro hz
    exact ⟨z, hz, _, by simp, (plus_nil (h z hz)).symm⟩
theorem set_fit {k : Nat} {ss : List (List Lk)} (h : SetsFit k ss) (i : Nat) {c : List Lk} (hc : ∀ x ∈ c, Fit k x) : SetsFit k (ss.set i c) := by
  intro s hs x hx
  rcases List.mem_or_eq_of_mem_set hs with h1 | rfl
  · exact h s h1 x hx
  · exact hc x hx
theorem getD_set (ss : List (List Lk)) (i j : Nat) (c : List Lk) (hi : i < ss.length) : (ss.set i c).getD j [] = if i = j then c else ss.getD j [] := by
  rw [List.getD_eq_getElem?_getD, List.getD_eq_getElem?_getD, List.getElem?_set]
  by_cases h : i = j
  · subst h; simp [hi]
  · simp [h]
theorem set_same (ss : List (List Lk)) (i : Nat) (h : i < ss.length) : ss.set i (ss.getD i []) = ss := by
  rw [List.getD_eq_getElem?_getD, List.getElem?_eq_getElem h]; simp
theorem set_sound {ps : List Pr} {k : Nat} {ss : List (List Lk)} (h : SoundF ps k ss) (i : Nat) (hi : i < ss.length) {c : List Lk} (hc : ∀ y ∈ c, FN ps k (16 + (i : Int)) y) : SoundF ps k (ss.set i c) := by
  intro j y hy
  rw [getD_set ss i j c hi] at hy
  split at hy
  · rename_i e; subst e; exact hc y hy
  · exact h j y hy

/-- what one production adds -/
def newS (k : Nat) (ss : List (List Lk)) (p : Pr) : List Lk := addAll (ss.getD (p.left - 16).toNat []) (sumsJ k (tailL k ss p.right) [Lk.of []])
structure RoundF (ps : List Pr) (k : Nat) (ss : List (List Lk)) (p : Pr) : Prop where
  fit : SetsFit k (ss.set (p.left - 16).toNat (newS k ss p))
  sound : SoundF ps k (ss.set (p.left - 16).toNat (newS k ss p))
  grow : (ss.getD (p.left - 16).toNat []).length ≤ (newS k ss p).length
  same : (newS k ss p).length = (ss.getD (p.left - 16).toNat []).length → ss.set (p.left - 16).toNat (newS k ss p) = ss ∧ ∀ y ∈ tailL k ss p.right, y ∈ ss.getD (p.left - 16).toNat []
  tot : YtnnkfgekiaaehaaGreat.tot (ss.set (p.left - 16).toNat (newS k ss p)) + (ss.getD (p.left - 16).toNat []).length = YtnnkfgekiaaehaaGreat.tot ss + (newS k ss p).length
theorem round_first {ps : List Pr} {k n : Nat} (hk : 1 ≤ k) (hk4 : k ≤ 4) {ss : List (List Lk)} (hn : ss.length = n) (hf : SetsFit k ss) (hs : SoundF ps k ss) {p : Pr} (hp : p ∈ ps) (hpl : 16 ≤ p.left ∧ p.left < 16 + (n : Int)) (hok : ∀ s ∈ p.right, SymOk n s) : RoundF ps k ss p := by
  have hi : (p.left - 16).toNat < ss.length := by omega
  have hT := tail_fit hk hk4 hf p.right hok
  have hTs := tail_sound hk hk4 hf hs p.right hok
  have hmem : ∀ y, y ∈ newS k ss p ↔ y ∈ ss.getD (p.left - 16).toNat [] ∨ y ∈ tailL k ss p.right := fun y => by
    unfold newS; rw [addAll_mem, sums_nil hT]
  refine ⟨set_fit hf _ fun x hx => ?_, set_sound hs _ hi fun y hy => ?_, addAll_len _ _, fun h => ?_, tot_set ss _ _ hi⟩
  · rcases (hmem x).1 hx with h | h
    · exact setsFit_get hf _ x h
    · exact hT x h
  · rcases (hmem y).1 hy with h | h
    · exact hs _ y h
    · exact ⟨p, hp, by omega, hTs y h⟩
  · obtain ⟨h1, h2⟩ := addAll_same _ _ h
    have e : newS k ss p = ss.getD (p.left - 16).toNat [] := h1
    rw [e]
    exact ⟨set_same ss _ hi, fun y hy => h2 y ((sums_nil hT y).2 hy)⟩
end Go.Proofs.YtnnkfgekiaaehaaGreat

/- FOLLOW as a predicate; its laws. -/
namespace Go.Proofs.YtnnkfgekiaaehaaGreat
set_option linter.unusedVariables false

/-- what may follow a nonterminal -/
inductive FO (ps : List Pr) (k : Nat) (start : Int) : Int → Lk → Prop
  | start : FO ps k start start (Lk.of [])
  | use {p : Pr} {d : Nat} {s : Int} {x y : Lk} : p ∈ ps → p.right[d]? = some s → 16 ≤ s → FL ps k (p.right.drop (d + 1)) x → FO ps k start p.left y → FO ps k start s (lplus k x y)
/-- what is behind a place -/
def BH (ps : List Pr) (k : Nat) (start : Int) (p : Pr) (d : Nat) (z : Lk) : Prop := ∃ x y, FL ps k (p.right.drop d) x ∧ FO ps k start p.left y ∧ z = lplus k x y

/-- one unfolding -/
theorem fo_iff (ps : List Pr) (k : Nat) (start s : Int) (hs : 16 ≤ s) (z : Lk) :
    FO ps k start s z ↔ (s = start ∧ z = Lk.of []) ∨ ∃ p ∈ ps, ∃ d, p.right[d]? = some s ∧ BH ps k start p (d + 1) z := by
  constructor
  · intro h
    cases h with
    | start => exact .inl ⟨rfl, rfl⟩
    | @use p d s x y hp hd h16 hx hy => exact .inr ⟨p, hp, d, hd, x, y, hx, hy, rfl⟩
  · rintro (⟨rfl, rfl⟩ | ⟨p, hp, d, hd, x, y, hx, hy, rfl⟩)
    · exact .start
    · exact .use hp hd hs hx hy

/-- terminals below m, nonterminals from 16 -/
def PsOk (ps : List Pr) (m : Int) : Prop := ∀ p ∈ ps, ∀ s ∈ p.right, s < 16 → 0 ≤ s ∧ s < m
theorem fl_right {ps : List Pr} {k : Nat} {m : Int} (hk1 : 1 ≤ k) (hk : k ≤ 4) (hm : 1 ≤ m ∧ m ≤ 8) (hps : PsOk ps m) {l : List Int} {x : Lk} (h : FL ps k l x) : (∀ s ∈ l, s < 16 → 0 ≤ s ∧ s < m) → x.right m ∧ x.l.length ≤ k := by
  induction h with
  | nil => intro _; exact ⟨nil_right m hm, by rw [l_of _ (by simp)]; simp⟩
  | @term l x s hx hs ih =>
    intro hl
    have h1 := ih fun z hz => hl z (List.mem_append_left _ hz)
    have h2 := hl s (by simp) hs
    exact ⟨lplus_right hk h1.1 (of_right hm (by simp) (by simpa using h2)), by rw [lplus_l hk, List.length_take]; omega⟩
  | @non l x p y hx hp h16 hy ih1 ih2 =>
    intro hl
    have h1 := ih1 fun z hz => hl z (List.mem_append_left _ hz)
    have h2 := ih2 (hps p hp)
    exact ⟨lplus_right hk h1.1 h2.1, by rw [lplus_l hk, List.length_take]; omega⟩
theorem fo_right {ps : List Pr} {k : Nat} {m start : Int} (hk1 : 1 ≤ k) (hk : k ≤ 4) (hm : 1 ≤ m ∧ m ≤ 8) (hps : PsOk ps m) {s : Int} {x : Lk} (h : FO ps k start s x) : x.right m ∧ x.l.length ≤ k := by
  induction h with
  | start => exact ⟨nil_right m hm, by rw [l_of _ (by simp)]; simp⟩
  | @use p d s x y hp hd h16 hx hy ih =>
    have h1 := fl_right hk1 hk hm hps hx fun z hz => hps p hp z (List.mem_of_mem_drop hz)
    exact ⟨lplus_right hk h1.1 ih.1, by rw [lplus_l hk, List.length_take]; omega⟩

/-- fewer productions, no look more -/
theorem fl_mono {ps qs : List Pr} {k : Nat} (hsub : ∀ p ∈ ps, p ∈ qs) {l : List Int} {x : Lk} (h : FL ps k l x) : FL qs k l x := by
  induction h with
  | nil => exact .nil
  | term _ hs ih => exact .term ih hs
  | non _ hp h16 _ ih1 ih2 => exact .non ih1 (hsub _ hp) h16 ih2
theorem fo_mono {ps qs : List Pr} {k : Nat} {start s : Int} (hsub : ∀ p ∈ ps, p ∈ qs) {x : Lk} (h : FO ps k start s x) : FO qs k start s x := by
  induction h with
  | start => exact .start
  | use hp hd h16 hx _ ih => exact .use (hsub _ hp) hd h16 (fl_mono hsub hx) ih

/-- a look cut to j -/
def lkcut (j : Nat) (x : Lk) : Lk := lplus j x (Lk.of [])
theorem lkcut_l {j : Nat} (hj : j ≤ 4) (x : Lk) : (lkcut j x).l = x.l.take j := by
  unfold lkcut; rw [lplus_l hj, l_of _ (by simp), List.append_nil]
theorem lkcut_eq (j : Nat) (x : Lk) : lkcut j x = Lk.of (x.l.take j) := by
  unfold lkcut lplus; rw [l_of _ (by simp), List.append_nil]
theorem lkcut_nil (j : Nat) : lkcut j (Lk.of []) = Lk.of [] := by rw [lkcut_eq, l_of _ (by simp)]; simp
theorem take_cut (j k : Nat) (hjk : j ≤ k) (a b : List Int) : ((a ++ b).take k).take j = (a.take j ++ b.take j).take j := by
  rw [List.take_take, Nat.min_eq_left hjk, List.take_append, List.take_append]
  congr 1
  · rw [List.take_take, Nat.min_self]
  · rw [List.take_take, List.length_take]
    congr 1
    omega
theorem lkcut_plus {j k : Nat} (hjk : j ≤ k) (hk : k ≤ 4) (x y : Lk) : lkcut j (lplus k x y) = lplus j (lkcut j x) (lkcut j y) := by
  rw [lkcut_eq, lplus_l hk]
  unfold lplus
  rw [lkcut_l (by omega), lkcut_l (by omega), take_cut j k hjk]
theorem lkcut_term {j : Nat} (hj1 : 1 ≤ j) (s : Int) : lkcut j (Lk.of [s]) = Lk.of [s] := by
  rw [lkcut_eq, l_of _ (by simp), List.take_of_length_le (by simpa using hj1)]
theorem fl_cut {ps : List Pr} {j k : Nat} (hj1 : 1 ≤ j) (hjk : j ≤ k) (hk : k ≤ 4) {l : List Int} {x : Lk} (h : FL ps k l x) : FL ps j l (lkcut j x) := by
  induction h with
  | nil => rw [lkcut_nil]; exact .nil
  | term _ hs ih => rw [lkcut_plus hjk hk, lkcut_term hj1]; exact .term ih hs
  | non _ hp h16 _ ih1 ih2 => rw [lkcut_plus hjk hk]; exact .non ih1 hp h16 ih2
theorem fl_grow {ps : List Pr} {j k : Nat} (hj1 : 1 ≤ j) (hjk : j ≤ k) (hk : k ≤ 4) {l : List Int} {x : Lk} (h : FL ps j l x) : ∃ y, FL ps k l y ∧ lkcut j y = x := by
  induction h with
  | nil => exact ⟨_, .nil, lkcut_nil j⟩
  | @term l x s _ hs ih =>
    obtain ⟨y, hy, rfl⟩ := ih
    exact ⟨_, .term hy hs, by rw [lkcut_plus hjk hk, lkcut_term hj1]⟩
  | non _ hp h16 _ ih1 ih2 =>
    obtain ⟨y, hy, rfl⟩ := ih1
    obtain ⟨z, hz, rfl⟩ := ih2
    exact ⟨_, .non hy hp h16 hz, lkcut_plus hjk hk _ _⟩
theorem fo_cut {ps : List Pr} {j k : Nat} {start s : Int} (hj1 : 1 ≤ j) (hjk : j ≤ k) (hk : k ≤ 4) {x : Lk} (h : FO ps k start s x) : FO ps j start s (lkcut j x) := by
  induction h with
  | start => rw [lkcut_nil]; exact .start
  | use hp hd h16 hx _ ih => rw [lkcut_plus hjk hk]; exact .use hp hd h16 (fl_cut hj1 hjk hk hx) ih
theorem fo_grow {ps : List Pr} {j k : Nat} {start s : Int} (hj1 : 1 ≤ j) (hjk : j ≤ k) (hk : k ≤ 4) {x : Lk} (h : FO ps j start s x) : ∃ y, FO ps k start s y ∧ lkcut j y = x := by
  induction h with
  | start => exact ⟨_, .start, lkcut_nil j⟩
  | use hp hd h16 hx _ ih =>
    obtain ⟨y, hy, rfl⟩ := ih
    obtain ⟨z, hz, rfl⟩ := fl_grow hj1 hjk hk hx
    exact ⟨_, .use hp hd h16 hz hy, lkcut_plus hjk hk _ _⟩
/-- FOLLOW for a lesser lookahead: the looks cut -/
theorem fo_less {ps : List Pr} {j k : Nat} {start s : Int} (hj1 : 1 ≤ j) (hjk : j ≤ k) (hk : k ≤ 4) (x : Lk) : FO ps j start s x ↔ ∃ y, FO ps k start s y ∧ lkcut j y = x :=
  ⟨fo_grow hj1 hjk hk, fun ⟨_, hy, e⟩ => e ▸ fo_cut hj1 hjk hk hy⟩

/-- every look in the sets is a FOLLOW -/
def SoundO (ps : List Pr) (k : Nat) (start : Int) (fs : List (List Lk)) : Prop := ∀ (i : Nat) (y : Lk), y ∈ fs.getD i [] → FO ps k start (16 + (i : Int)) y
/-- what a use of s in p with d adds -/
def usesL (k : Nat) (ss fs : List (List Lk)) (p : Pr) (d : Nat) : List Lk := sumsJ k (tailL k ss (p.right.drop (d + 1))) (lset (fs.getD (p.left - 16).toNat []))
def ClosedO (ps : List Pr) (k : Nat) (start : Int) (ss fs : List (List Lk)) : Prop :=
  Lk.of [] ∈ fs.getD (start - 16).toNat [] ∧ ∀ p ∈ ps, ∀ (d : Nat) (s : Int), p.right[d]? = some s → 16 ≤ s → ∀ z ∈ usesL k ss fs p d, z ∈ fs.getD (s - 16).toNat []
theorem follow_iff {ps : List Pr} {k n : Nat} {start : Int} (hk : 1 ≤ k) (hk4 : k ≤ 4) {ss fs : List (List Lk)} (hf : SetsFit k ss) (hff : SetsFit k fs) (hss : SoundF ps k ss) (hsc : ClosedF ps k ss) (hps : ∀ p ∈ ps, 16 ≤ p.left ∧ ∀ s ∈ p.right, SymOk n s)
    (hs : SoundO ps k start fs) (hc : ClosedO ps k start ss fs) (s : Int) (h16 : 16 ≤ s) (y : Lk) : y ∈ fs.getD (s - 16).toNat [] ↔ FO ps k start s y := by
  constructor
  · intro h
    have := hs _ y h
    rwa [show (16 : Int) + ((s - 16).toNat : Int) = s by omega] at this
  · intro h
    induction h with
    | start => exact hc.1
    | @use p d s x y hp hd h16' hx hy ih =>
      refine hc.2 p hp d s hd h16 _ ?_
      refine (sums_mem k _ _ _).2 ⟨x, ?_, y, ?_, rfl⟩
      · exact (first_iff hk hk4 hf hss hsc (fun p hp => (hps p hp).2) _ (fun z hz => (hps p hp).2 z (List.mem_of_mem_drop hz)) x).2 hx
      · exact (lset_mem (k := 8) (fun z hz => (setsFit_get hff _ z hz).1) y).2 (ih (hps p hp).1)
end Go.Proofs.YtnnkfgekiaaehaaGreat

/- One round of all, plainly. -/
namespace Go.Proofs.YtnnkfgekiaaehaaGreat
set_option linter.unusedVariables false

theorem fo_symok {n : Nat} {s : Int} (h : SymOk n s) : s < 16 → 0 ≤ s ∧ s < 8 := by unfold SymOk at h; omega
theorem setO_sound {ps : List Pr} {k : Nat} {start : Int} {ss : List (List Lk)} (h : SoundO ps k start ss) (i : Nat) (hi : i < ss.length) {c : List Lk} (hc : ∀ y ∈ c, FO ps k start (16 + (i : Int)) y) : SoundO ps k start (ss.set i c) := by
  intro j y hy
  rw [getD_set ss i j c hi] at hy
  split at hy
  · rename_i e; subst e; exact hc y hy
  · exact h j y hy
/-- what one use adds -/
def newO (k : Nat) (ss fs : List (List Lk)) (p : Pr) (d : Nat) (s : Int) : List Lk := addAll (fs.getD (s - 16).toNat []) (usesL k ss fs p d)
structure RoundO (ps : List Pr) (k : Nat) (start : Int) (ss fs : List (List Lk)) (p : Pr) (d : Nat) (s : Int) : Prop where
  fit : SetsFit k (fs.set (s - 16).toNat (newO k ss fs p d s))
  sound : SoundO ps k start (fs.set (s - 16).toNat (newO k ss fs p d s))
  begin_ : Lk.of [] ∈ (fs.set (s - 16).toNat (newO k ss fs p d s)).getD (start - 16).toNat []
  grow : (fs.getD (s - 16).toNat []).length ≤ (newO k ss fs p d s).length
  same : (newO k ss fs p d s).length = (fs.getD (s - 16).toNat []).length → fs.set (s - 16).toNat (newO k ss fs p d s) = fs ∧ ∀ y ∈ usesL k ss fs p d, y ∈ fs.getD (s - 16).toNat []
  tot : YtnnkfgekiaaehaaGreat.tot (fs.set (s - 16).toNat (newO k ss fs p d s)) + (fs.getD (s - 16).toNat []).length = YtnnkfgekiaaehaaGreat.tot fs + (newO k ss fs p d s).length
theorem round_follow {ps : List Pr} {k n : Nat} {start : Int} (hk : 1 ≤ k) (hk4 : k ≤ 4) {ss fs : List (List Lk)} (hn : fs.length = n) (hf : SetsFit k ss) (hff : SetsFit k fs) (hss : SoundF ps k ss) (hs : SoundO ps k start fs) (hst : Lk.of [] ∈ fs.getD (start - 16).toNat [])
    {p : Pr} (hp : p ∈ ps) {d : Nat} {s : Int} (hd : p.right[d]? = some s) (hpl : 16 ≤ p.left) (h16 : 16 ≤ s) (hsn : s < 16 + (n : Int)) (hok : ∀ s ∈ p.right, SymOk n s) : RoundO ps k start ss fs p d s := by
  have hi : (s - 16).toNat < fs.length := by omega
  have hdr : ∀ z ∈ p.right.drop (d + 1), SymOk n z := fun z hz => hok z (List.mem_of_mem_drop hz)
  have hT := tail_fit hk hk4 hf _ hdr
  have hTs := tail_sound hk hk4 hf hss _ hdr
  have hlf := setsFit_get hff (p.left - 16).toNat
  have hL := lset_fit hlf
  have hU : ∀ z ∈ usesL k ss fs p d, Fit k z := sums_fit hk4 hT hL
  refine ⟨set_fit hff _ (all_fit (setsFit_get hff _) hU), setO_sound hs _ hi fun y hy => ?_, ?_, addAll_len _ _, fun h => ?_, tot_set fs _ _ hi⟩
  · rcases (addAll_mem _ _ y).1 hy with h | h
    · exact hs _ y h
    · obtain ⟨x, hx, z, hz, rfl⟩ := (sums_mem k _ _ y).1 h
      have hz2 := hs _ z ((lset_mem (k := 8) (fun z hz => (hlf z hz).1) z).1 hz)
      rw [show (16 : Int) + ((p.left - 16).toNat : Int) = p.left by omega] at hz2
      rw [show (16 : Int) + ((s - 16).toNat : Int) = s by omega]
      exact .use hp hd h16 (hTs x hx) hz2
  · rw [getD_set fs _ _ _ hi]
    split
    · rename_i e; unfold newO; rw [addAll_mem, e]; exact .inl hst
    · exact hst
  · obtain ⟨h1, h2⟩ := addAll_same _ _ h
    have e : newO k ss fs p d s = fs.getD (s - 16).toNat [] := h1
    rw [e]
    exact ⟨set_same fs _ hi, fun y hy => h2 y hy⟩
end Go.Proofs.YtnnkfgekiaaehaaGreat
