/- Walks and plain laws, part 7 of 8: stenotypekit.Any: the walk; The grammar and the look that come in as arguments: opened; The statement DeriveSteps: the walk; The plain laws of DeriveLists and DeriveRuns; The statement DeriveLists: the walk; derive.joined: the walk; derive.Shortest: the walk. Conditions: none beyond those that each theorem states. -/
import Derived.Test.YtlngbphchhbpbaaD6
import Derived.Deep.Strs
import Derived.Deep.SlicePairs
import Derived.OpenShut
import Derived.ChangeOld
import Derived.Deep.RegionHeld3
/- stenotypekit.Any: the walk. -/
namespace Go.Proofs.Ytlngbphchhbpbaa
open Go.ChangeShapes Go.WideShapes Go.ChangeAt Go.RowKit
set_option linter.unusedVariables false
set_option maxRecDepth 100000 in
set_option maxHeartbeats 8000000 in
theorem any_any (A : Option Addr) (n c : Nat) (l : List Int) (w : World) (h : Rd1 w w.heap.size A n (ints l)) (hn : n ≤ maxLen) (hwf : ∀ v ∈ l, (Lit.int .i64 v).wf = true) : Calls Try.prog 19 #[.slice A n c] w (RetG w (anyG l)) := by
  have hAt : Hid (∀ (W : World) (x : Int) (j : Nat), Below w.heap.size w W → x = (j : Int) → j ≤ 1000 → Calls Try.prog 40 #[.slice A n c, .int .i64 x] W fun e w' => e = .returned (.int .i64 (l.getD j 0)) ∧ W = w') := Lib.hid fun W x j hb hx hj => by
    subst hx
    exact at_any A n c l j w.heap.size W (h.below hb) hn (by omega)
  have hMo : Hid (∀ (W : World) (j : Nat), Calls Try.prog 20 #[.int .i64 (l.getD j 0), .int .i64 1073741824] W fun e w' => e = .returned (.int .i64 (numA l j)) ∧ W = w') := Lib.hid fun W j => by
    refine mod_any (l.getD j 0) 1073741824 W ?_ (by omega) (by omega)
    rw [List.getD_eq_getElem?_getD]
    cases hh : l[j]? with
    | none => rfl
    | some v => exact hwf v (List.mem_of_getElem? hh)
  have h' := Lib.hid h
  clear h hwf
  have hk0 := numA_bd l 0
  obtain ⟨t, ht⟩ : ∃ t, t = tA l := ⟨_, rfl⟩
  obtain ⟨m, hm⟩ : ∃ m, m = mA l := ⟨_, rfl⟩
  go_enter Try.func19, Try.ntmps19
  go_upto_region 2 with (first
    | (go_at_call 40; refine (hAt.out _ _ 0 (bAlc (Below.refl _ _) _) rfl (by omega)).mono ?_; rintro e w' ⟨rfl, rfl⟩)
    | (go_at_call 20; refine (hMo.out _ 0).mono ?_; rintro e w' ⟨rfl, rfl⟩))
  generalize hK0 : numA l 0 = k0 at *
  have ht2 : (1 + k0 / 2 % 2).toNat = t := by rw [ht]; unfold tA; rw [hK0]; omega
  have hm2 : 1 + k0 / 4 % 3 = (m : Int) := by rw [hm]; unfold mA; rw [hK0]; omega
  have htb : t = 1 ∨ t = 2 := by rw [ht]; exact tA_bd l
  have hmb : m = 1 ∨ m = 2 ∨ m = 3 := by rw [hm]; exact mA_bd l
  obtain ⟨K, hK⟩ : ∃ K, K = 1 + k0 % 2 := ⟨_, rfl⟩
  have hQ := Lib.hid (show anyG l = ⟨K, toksA t, ⟨#[122]⟩, (List.range m).map nameA, 16, prodsA l t m m⟩ by unfold anyG; rw [← ht, ← hm, hK0, hK])
  replace ht := Lib.hid ht
  replace hm := Lib.hid hm
  replace hK0 := Lib.hid hK0
  go_upto_region 3 with (fail)
  rw [← hK]
  replace hK := Lib.hid hK
  replace htb := Lib.hid htb
  replace hmb := Lib.hid hmb
  have hY0 : YI w K t none 0 none 0 [] [] (((w.alloc (.cells #[.int .i64 0, .slice none 0 0, .string ByteArray.empty, .slice none 0 0, .int .i64 0, .slice none 0 0] 25)).alloc (.cells #[.string { data := #[97] }, .string { data := #[98] }] 9)).alloc (.cells #[.int .i64 K, .slice (some ⟨w.heap.size + 1, 0, none⟩) t 2, .string { data := #[122] }, .slice none 0 0, .int .i64 16, .slice none 0 0] 25)) :=
    ⟨((Blk.new _ _ _).alloc _).alloc _, (Blk.newAt _ _ _ _ (by simp)).alloc _, Blk.newAt _ _ _ _ (by simp), Own1.nil _ _ 9, PsO.nil _ _, bAlc (bAlc (bAlc (Below.refl _ _) _) _) _⟩
  change Code.wp Try.prog _ _ _ (((w.alloc (.cells #[.int .i64 0, .slice none 0 0, .string ByteArray.empty, .slice none 0 0, .int .i64 0, .slice none 0 0] 25)).alloc (.cells #[.string { data := #[97] }, .string { data := #[98] }] 9)).alloc (.cells #[.int .i64 K, .slice (some ⟨w.heap.size + 1, 0, none⟩) t 2, .string { data := #[122] }, .slice none 0 0, .int .i64 16, .slice none 0 0] 25))
  generalize ((w.alloc (.cells #[.int .i64 0, .slice none 0 0, .string ByteArray.empty, .slice none 0 0, .int .i64 0, .slice none 0 0] 25)).alloc (.cells #[.string { data := #[97] }, .string { data := #[98] }] 9)).alloc (.cells #[.int .i64 K, .slice (some ⟨w.heap.size + 1, 0, none⟩) t 2, .string { data := #[122] }, .slice none 0 0, .int .i64 16, .slice none 0 0] 25) = W0 at *
  go_wp2_with fail
  go_loopg [6] m (fun gk s6 wr => ∃ (i : Nat) (NA : Option Addr) (nk : Nat) (PA : Option Addr) (pk : Nat), s6 = .int .i64 i ∧ i + gk = m ∧ YI w K t NA nk PA pk ((List.range i).map nameA) (prodsA l t m i) wr)
  case atStart => exact ⟨0, none, 0, none, 0, rfl, by omega, hY0⟩
  case round =>
    clear hY0
    obtain ⟨i, NA, nk, PA, pk, rfl, hi, hY⟩ := hrel
    replace hi := Lib.hid hi
    have hm3 : m ≤ 3 := by have := hmb.out; omega
    by_cases him : i < m
    · have hz1 : (0 : Int) ≤ i := by omega
      have hz2 : (i : Int) < m := by omega
      have hzi : i ≤ 2 := by omega
      have b3 := hY.2.2.1.cell 3
      simp only [List.getElem?_toArray, List.getElem?_cons_zero, List.getElem?_cons_succ] at b3
      go_upto_region 7 with (fail)
      go_cut [] (fun wx => ∃ (NA : Option Addr) (nk : Nat), YI w K t NA nk PA pk ((List.range (i + 1)).map nameA) (prodsA l t m i) wx)
      case first =>
        have hnm : (List.range (i + 1)).map nameA = (List.range i).map nameA ++ [nameA i] := by rw [List.range_succ, List.map_append]; rfl
        have hsl : strs ((List.range i).map nameA ++ [nameA i]) = strs ((List.range i).map nameA) ++ [.string (nameA i)] := by simp [strs]
        obtain ⟨ns, hns⟩ : ∃ ns, ns = (List.range i).map nameA := ⟨_, rfl⟩
        have hnl : ns.length ≤ 3 := by rw [hns]; simp; omega
        rw [← hns] at hY hsl b3 hnm
        replace hns := Lib.hid hns
        replace hnm := Lib.hid hnm
        replace hsl := Lib.hid hsl
        replace hnl := Lib.hid hnl
        rcases (by omega : i = 0 ∨ i = 1 ∨ i = 2) with rfl | rfl | rfl
        · have hcv := conv1 wr 83 83 rfl
          go_wp2_with (at_builtin; refine wpList_join1 _ rfl _ _ 22 rfl (w.heap.size + 3) 9 _ 16 under23 info9 rfl _ (strs ns) rfl ((hY.step (by repeat (first | assumption | exact Below.refl _ _ | (refine bStep ?_ (by assumption)) | (with_reducible refine bAlc ?_ _) | (with_reducible refine bDrw ?_)))).2.2.2.1) _ _ 1 1 [.string ⟨#[83]⟩] rfl (rd_blk (Blk.newAt _ _ _ _ (by simp))) (by simp [Value.oneCell']) (by simp [strs]; have := hnl.out; omega) (by omega) (by simp; have := hY.2.2.2.2.2.size; have := hY.2.2.1.lt; omega) ?_; intro v' w1 hown1 hg1 hat1 hb1; rw [show strs ns ++ [Value.string ⟨#[83]⟩] = strs (ns ++ [nameA 0]) from hsl.out.symm] at hown1; obtain ⟨NA2, nk2, rfl, _, _, _⟩ := own_strs hown1; obtain ⟨g3, f3⟩ := (hY.step (W' := (wr.alloc (.cells #[.int .u8 83] 5)).alloc (.cells #[.string ⟨#[83]⟩] 9)) (by repeat (first | assumption | exact Below.refl _ _ | (refine bStep ?_ (by assumption)) | (with_reducible refine bAlc ?_ _) | (with_reducible refine bDrw ?_)))).box hg1 (fun r e => (own_in hY.2.2.2.1 r e).1) 3; rw [((hY.step (W' := (wr.alloc (.cells #[.int .u8 83] 5)).alloc (.cells #[.string ⟨#[83]⟩] 9)) (by repeat (first | assumption | exact Below.refl _ _ | (refine bStep ?_ (by assumption)) | (with_reducible refine bAlc ?_ _) | (with_reducible refine bDrw ?_)))).2.2.1).cell 3] at g3; simp only [List.getElem?_toArray, List.getElem?_cons_zero, List.getElem?_cons_succ] at g3)
          go_meet
          refine ⟨NA2, nk2, ?_⟩
          rw [hnm.out]
          have h9 := (hY.step (by repeat (first | assumption | exact Below.refl _ _ | (refine bStep ?_ (by assumption)) | (with_reducible refine bAlc ?_ _) | (with_reducible refine bDrw ?_)))).names hg1 hown1
          rw [show (ns ++ [nameA 0]).length = ns.length + 1 by simp] at h9
          exact h9
        · have hcv := conv1 wr 84 84 rfl
          go_wp2_with (at_builtin; refine wpList_join1 _ rfl _ _ 22 rfl (w.heap.size + 3) 9 _ 16 under23 info9 rfl _ (strs ns) rfl ((hY.step (by repeat (first | assumption | exact Below.refl _ _ | (refine bStep ?_ (by assumption)) | (with_reducible refine bAlc ?_ _) | (with_reducible refine bDrw ?_)))).2.2.2.1) _ _ 1 1 [.string ⟨#[84]⟩] rfl (rd_blk (Blk.newAt _ _ _ _ (by simp))) (by simp [Value.oneCell']) (by simp [strs]; have := hnl.out; omega) (by omega) (by simp; have := hY.2.2.2.2.2.size; have := hY.2.2.1.lt; omega) ?_; intro v' w1 hown1 hg1 hat1 hb1; rw [show strs ns ++ [Value.string ⟨#[84]⟩] = strs (ns ++ [nameA 1]) from hsl.out.symm] at hown1; obtain ⟨NA2, nk2, rfl, _, _, _⟩ := own_strs hown1; obtain ⟨g3, f3⟩ := (hY.step (W' := (wr.alloc (.cells #[.int .u8 84] 5)).alloc (.cells #[.string ⟨#[84]⟩] 9)) (by repeat (first | assumption | exact Below.refl _ _ | (refine bStep ?_ (by assumption)) | (with_reducible refine bAlc ?_ _) | (with_reducible refine bDrw ?_)))).box hg1 (fun r e => (own_in hY.2.2.2.1 r e).1) 3; rw [((hY.step (W' := (wr.alloc (.cells #[.int .u8 84] 5)).alloc (.cells #[.string ⟨#[84]⟩] 9)) (by repeat (first | assumption | exact Below.refl _ _ | (refine bStep ?_ (by assumption)) | (with_reducible refine bAlc ?_ _) | (with_reducible refine bDrw ?_)))).2.2.1).cell 3] at g3; simp only [List.getElem?_toArray, List.getElem?_cons_zero, List.getElem?_cons_succ] at g3)
          go_meet
          refine ⟨NA2, nk2, ?_⟩
          rw [hnm.out]
          have h9 := (hY.step (by repeat (first | assumption | exact Below.refl _ _ | (refine bStep ?_ (by assumption)) | (with_reducible refine bAlc ?_ _) | (with_reducible refine bDrw ?_)))).names hg1 hown1
          rw [show (ns ++ [nameA 1]).length = ns.length + 1 by simp] at h9
          exact h9
        · have hcv := conv1 wr 85 85 rfl
          go_wp2_with (at_builtin; refine wpList_join1 _ rfl _ _ 22 rfl (w.heap.size + 3) 9 _ 16 under23 info9 rfl _ (strs ns) rfl ((hY.step (by repeat (first | assumption | exact Below.refl _ _ | (refine bStep ?_ (by assumption)) | (with_reducible refine bAlc ?_ _) | (with_reducible refine bDrw ?_)))).2.2.2.1) _ _ 1 1 [.string ⟨#[85]⟩] rfl (rd_blk (Blk.newAt _ _ _ _ (by simp))) (by simp [Value.oneCell']) (by simp [strs]; have := hnl.out; omega) (by omega) (by simp; have := hY.2.2.2.2.2.size; have := hY.2.2.1.lt; omega) ?_; intro v' w1 hown1 hg1 hat1 hb1; rw [show strs ns ++ [Value.string ⟨#[85]⟩] = strs (ns ++ [nameA 2]) from hsl.out.symm] at hown1; obtain ⟨NA2, nk2, rfl, _, _, _⟩ := own_strs hown1; obtain ⟨g3, f3⟩ := (hY.step (W' := (wr.alloc (.cells #[.int .u8 85] 5)).alloc (.cells #[.string ⟨#[85]⟩] 9)) (by repeat (first | assumption | exact Below.refl _ _ | (refine bStep ?_ (by assumption)) | (with_reducible refine bAlc ?_ _) | (with_reducible refine bDrw ?_)))).box hg1 (fun r e => (own_in hY.2.2.2.1 r e).1) 3; rw [((hY.step (W' := (wr.alloc (.cells #[.int .u8 85] 5)).alloc (.cells #[.string ⟨#[85]⟩] 9)) (by repeat (first | assumption | exact Below.refl _ _ | (refine bStep ?_ (by assumption)) | (with_reducible refine bAlc ?_ _) | (with_reducible refine bDrw ?_)))).2.2.1).cell 3] at g3; simp only [List.getElem?_toArray, List.getElem?_cons_zero, List.getElem?_cons_succ] at g3)
          go_meet
          refine ⟨NA2, nk2, ?_⟩
          rw [hnm.out]
          have h9 := (hY.step (by repeat (first | assumption | exact Below.refl _ _ | (refine bStep ?_ (by assumption)) | (with_reducible refine bAlc ?_ _) | (with_reducible refine bDrw ?_)))).names hg1 hown1
          rw [show (ns ++ [nameA 2]).length = ns.length + 1 by simp] at h9
          exact h9
      case rest =>
        clear hY b3
        obtain ⟨NA2, nk2, hY⟩ := hcut
        obtain ⟨ns, hns⟩ : ∃ ns, ns = (List.range (i + 1)).map nameA := ⟨_, rfl⟩
        rw [← hns] at hY
        replace hns := Lib.hid hns
        have hb0 := Lib.hid hY.2.2.2.2.2
        go_upto_region 9 with (first
          | (go_at_call 40; refine (hAt.out _ _ (1 + i) (hb0.out) (by omega) (by omega)).mono ?_; rintro e w' ⟨rfl, rfl⟩)
          | (go_at_call 20; refine (hMo.out _ (1 + i)).mono ?_; rintro e w' ⟨rfl, rfl⟩))
        obtain ⟨x, hx⟩ : ∃ x, x = numA l (1 + i) := ⟨_, rfl⟩
        have hxb := numA_bd l (1 + i)
        rw [← hx] at hxb ⊢
        obtain ⟨r, hr⟩ := Int.eq_ofNat_of_zero_le (show 0 ≤ x % 3 by omega)
        have hr3 : r ≤ 2 := by omega
        have hJ : Hid ((numA l (1 + i) % 3).toNat + 1 = r + 1) := Lib.hid (by rw [← hx, hr]; rfl)
        replace hx := Lib.hid hx
        obtain ⟨ps0, hps0⟩ : ∃ ps0, ps0 = prodsA l t m i := ⟨_, rfl⟩
        rw [← hps0] at hY
        replace hps0 := Lib.hid hps0
        go_wp2_with fail
        go_loopg [8] (r + 1) (fun gk s8 wx => ∃ (j : Nat) (PA : Option Addr) (pk : Nat) (ps : List Pr), s8 = .int .i64 j ∧ j + gk = r + 1 ∧ Hid (ps = (List.range j).foldl (addA l t m i) ps0) ∧ YI w K t NA2 nk2 PA pk ns ps wx)
        case atStart => exact ⟨0, PA, pk, ps0, rfl, by omega, Lib.hid rfl, hY⟩
        case round =>
          clear hY hb0
          obtain ⟨j, PA, pk, ps, rfl, hj, hps, hY⟩ := hrel
          replace hj := Lib.hid hj
          have b5 := hY.2.2.1.cell 5
          simp only [List.getElem?_toArray, List.getElem?_cons_zero, List.getElem?_cons_succ] at b5
          have hjr : j ≤ r + 1 := by have := hj.out; omega
          have hjz : (0 : Int) ≤ j := by omega
          by_cases hjn : j ≤ r
          · have hjn' : (j : Int) ≤ r := by omega
            by_cases h7 : ps.length < 7
            · have h7' : (ps.length : Int) < 7 := by omega
              obtain ⟨y, hy⟩ : ∃ y, y = numA l (4 + 3 * i + j) := ⟨_, rfl⟩
              have hyb := numA_bd l (4 + 3 * i + j)
              rw [← hy] at hyb
              have hMy : Hid (∀ (W : World), Calls Try.prog 20 #[.int .i64 (l.getD (4 + 3 * i + j) 0), .int .i64 1073741824] W fun e w' => e = .returned (.int .i64 y) ∧ W = w') := Lib.hid fun W => by rw [hy]; exact hMo.out W _
              obtain ⟨Y, hY4⟩ := Int.eq_ofNat_of_zero_le (show 0 ≤ y % 4 by omega)
              have hYb : Y ≤ 3 := by omega
              have hrt : (rightA t m y).length = Y := by simp only [rightA, List.length_map, List.length_range]; omega
              have hpe : addA l t m i ps j = ps ++ [⟨16 + (i : Int), rightA t m y⟩] := by unfold addA; rw [if_pos h7, hy]; rfl
              replace hy := Lib.hid hy
              replace hpe := Lib.hid hpe
              replace hrt := Lib.hid hrt
              have hb0 := Lib.hid hY.2.2.2.2.2
              have hb1 : Below wr.heap.size wr (wr.alloc (.cells #[.int .i64 (16 + (i : Int)), .slice none 0 0] 49)) := bAlc (Below.refl _ _) _
              have q9 := Blk.new wr 49 #[.int .i64 (16 + (i : Int)), .slice none 0 0]
              have hY1 := hY.step hb1
              have hlt := hY.2.2.1.lt
              go_upto_region 13 with (fail)
              clear b5
              obtain ⟨V0, hV0⟩ : ∃ V0, V0 = wr := ⟨_, rfl⟩
              rw [← hV0] at hY hb1 q9 hY1 hb0 hlt ⊢
              clear hV0
              generalize V0.alloc (.cells #[.int .i64 (16 + (i : Int)), .slice none 0 0] 49) = W1 at *
              generalize hb9 : V0.heap.size = b9 at *
              replace hb9 := Lib.hid hb9
              go_upto_region 14 with (first
                | (go_at_call 40; refine (hAt.out _ _ (4 + 3 * i + j) hY1.2.2.2.2.2 (by omega) (by omega)).mono ?_; rintro e w' ⟨rfl, rfl⟩)
                | (go_at_call 20; refine (hMy.out _).mono ?_; rintro e w' ⟨rfl, rfl⟩))
              go_wp2_with fail
              go_loopg [11] Y (fun gk s11 wx => ∃ (s : Nat) (RA : Option Addr) (rk : Nat), s11 = .int .i64 s ∧ s + gk = Y ∧ Blk wx b9 49 #[.int .i64 (16 + (i : Int)), .slice RA s rk] ∧ Own1 wx (b9 + 1) 3 (.slice RA s rk) (ints ((rightA t m y).take s)) ∧ Below b9 V0 wx)
              case atStart => exact ⟨0, none, 0, rfl, by omega, q9, Own1.nil _ _ 3, hb1⟩
              case round =>
                clear hY1 q9 hb1
                obtain ⟨s, RA, rk, rfl, hs, q9, ho, hbx⟩ := hrel
                replace hs := Lib.hid hs
                have hsz : (0 : Int) ≤ s := by omega
                have hsY0 : s ≤ Y := by have := hs.out; omega
                by_cases hsY : s < Y
                · have hsY' : (s : Int) < Y := by omega
                  go_upto_region 17 with (fail)
                  go_cut [12] (fun s12 wx => s12 = .int .i64 (digA y s) ∧ wx = wr)
                  case first =>
                    rcases (by omega : s = 0 ∨ s = 1 ∨ s = 2) with rfl | rfl | rfl
                    all_goals
                      go_wp2_with fail
                      go_meet
                      exact ⟨by simp [digA], rfl⟩
                  case rest =>
                    obtain ⟨rfl, hwc⟩ := hcut
                    subst hwc
                    have hzb : 0 ≤ digA y s ∧ digA y s < 16 := by unfold digA; omega
                    have htk := rightA_take t m y s (by omega)
                    have hsy : symA t m (digA y s) = if digA y s % 5 < 3 then digA y s % (t : Int) else 16 + digA y s % (m : Int) := rfl
                    generalize digA y s = z at *
                    have hxl : ((rightA t m y).take s).length = s := by rw [List.length_take, hrt.out]; omega
                    have ht0 : ¬ (t : Int) = 0 := by have := htb.out; omega
                    have hm0 : ¬ (m : Int) = 0 := by omega
                    have htp : (0 : Int) ≤ t := by omega
                    have hmp : (0 : Int) ≤ m := by omega
                    have hYx := hY.step (show Below V0.heap.size V0 wc from by rw [hb9.out]; exact hbx)
                    have g1 := hYx.2.2.1.cell 1
                    have c1 := q9.cell 1
                    simp only [List.getElem?_toArray, List.getElem?_cons_zero, List.getElem?_cons_succ] at g1 c1
                    have hsb := hYx.2.2.1.lt
                    have hb9l : b9 ≤ wc.heap.size := by have := q9.lt; omega
                    by_cases hz5 : z % 5 < 3
                    · rw [if_pos hz5] at hsy
                      obtain ⟨u, hu⟩ : ∃ u : Int, u = z % (t : Int) := ⟨_, rfl⟩
                      have hzm : z.tmod (t : Int) = u := by rw [hu]; exact Int.tmod_eq_emod_of_nonneg hzb.1
                      have hu1 : 0 ≤ u := by rw [hu]; exact Int.emod_nonneg _ ht0
                      have hu2 : u < 3 := by have := Int.emod_lt_of_pos z (show (0 : Int) < (t : Int) by omega); have := htb.out; omega
                      rw [← hu] at hsy
                      replace hu := Lib.hid hu
                      have hd0 : ¬ t = 0 := by omega
                      obtain ⟨RA2, rk2, W2, hrun, ho2, hg2⟩ := run_push1 ((wc.alloc (.cells #[.int .i64 (u)] 3)).drew) (b9 + 1) RA rk ((rightA t m y).take s) (by rw [hxl]; exact (ho.alloc _).step (Below.refl _ _).drew) (u) wc.heap.size (Blk.new _ _ _).drew (by omega) (by simp; omega)
                      rw [hxl] at hrun ho2 hg2
                      have hlo : ∀ r, (Value.slice RA s rk).ownBlock = some r → b9 + 1 ≤ r := fun r e => (own_in ho r e).1
                      have q9b : Blk W2 b9 49 #[.int .i64 (16 + (i : Int)), .slice RA s rk] := ((q9.alloc _).drew).grown hg2 (fun e => by have := hlo _ e.symm; omega)
                      have c1b := q9b.cell 1
                      have f1b := q9b.frozen 1
                      simp only [List.getElem?_toArray, List.getElem?_cons_zero, List.getElem?_cons_succ] at c1b
                      have hb2 : Below b9 V0 W2 := hbx.trans (((((Below.refl b9 wc).alloc hb9l _).drew).trans ⟨hg2.os, hg2.tape, hg2.output, hg2.size, fun k hk => hg2.block k (by simp; omega) (fun e => by have := hlo _ e.symm; omega)⟩))
                      have ho3 : Own1 (W2.setCell ⟨b9, 1, none⟩ (.slice RA2 (s + 1) rk2)) (b9 + 1) 3 (.slice RA2 (s + 1) rk2) (ints ((rightA t m y).take (s + 1))) := by
                        rw [htk, hsy]
                        exact row_grown ho2 (grownBy_setC' W2 b9 1 _) (fun b cs e hq => by injection e with e; subst e; cases blk_type q9b hq)
                      replace htk := Lib.hid htk
                      replace hsy := Lib.hid hsy
                      replace hxl := Lib.hid hxl
                      have c1c : ((wc.alloc (.cells #[.int .i64 (u)] 3)).drew).cell? ⟨b9, 1, none⟩ = some (.slice RA s rk) := ((q9.alloc _).drew).cell 1
                      go_upto_region 19 with (fail)
                      have g1d : wc.drew.cell? ⟨w.heap.size + 1 + 1, 1, none⟩ = some (.slice (some ⟨w.heap.size + 1, 0, none⟩) t 2) := g1
                      have g1a : ((wc.alloc (.cells #[.int .i64 u] 3)).drew).cell? ⟨w.heap.size + 1 + 1, 1, none⟩ = some (.slice (some ⟨w.heap.size + 1, 0, none⟩) t 2) := ((hYx.2.2.1.alloc _).drew).cell 1
                      have hbx2 : Blk W2 (w.heap.size + 1 + 1) 25 _ := ((hYx.2.2.1.alloc _).drew).grown hg2 (fun e => by have := hlo _ e.symm; omega)
                      have g1b : W2.cell? ⟨w.heap.size + 1 + 1, 1, none⟩ = some (.slice (some ⟨w.heap.size + 1, 0, none⟩) t 2) := hbx2.cell 1
                      have g1c : (W2.setCell ⟨b9, 1, none⟩ (.slice RA2 (s + 1) rk2)).cell? ⟨w.heap.size + 1 + 1, 1, none⟩ = some (.slice (some ⟨w.heap.size + 1, 0, none⟩) t 2) := (hbx2.far (p := ⟨b9, 1, none⟩) (by simp; omega) _).cell 1
                      refine wp_region_held_drew (S := (fun w' => w'.cell? ⟨w.heap.size + 1 + 1, 1, none⟩ = some (.slice (some ⟨w.heap.size + 1, 0, none⟩) t 2))) (by kernel_rfl) g1d (fun hHeld => ?_)
                      refine wpAnyH_take (i := 0) (oi := ⟨some 89, _, _, _, _, _⟩) (v := ?vp1) rfl (by kernel_rfl) (by kernel_rfl) (by kernel_rfl) (fun _ _ _ h => h) (Or.inl ⟨by rfl, ?hyp1⟩) (by assumption) ?restp1
                      case hyp1 => (intro w hSw; (try dsimp only at hSw); go_simp <;> with_reducible rfl)
                      try simp only [Act.put, List.setIfInBounds_toArray, List.set_cons_zero, List.set_cons_succ]
                      refine wpAnyH_take (i := 2) (oi := ⟨some 91, _, _, _, _, _⟩) (v := ?vp2) rfl (by kernel_rfl) (by kernel_rfl) (by kernel_rfl) (fun _ _ _ h => h) (Or.inl ⟨by rfl, ?hyp2⟩) (by assumption) ?restp2
                      case hyp2 => (intro w hSw; (try dsimp only at hSw); go_simp <;> with_reducible rfl)
                      try simp only [Act.put, List.setIfInBounds_toArray, List.set_cons_zero, List.set_cons_succ]
                      refine wpAnyH_take (i := 3) (oi := ⟨some 92, _, _, _, _, _⟩) (v := ?vp3) rfl (by kernel_rfl) (by kernel_rfl) (by kernel_rfl) (fun _ _ _ h => h) (Or.inl ⟨by rfl, ?hyp3⟩) (by assumption) ?restp3
                      case hyp3 => (intro w hSw; (try dsimp only at hSw); go_simp <;> with_reducible rfl)
                      try simp only [Act.put, List.setIfInBounds_toArray, List.set_cons_zero, List.set_cons_succ]
                      refine wpAnyH_take (i := 4) (oi := ⟨some 93, _, _, _, _, _⟩) (v := ?vp4) rfl (by kernel_rfl) (by kernel_rfl) (by kernel_rfl) (fun _ _ _ h => h) (Or.inl ⟨by rfl, ?hyp4⟩) (by assumption) ?restp4
                      case hyp4 => (intro w hSw; (try dsimp only at hSw); go_simp <;> with_reducible rfl)
                      try simp only [Act.put, List.setIfInBounds_toArray, List.set_cons_zero, List.set_cons_succ]
                      refine wpAnyH_take (i := 5) (oi := ⟨some 94, _, _, _, _, _⟩) (v := ?vp5) rfl (by kernel_rfl) (by kernel_rfl) (by kernel_rfl) (fun _ _ _ h => h) (Or.inl ⟨by rfl, ?hyp5⟩) (by assumption) ?restp5
                      case hyp5 => (intro w hSw; (try dsimp only at hSw); go_simp <;> with_reducible rfl)
                      try simp only [Act.put, List.setIfInBounds_toArray, List.set_cons_zero, List.set_cons_succ]
                      refine wpAnyH_take (i := 6) (oi := ⟨some 95, _, _, _, _, _⟩) (v := ?vp6) rfl (by kernel_rfl) (by kernel_rfl) (by kernel_rfl) (fun _ _ _ h => h) (Or.inl ⟨by rfl, ?hyp6⟩) (by assumption) ?restp6
                      case hyp6 => (intro w hSw; (try dsimp only at hSw); go_simp <;> with_reducible rfl)
                      try simp only [Act.put, List.setIfInBounds_toArray, List.set_cons_zero, List.set_cons_succ]
                      refine wpAnyH_ready (rs := [1, 7]) (by kernel_rfl) (by simp) ?_
                      refine AllReadyH.cons (o := ⟨some 90, _, _, _, _, _⟩) rfl (fun K hK => ?_) ?_
                      · go_simp
                        refine hK.out _ _ ?_ (fun hHeld => ?_)
                        · first | exact g1d | exact g1a | exact g1b | exact g1c
                        clear hK K
                        try simp only [Act.put, List.setIfInBounds_toArray, List.set_cons_zero, List.set_cons_succ]
                        refine wpAnyH_ready (rs := [7]) (by kernel_rfl) (by simp) ?_
                        refine AllReadyH.cons (o := ⟨some 96, _, _, _, _, _⟩) rfl (fun K hK => ?_) ?_
                        · go_simp
                          refine hK.out _ _ ?_ (fun hHeld => ?_)
                          · first | exact g1d | exact g1a | exact g1b | exact g1c
                          clear hK K
                          try simp only [Act.put, List.setIfInBounds_toArray, List.set_cons_zero, List.set_cons_succ]
                          refine wpAnyH_ready (rs := [8]) (by kernel_rfl) (by simp) ?_
                          refine AllReadyH.cons (o := ⟨some 97, _, _, _, _, _⟩) rfl (fun K hK => ?_) ?_
                          · skip
                            refine step_of_wp _ (by rfl) ?_
                            refine wp_of_append _ _ _ (by rfl) _ _ (by rfl) (by rfl) _ _ hrun ?_
                            refine hK.out _ _ ?_ (fun hHeld => ?_)
                            · first | exact g1d | exact g1a | exact g1b | exact g1c
                            clear hK K
                            try simp only [Act.put, List.setIfInBounds_toArray, List.set_cons_zero, List.set_cons_succ]
                            refine wpAnyH_take (i := 9) (oi := ⟨some 98, _, _, _, _, _⟩) (v := ?vp7) rfl (by kernel_rfl) (by kernel_rfl) (by kernel_rfl) (fun _ _ _ h => h) (Or.inl ⟨by rfl, ?hyp7⟩) (by assumption) ?restp7
                            case hyp7 => (intro w hSw; (try dsimp only at hSw); go_simp <;> with_reducible rfl)
                            try simp only [Act.put, List.setIfInBounds_toArray, List.set_cons_zero, List.set_cons_succ]
                            refine wpAnyH_ready (rs := [10]) (by kernel_rfl) (by simp) ?_
                            refine AllReadyH.cons (o := ⟨none, _, _, _, _, _⟩) rfl (fun K hK => ?_) ?_
                            · go_simp
                              refine hK.out _ _ ?_ (fun hHeld => ?_)
                              · first | exact g1d | exact g1a | exact g1b | exact g1c
                              clear hK K
                              try simp only [Act.put, List.setIfInBounds_toArray, List.set_cons_zero, List.set_cons_succ]
                              refine wpAnyH_done (by kernel_rfl) ?_ _
                              go_wp2_with fail
                              go_roundg (Y - (s + 1))
                              case measure => have := hs.out; omega
                              case rel => exact ⟨s + 1, RA2, rk2, by go_num, by have := hs.out; omega, q9b.put 1 _, ho3, hb2.setCell (Nat.le_refl _) _⟩
                            exact AllReadyH.nil
                          exact AllReadyH.nil
                        exact AllReadyH.nil
                      refine AllReadyH.cons (o := ⟨some 96, _, _, _, _, _⟩) rfl (fun K hK => ?_) ?_
                      · go_simp
                        refine hK.out _ _ ?_ (fun hHeld => ?_)
                        · first | exact g1d | exact g1a | exact g1b | exact g1c
                        clear hK K
                        try simp only [Act.put, List.setIfInBounds_toArray, List.set_cons_zero, List.set_cons_succ]
                        refine wpAnyH_ready (rs := [1]) (by kernel_rfl) (by simp) ?_
                        refine AllReadyH.cons (o := ⟨some 90, _, _, _, _, _⟩) rfl (fun K hK => ?_) ?_
                        · go_simp
                          refine hK.out _ _ ?_ (fun hHeld => ?_)
                          · first | exact g1d | exact g1a | exact g1b | exact g1c
                          clear hK K
                          try simp only [Act.put, List.setIfInBounds_toArray, List.set_cons_zero, List.set_cons_succ]
                          refine wpAnyH_ready (rs := [8]) (by kernel_rfl) (by simp) ?_
                          refine AllReadyH.cons (o := ⟨some 97, _, _, _, _, _⟩) rfl (fun K hK => ?_) ?_
                          · skip
                            refine step_of_wp _ (by rfl) ?_
                            refine wp_of_append _ _ _ (by rfl) _ _ (by rfl) (by rfl) _ _ hrun ?_
                            refine hK.out _ _ ?_ (fun hHeld => ?_)
                            · first | exact g1d | exact g1a | exact g1b | exact g1c
                            clear hK K
                            try simp only [Act.put, List.setIfInBounds_toArray, List.set_cons_zero, List.set_cons_succ]
                            refine wpAnyH_take (i := 9) (oi := ⟨some 98, _, _, _, _, _⟩) (v := ?vp8) rfl (by kernel_rfl) (by kernel_rfl) (by kernel_rfl) (fun _ _ _ h => h) (Or.inl ⟨by rfl, ?hyp8⟩) (by assumption) ?restp8
                            case hyp8 => (intro w hSw; (try dsimp only at hSw); go_simp <;> with_reducible rfl)
                            try simp only [Act.put, List.setIfInBounds_toArray, List.set_cons_zero, List.set_cons_succ]
                            refine wpAnyH_ready (rs := [10]) (by kernel_rfl) (by simp) ?_
                            refine AllReadyH.cons (o := ⟨none, _, _, _, _, _⟩) rfl (fun K hK => ?_) ?_
                            · go_simp
                              refine hK.out _ _ ?_ (fun hHeld => ?_)
                              · first | exact g1d | exact g1a | exact g1b | exact g1c
                              clear hK K
                              try simp only [Act.put, List.setIfInBounds_toArray, List.set_cons_zero, List.set_cons_succ]
                              refine wpAnyH_done (by kernel_rfl) ?_ _
                              go_wp2_with fail
                              go_roundg (Y - (s + 1))
                              case measure => have := hs.out; omega
                              case rel => exact ⟨s + 1, RA2, rk2, by go_num, by have := hs.out; omega, q9b.put 1 _, ho3, hb2.setCell (Nat.le_refl _) _⟩
                            exact AllReadyH.nil
                          exact AllReadyH.nil
                        exact AllReadyH.nil
                      exact AllReadyH.nil
                    · rw [if_neg hz5] at hsy
                      obtain ⟨u, hu⟩ : ∃ u : Int, u = z % (m : Int) := ⟨_, rfl⟩
                      have hzm : z.tmod (m : Int) = u := by rw [hu]; exact Int.tmod_eq_emod_of_nonneg hzb.1
                      have hu1 : 0 ≤ u := by rw [hu]; exact Int.emod_nonneg _ hm0
                      have hu2 : u < 3 := by have := Int.emod_lt_of_pos z (show (0 : Int) < (m : Int) by omega); have := htb.out; omega
                      rw [← hu] at hsy
                      replace hu := Lib.hid hu
                      have hd0 : ¬ m = 0 := by omega
                      have zwu : IntKind.i64.wrap (16 + u) = 16 + u := IntWalk.i64_in _ (by omega)
                      obtain ⟨RA2, rk2, W2, hrun, ho2, hg2⟩ := run_push1 ((wc.alloc (.cells #[.int .i64 (16 + u)] 3)).drew) (b9 + 1) RA rk ((rightA t m y).take s) (by rw [hxl]; exact (ho.alloc _).step (Below.refl _ _).drew) (16 + u) wc.heap.size (Blk.new _ _ _).drew (by omega) (by simp; omega)
                      rw [hxl] at hrun ho2 hg2
                      have hlo : ∀ r, (Value.slice RA s rk).ownBlock = some r → b9 + 1 ≤ r := fun r e => (own_in ho r e).1
                      have q9b : Blk W2 b9 49 #[.int .i64 (16 + (i : Int)), .slice RA s rk] := ((q9.alloc _).drew).grown hg2 (fun e => by have := hlo _ e.symm; omega)
                      have c1b := q9b.cell 1
                      have f1b := q9b.frozen 1
                      simp only [List.getElem?_toArray, List.getElem?_cons_zero, List.getElem?_cons_succ] at c1b
                      have hb2 : Below b9 V0 W2 := hbx.trans (((((Below.refl b9 wc).alloc hb9l _).drew).trans ⟨hg2.os, hg2.tape, hg2.output, hg2.size, fun k hk => hg2.block k (by simp; omega) (fun e => by have := hlo _ e.symm; omega)⟩))
                      have ho3 : Own1 (W2.setCell ⟨b9, 1, none⟩ (.slice RA2 (s + 1) rk2)) (b9 + 1) 3 (.slice RA2 (s + 1) rk2) (ints ((rightA t m y).take (s + 1))) := by
                        rw [htk, hsy]
                        exact row_grown ho2 (grownBy_setC' W2 b9 1 _) (fun b cs e hq => by injection e with e; subst e; cases blk_type q9b hq)
                      replace htk := Lib.hid htk
                      replace hsy := Lib.hid hsy
                      replace hxl := Lib.hid hxl
                      have c1c : ((wc.alloc (.cells #[.int .i64 (16 + u)] 3)).drew).cell? ⟨b9, 1, none⟩ = some (.slice RA s rk) := ((q9.alloc _).drew).cell 1
                      go_upto_region 20 with (fail)
                      refine wp_region_held_drew (S := (fun _ => True)) (by kernel_rfl) trivial (fun hHeld => ?_)
                      refine wpAnyH_take (i := 0) (oi := ⟨some 99, _, _, _, _, _⟩) (v := ?vq1) rfl (by kernel_rfl) (by kernel_rfl) (by kernel_rfl) (fun _ _ _ h => h) (Or.inl ⟨by rfl, ?hyq1⟩) (by assumption) ?restq1
                      case hyq1 => (intro w hSw; (try dsimp only at hSw); go_simp <;> with_reducible rfl)
                      try simp only [Act.put, List.setIfInBounds_toArray, List.set_cons_zero, List.set_cons_succ]
                      refine wpAnyH_take (i := 2) (oi := ⟨some 101, _, _, _, _, _⟩) (v := ?vq2) rfl (by kernel_rfl) (by kernel_rfl) (by kernel_rfl) (fun _ _ _ h => h) (Or.inl ⟨by rfl, ?hyq2⟩) (by assumption) ?restq2
                      case hyq2 => (intro w hSw; (try dsimp only at hSw); go_simp <;> with_reducible rfl)
                      try simp only [Act.put, List.setIfInBounds_toArray, List.set_cons_zero, List.set_cons_succ]
                      refine wpAnyH_take (i := 3) (oi := ⟨some 102, _, _, _, _, _⟩) (v := ?vq3) rfl (by kernel_rfl) (by kernel_rfl) (by kernel_rfl) (fun _ _ _ h => h) (Or.inl ⟨by rfl, ?hyq3⟩) (by assumption) ?restq3
                      case hyq3 => (intro w hSw; (try dsimp only at hSw); go_simp <;> with_reducible rfl)
                      try simp only [Act.put, List.setIfInBounds_toArray, List.set_cons_zero, List.set_cons_succ]
                      refine wpAnyH_take (i := 4) (oi := ⟨some 103, _, _, _, _, _⟩) (v := ?vq4) rfl (by kernel_rfl) (by kernel_rfl) (by kernel_rfl) (fun _ _ _ h => h) (Or.inl ⟨by rfl, ?hyq4⟩) (by assumption) ?restq4
                      case hyq4 => (intro w hSw; (try dsimp only at hSw); go_simp <;> with_reducible rfl)
                      try simp only [Act.put, List.setIfInBounds_toArray, List.set_cons_zero, List.set_cons_succ]
                      refine wpAnyH_take (i := 5) (oi := ⟨some 104, _, _, _, _, _⟩) (v := ?vq5) rfl (by kernel_rfl) (by kernel_rfl) (by kernel_rfl) (fun _ _ _ h => h) (Or.inl ⟨by rfl, ?hyq5⟩) (by assumption) ?restq5
                      case hyq5 => (intro w hSw; (try dsimp only at hSw); go_simp <;> with_reducible rfl)
                      try simp only [Act.put, List.setIfInBounds_toArray, List.set_cons_zero, List.set_cons_succ]
                      refine wpAnyH_ready (rs := [1, 6]) (by kernel_rfl) (by simp) ?_
                      refine AllReadyH.cons (o := ⟨some 100, _, _, _, _, _⟩) rfl (fun K hK => ?_) ?_
                      · go_simp
                        refine hK.out _ _ ?_ (fun hHeld => ?_)
                        · trivial
                        clear hK K
                        try simp only [Act.put, List.setIfInBounds_toArray, List.set_cons_zero, List.set_cons_succ]
                        refine wpAnyH_ready (rs := [6]) (by kernel_rfl) (by simp) ?_
                        refine AllReadyH.cons (o := ⟨some 105, _, _, _, _, _⟩) rfl (fun K hK => ?_) ?_
                        · go_simp
                          refine hK.out _ _ ?_ (fun hHeld => ?_)
                          · trivial
                          clear hK K
                          try simp only [Act.put, List.setIfInBounds_toArray, List.set_cons_zero, List.set_cons_succ]
                          refine wpAnyH_ready (rs := [7]) (by kernel_rfl) (by simp) ?_
                          refine AllReadyH.cons (o := ⟨some 106, _, _, _, _, _⟩) rfl (fun K hK => ?_) ?_
                          · skip
                            refine step_of_wp _ (by rfl) ?_
                            refine wp_of_append _ _ _ (by rfl) _ _ (by rfl) (by rfl) _ _ hrun ?_
                            refine hK.out _ _ ?_ (fun hHeld => ?_)
                            · trivial
                            clear hK K
                            try simp only [Act.put, List.setIfInBounds_toArray, List.set_cons_zero, List.set_cons_succ]
                            refine wpAnyH_take (i := 8) (oi := ⟨some 107, _, _, _, _, _⟩) (v := ?vq6) rfl (by kernel_rfl) (by kernel_rfl) (by kernel_rfl) (fun _ _ _ h => h) (Or.inl ⟨by rfl, ?hyq6⟩) (by assumption) ?restq6
                            case hyq6 => (intro w hSw; (try dsimp only at hSw); go_simp <;> with_reducible rfl)
                            try simp only [Act.put, List.setIfInBounds_toArray, List.set_cons_zero, List.set_cons_succ]
                            refine wpAnyH_ready (rs := [9]) (by kernel_rfl) (by simp) ?_
                            refine AllReadyH.cons (o := ⟨none, _, _, _, _, _⟩) rfl (fun K hK => ?_) ?_
                            · go_simp
                              refine hK.out _ _ ?_ (fun hHeld => ?_)
                              · trivial
                              clear hK K
                              try simp only [Act.put, List.setIfInBounds_toArray, List.set_cons_zero, List.set_cons_succ]
                              refine wpAnyH_done (by kernel_rfl) ?_ _
                              go_wp2_with fail
                              go_roundg (Y - (s + 1))
                              case measure => have := hs.out; omega
                              case rel => exact ⟨s + 1, RA2, rk2, by go_num, by have := hs.out; omega, q9b.put 1 _, ho3, hb2.setCell (Nat.le_refl _) _⟩
                            exact AllReadyH.nil
                          exact AllReadyH.nil
                        exact AllReadyH.nil
                      refine AllReadyH.cons (o := ⟨some 105, _, _, _, _, _⟩) rfl (fun K hK => ?_) ?_
                      · go_simp
                        refine hK.out _ _ ?_ (fun hHeld => ?_)
                        · trivial
                        clear hK K
                        try simp only [Act.put, List.setIfInBounds_toArray, List.set_cons_zero, List.set_cons_succ]
                        refine wpAnyH_ready (rs := [1]) (by kernel_rfl) (by simp) ?_
                        refine AllReadyH.cons (o := ⟨some 100, _, _, _, _, _⟩) rfl (fun K hK => ?_) ?_
                        · go_simp
                          refine hK.out _ _ ?_ (fun hHeld => ?_)
                          · trivial
                          clear hK K
                          try simp only [Act.put, List.setIfInBounds_toArray, List.set_cons_zero, List.set_cons_succ]
                          refine wpAnyH_ready (rs := [7]) (by kernel_rfl) (by simp) ?_
                          refine AllReadyH.cons (o := ⟨some 106, _, _, _, _, _⟩) rfl (fun K hK => ?_) ?_
                          · skip
                            refine step_of_wp _ (by rfl) ?_
                            refine wp_of_append _ _ _ (by rfl) _ _ (by rfl) (by rfl) _ _ hrun ?_
                            refine hK.out _ _ ?_ (fun hHeld => ?_)
                            · trivial
                            clear hK K
                            try simp only [Act.put, List.setIfInBounds_toArray, List.set_cons_zero, List.set_cons_succ]
                            refine wpAnyH_take (i := 8) (oi := ⟨some 107, _, _, _, _, _⟩) (v := ?vq7) rfl (by kernel_rfl) (by kernel_rfl) (by kernel_rfl) (fun _ _ _ h => h) (Or.inl ⟨by rfl, ?hyq7⟩) (by assumption) ?restq7
                            case hyq7 => (intro w hSw; (try dsimp only at hSw); go_simp <;> with_reducible rfl)
                            try simp only [Act.put, List.setIfInBounds_toArray, List.set_cons_zero, List.set_cons_succ]
                            refine wpAnyH_ready (rs := [9]) (by kernel_rfl) (by simp) ?_
                            refine AllReadyH.cons (o := ⟨none, _, _, _, _, _⟩) rfl (fun K hK => ?_) ?_
                            · go_simp
                              refine hK.out _ _ ?_ (fun hHeld => ?_)
                              · trivial
                              clear hK K
                              try simp only [Act.put, List.setIfInBounds_toArray, List.set_cons_zero, List.set_cons_succ]
                              refine wpAnyH_done (by kernel_rfl) ?_ _
                              go_wp2_with fail
                              go_roundg (Y - (s + 1))
                              case measure => have := hs.out; omega
                              case rel => exact ⟨s + 1, RA2, rk2, by go_num, by have := hs.out; omega, q9b.put 1 _, ho3, hb2.setCell (Nat.le_refl _) _⟩
                            exact AllReadyH.nil
                          exact AllReadyH.nil
                        exact AllReadyH.nil
                      exact AllReadyH.nil
                · have hse : s = Y := by omega
                  subst hse
                  have hfull : (rightA t m y).take s = rightA t m y := List.take_of_length_le (by rw [hrt.out]; exact Nat.le_refl _)
                  rw [hfull] at ho
                  obtain ⟨RA', rk', e1, hrtA⟩ := RtAt.of ho
                  rw [hrt.out] at e1
                  cases e1
                  have hYx := hY.step (show Below V0.heap.size V0 wr from by rw [hb9.out]; exact hbx)
                  have g5 := hYx.2.2.1.cell 5
                  have c0 := q9.cell 0
                  have c1 := q9.cell 1
                  simp only [List.getElem?_toArray, List.getElem?_cons_zero, List.getElem?_cons_succ] at g5 c0 c1
                  have hb9l : w.heap.size + 3 ≤ b9 := by have := hb9.out; have := hY.2.2.1.lt; omega
                  have hq9l := q9.lt
                  have hbA : Below wr.heap.size wr (wr.alloc (.cells #[.int .i64 (16 + (i : Int)), .slice RA s rk] 49)) := bAlc (Below.refl _ _) _
                  have hqA : Blk (wr.alloc (.cells #[.int .i64 (16 + (i : Int)), .slice RA s rk] 49)) wr.heap.size 49 #[.int .i64 (Pr.mk (16 + (i : Int)) (rightA t m y)).left, .slice RA (Pr.mk (16 + (i : Int)) (rightA t m y)).right.length rk] := by
                    show Blk _ _ 49 #[.int .i64 (16 + (i : Int)), .slice RA (rightA t m y).length rk]
                    rw [hrt.out]; exact Blk.new _ _ _
                  have hPA := (hYx.step hbA).2.2.2.2.1
                  have hlo : ∀ rr, (Value.slice PA ps.length pk).ownBlock = some rr → w.heap.size + 3 ≤ rr := fun rr e => by obtain ⟨rs, hpr⟩ := hPA; exact (own_in hpr.2.1 rr e).1
                  have hpl : (ps ++ [Pr.mk (16 + (i : Int)) (rightA t m y)]).length = ps.length + 1 := by simp
                  replace hpl := Lib.hid hpl
                  replace hfull := Lib.hid hfull
                  go_wp2_with (at_builtin; refine wpList_plain rfl fun K' hK' => wp_pushP _ _ _ (by rfl) (w.heap.size + 3) _ ps _ (by rfl) hPA.choose_spec _ ⟨16 + (i : Int), rightA t m y⟩ RA rk (by rfl) hqA ((hrtA.mono (by omega)).step hbA) (by omega) (by simp; omega) ?_; intro v4 w4 hps4 hg4; refine hK' _ _ ?_; obtain ⟨PA4, pk4, rfl, _, _, _⟩ := hps4.reads; rw [hpl.out]; rw [hpl.out] at hps4; obtain ⟨g5b, f5b⟩ := (hYx.step hbA).box hg4 hlo 5; rw [((hYx.step hbA).2.2.1).cell 5] at g5b; simp only [List.getElem?_toArray, List.getElem?_cons_zero, List.getElem?_cons_succ] at g5b)
                  go_roundg (r + 1 - (j + 1))
                  case measure => have := hj.out; omega
                  case rel =>
                    have h9 := (hYx.step hbA).prods hg4 (PA2 := PA4) (pk2 := pk4) (qs := ps ++ [Pr.mk (16 + (i : Int)) (rightA t m y)]) (by rw [hpl.out]; exact hps4)
                    rw [hpl.out] at h9
                    exact ⟨j + 1, PA4, pk4, ps ++ [Pr.mk (16 + (i : Int)) (rightA t m y)], by go_num, by have := hj.out; omega, Lib.hid (by rw [List.range_succ, List.foldl_append, ← hps.out]; exact hpe.out.symm), h9⟩
            · have h7' : ¬ (ps.length : Int) < 7 := by omega
              have hrow : ps = prodsA l t m (i + 1) := by
                have e : prodsA l t m (i + 1) = rowA l t m i (prodsA l t m i) := by simp [prodsA, List.range_succ]
                rw [e, ← hps0.out]
                unfold rowA
                rw [hJ.out, hps.out]
                exact (foldA_part l t m i ps0 j (r + 1) hjr (by rw [← hps.out]; omega)).symm
              rw [hrow] at hY
              replace hrow := Lib.hid hrow
              go_wp2_with fail
              go_roundg (m - (i + 1))
              case measure => have := hi.out; omega
              case rel => exact ⟨i + 1, NA2, nk2, PA, pk, by go_num, by have := hi.out; omega, by rw [← hns.out]; exact hY⟩
          · have hjn' : ¬ (j : Int) ≤ r := by omega
            have hje : j = r + 1 := by omega
            have hrow : ps = prodsA l t m (i + 1) := by
              have e : prodsA l t m (i + 1) = rowA l t m i (prodsA l t m i) := by simp [prodsA, List.range_succ]
              rw [e, ← hps0.out]
              unfold rowA
              rw [hJ.out, hps.out, hje]
            rw [hrow] at hY
            replace hrow := Lib.hid hrow
            replace hje := Lib.hid hje
            go_wp2_with fail
            go_roundg (m - (i + 1))
            case measure => have := hi.out; omega
            case rel => exact ⟨i + 1, NA2, nk2, PA, pk, by go_num, by have := hi.out; omega, by rw [← hns.out]; exact hY⟩
    · have hie : i = m := by have := hi.out; omega
      subst hie
      obtain ⟨hrx, htx, hbx, hnx, hpx, hbb⟩ := hY
      have b0 := hbx.cell 0
      have b1 := hbx.cell 1
      have b2 := hbx.cell 2
      have b3 := hbx.cell 3
      have b4 := hbx.cell 4
      have b5 := hbx.cell 5
      have a0 := hrx.cell 0
      have a1 := hrx.cell 1
      have a2 := hrx.cell 2
      have a3 := hrx.cell 3
      have a4 := hrx.cell 4
      have a5 := hrx.cell 5
      have f0 := hrx.frozen 0
      have f1 := hrx.frozen 1
      have f2 := hrx.frozen 2
      have f3 := hrx.frozen 3
      have f4 := hrx.frozen 4
      have f5 := hrx.frozen 5
      obtain ⟨ns, hns⟩ : ∃ ns, ns = (List.range i).map nameA := ⟨_, rfl⟩
      obtain ⟨ps, hps⟩ : ∃ ps, ps = prodsA l t i i := ⟨_, rfl⟩
      rw [← hns] at hnx hbx b3
      rw [← hps] at hpx hbx b5
      rw [← hns, ← hps] at hQ
      simp only [List.getElem?_toArray, List.getElem?_cons_zero, List.getElem?_cons_succ] at b0 b1 b2 b3 b4 b5 a0 a1 a2 a3 a4 a5
      replace hns := Lib.hid hns
      replace hps := Lib.hid hps
      go_wp2_with fail
      have hput := put6 hrx (.int .i64 K) (.slice (some ⟨w.heap.size + 1, 0, none⟩) t 2) (.string { data := #[122] }) (.slice NA ns.length nk) (.int .i64 16) (.slice PA ps.length pk)
      have hb6 := bSet6 hbb (g := w.heap.size) (Nat.le_refl _) (.int .i64 K) (.slice (some ⟨w.heap.size + 1, 0, none⟩) t 2) (.string { data := #[122] }) (.slice NA ns.length nk) (.int .i64 16) (.slice PA ps.length pk)
      have hst := far6 hrx (.int .i64 K) (.slice (some ⟨w.heap.size + 1, 0, none⟩) t 2) (.string { data := #[122] }) (.slice NA ns.length nk) (.int .i64 16) (.slice PA ps.length pk)
      have hty : ∀ (e : TypeId), e ≠ 25 → ∀ (b : Nat) (cs : Array Value), some w.heap.size = some b → ¬ Blk wr b e cs := fun e he b cs e1 hq => by injection e1 with e1; subst e1; exact he (blk_type hq hrx)
      have ht2 := htx.grown hst (by simp)
      have hn2 := row_grown hnx hst (hty 9 (by decide))
      have hp2 := hpx.grown hst (hty 3 (by decide)) (hty 49 (by decide))
      generalize (((((wr.setCell ⟨w.heap.size, 0, none⟩ (.int .i64 K)).setCell ⟨w.heap.size, 1, none⟩ (.slice (some ⟨w.heap.size + 1, 0, none⟩) t 2)).setCell ⟨w.heap.size, 2, none⟩ (.string { data := #[122] })).setCell ⟨w.heap.size, 3, none⟩ (.slice NA ns.length nk)).setCell ⟨w.heap.size, 4, none⟩ (.int .i64 16)).setCell ⟨w.heap.size, 5, none⟩ (.slice PA ps.length pk) = W4 at *
      obtain ⟨_, _, en, rn, e3, e4⟩ := own_strs (show Own1 W4 (w.heap.size + 3) 9 _ (strs ns) from hn2)
      obtain ⟨_, _, ep, rp, e5, e6⟩ := hp2.reads
      cases en; cases ep
      have htl : (toksA t).length = t := toksA_len t htb.out
      have hG : GrAt W4 W4.heap.size ⟨K, toksA t, ⟨#[122]⟩, ns, 16, ps⟩ ⟨some ⟨w.heap.size + 1, 0, none⟩, 2, NA, nk, PA, pk⟩ := by
        refine ⟨?_, by show (toksA t).length ≤ 2; rw [htl]; have := htb.out; omega, by simp [maxLen], rn, e3, e4, rp, e5, e6, (show (⟨#[122]⟩ : ByteArray).size ≤ maxLen by decide), ?_, ?_⟩
        · rcases htb.out with e | e
          · rw [e]; exact ⟨rfl, .inr ⟨_, 0, rfl, ht2.lt, fun j v hj => by
              have hjl := (List.getElem?_eq_some_iff.1 hj).1
              have : j = 0 := by simp [toksA, strs] at hjl; omega
              subst this
              cases hj
              exact ht2.cell 0⟩⟩
          · rw [e]; exact ⟨rfl, .inr ⟨_, 0, rfl, ht2.lt, fun j v hj => by
              have hjl := (List.getElem?_eq_some_iff.1 hj).1
              rcases (by simp [toksA, strs] at hjl; omega : j = 0 ∨ j = 1) with rfl | rfl
              · cases hj; exact ht2.cell 0
              · cases hj; exact ht2.cell 1⟩⟩
        · rcases htb.out with e | e <;> rw [e]
          · exact (show ∀ s ∈ toksA 1, s.size ≤ maxLen by decide)
          · exact (show ∀ s ∈ toksA 2, s.size ≤ maxLen by decide)
        · intro s hs
          rw [hns.out] at hs
          obtain ⟨q, _, rfl⟩ := List.mem_map.1 hs
          show (1 : Nat) ≤ maxLen
          simp [maxLen]
      have hR : RetG w (anyG l) (.returned (.agg #[.int .i64 K, .slice (some ⟨w.heap.size + 1, 0, none⟩) t 2, .string { data := #[122] }, .slice NA ns.length nk, .int .i64 16, .slice PA ps.length pk])) W4 := by
        rw [hQ.out]
        refine ⟨⟨some ⟨w.heap.size + 1, 0, none⟩, 2, NA, nk, PA, pk⟩, ?_, hG, hb6⟩
        unfold gval gcells
        rw [htl]
      exact bodyPost_ret (results_cell_row rfl _ _ _ 25 _ (0, 0) _ rfl hput under26' rfl size26') rfl hR
end Go.Proofs.Ytlngbphchhbpbaa

/- The grammar and the look that come in as arguments: opened. -/
namespace Go.Proofs.Ytlngbphchhbpbaa
open Go.ChangeShapes Go.WideShapes Go.ChangeAt Go.RowKit
set_option linter.unusedVariables false

/-- numbers of 64 bits -/
def I64 (z : Int) : Prop := (Lit.int .i64 z).wf = true
structure GI64 (g : Gr) : Prop where
  k : I64 g.k
  start : I64 g.start
  left : ∀ p ∈ g.prods, I64 p.left
  right : ∀ p ∈ g.prods, ∀ s ∈ p.right, I64 s

theorem cell_lt {W : World} {p : Addr} {v : Value} (h : W.cell? p = some v) : p.block < W.heap.size := by
  unfold World.cell? at h
  cases hh : W.heap[p.block]? with
  | none => rw [hh] at h; simp at h
  | some o => exact (Array.getElem?_eq_some_iff.1 hh).1
theorem add_off (b o i : Nat) : (⟨b, o, none⟩ : Addr).add i = ⟨b, o + i, none⟩ := by
  unfold Addr.add; split <;> simp_all

section
variable {H : Type} {enc : TypeId × Value → H} {W : World}

theorem open_rd_strs {fuel : Nat} {cs : List Value} {x : DataW H × List MemPlace} (h : DataW.trod enc Try.prog W 0 (fun _ => true) true fuel 22 cs = some x) :
    ∃ a c l, cs = [.slice a l.length c] ∧ Rd1 W W.heap.size a l.length (strs l) ∧ l.length ≤ c ∧ c ≤ maxLen ∧ ∀ s ∈ l, s.size ≤ maxLen := by
  rcases Go.Deep.open_strs Try.underlying22 Try.underlying9 (by kernel_rfl) h with ⟨rfl, _⟩ | ⟨a, len, cap, m, Sx, rfl, _, hl, hm, hmm, _, hc⟩
  · exact ⟨none, 0, [], rfl, ⟨rfl, .inl rfl⟩, Nat.le_refl _, by decide, by simp⟩
  · simp at hmm
    subst hmm
    refine ⟨some a, m, (List.range len).map Sx, by simp, ?_, by simpa using hl, hm, ?_⟩
    · refine ⟨by simp [strs], ?_⟩
      by_cases h0 : len = 0
      · left; simpa using h0
      · right
        have h1 := (hc 0 (by omega)).1
        obtain ⟨b, o, sp⟩ := a
        have hsp : sp = none := by
          have := World.cell?_spot h1
          simpa [Addr.add] using this
        subst hsp
        refine ⟨b, o, rfl, cell_lt h1, fun i v hv => ?_⟩
        simp only [strs, List.map_map, List.getElem?_map] at hv
        by_cases hi : i < len
        · rw [List.getElem?_range hi] at hv
          simp at hv
          subst hv
          have := (hc i (by omega)).1
          rwa [add_off] at this
        · rw [List.getElem?_eq_none (by simpa using hi)] at hv
          simp at hv
    · intro s hs
      obtain ⟨i, hi, rfl⟩ := List.mem_map.1 hs
      exact (hc i (by have := List.mem_range.1 hi; omega)).2
theorem open_rd_ints {fuel : Nat} {cs : List Value} {x : DataW H × List MemPlace} (h : DataW.trod enc Try.prog W 0 (fun _ => true) true fuel 26 cs = some x) :
    ∃ a c l, cs = [.slice a l.length c] ∧ Rd1 W W.heap.size a l.length (ints l) ∧ l.length ≤ c ∧ c ≤ maxLen ∧ ∀ s ∈ l, I64 s := by
  rcases open_ints (by kernel_rfl) Try.underlying3 (by kernel_rfl) h with ⟨rfl, _⟩ | ⟨a, len, cap, zs, rfl, _, hl, hm, hz, _, hc, hw⟩
  · exact ⟨none, 0, [], rfl, ⟨rfl, .inl rfl⟩, Nat.le_refl _, by decide, by simp⟩
  · simp at hz
    subst hz
    have hlen : (zs.take len).length = len := by rw [List.length_take]; omega
    refine ⟨some a, zs.length, zs.take len, by rw [hlen], ?_, by rw [hlen]; exact hl, hm, fun s hs => hw s (List.mem_of_mem_take hs)⟩
    rw [hlen]
    refine ⟨by rw [ints, List.length_map, hlen], ?_⟩
    by_cases h0 : len = 0
    · exact .inl h0
    · right
      have h1 := hc 0 (by omega)
      obtain ⟨b, o, sp⟩ := a
      have hsp : sp = none := by
        have := World.cell?_spot h1
        simpa [Addr.add] using this
      subst hsp
      refine ⟨b, o, rfl, cell_lt h1, fun i v hv => ?_⟩
      simp only [ints, List.getElem?_map] at hv
      by_cases hi : i < len
      · rw [List.getElem?_take_of_lt hi, List.getElem?_eq_getElem (by omega)] at hv
        simp at hv
        subst hv
        have := hc i (by omega)
        rw [add_off, List.getD_eq_getElem?_getD, List.getElem?_eq_getElem (by omega)] at this
        simpa using this
      · rw [List.getElem?_eq_none (by rw [hlen]; omega)] at hv
        simp at hv
theorem fields47 : ∃ f0 f1 : Field, Try.prog.underlying 49 = some (.struct #[f0, f1]) ∧ f0.type = 3 ∧ f0.offset = 0 ∧ f1.type = 26 ∧ f1.offset = 1 := by
  have h : Try.prog.underlying 49 = some (.struct (Try.prog.fieldsOf 49)) := by kernel_rfl
  refine ⟨(Try.prog.fieldsOf 49)[0]!, (Try.prog.fieldsOf 49)[1]!, by kernel_rfl, by kernel_rfl, by kernel_rfl, by kernel_rfl, by kernel_rfl⟩
theorem open_rd_prods {fuel : Nat} {cs : List Value} {x : DataW H × List MemPlace} (h : DataW.trod enc Try.prog W 0 (fun _ => true) true fuel 23 cs = some x) :
    ∃ a c l, cs = [.slice a l.length c] ∧ RdP W W.heap.size a l.length l ∧ l.length ≤ c ∧ c ≤ maxLen ∧ ∀ p ∈ l, I64 p.left ∧ ∀ s ∈ p.right, I64 s := by
  obtain ⟨f0, f1, he, t0, o0, t1, o1⟩ := fields47
  rcases Go.Deep.open_slice_pairs Try.underlying23 he (by kernel_rfl) o0 o1 (by rw [t0]; kernel_rfl) (by rw [t1]; kernel_rfl) h with ⟨rfl, _⟩ | ⟨a, len, cap, m, n, V0, V1, D0, D1, P0, P1, rfl, _, hl, hm, hmm, _, hc⟩
  · exact ⟨none, 0, [], rfl, ⟨rfl, .inl rfl⟩, Nat.le_refl _, by decide, by simp⟩
  · simp at hmm
    subst hmm
    rw [t0, t1] at hc
    have each : ∀ i, i < m → ∃ q : Int × (Option Addr × Nat × List Int), V0 i = .int .i64 q.1 ∧ I64 q.1 ∧ V1 i = .slice q.2.1 q.2.2.2.length q.2.2.1 ∧ Rd1 W W.heap.size q.2.1 q.2.2.2.length (ints q.2.2.2) ∧ q.2.2.2.length ≤ q.2.2.1 ∧ q.2.2.1 ≤ maxLen ∧ ∀ s ∈ q.2.2.2, I64 s := by
      intro i hi
      obtain ⟨_, _, h0, h1⟩ := hc i hi
      obtain ⟨z, e1, _, e2⟩ := DataW.trod_int Try.underlying3 h0
      obtain ⟨a1, c1, l1, e3, e4, e5, e6, e7⟩ := open_rd_ints h1
      exact ⟨(z, a1, c1, l1), by simpa using e1, e2, by simpa using e3, e4, e5, e6, e7⟩
    obtain ⟨q, hq⟩ := Go.Deep.choose_lt each
    refine ⟨some a, m, (List.range len).map fun i => ⟨(q i).1, (q i).2.2.2⟩, by simp, ?_, by simpa using hl, hm, ?_⟩
    · refine ⟨by simp, ?_⟩
      by_cases h0 : len = 0
      · left; simpa using h0
      · right
        have h1 := (hc 0 (by omega)).1
        obtain ⟨b, o, sp⟩ := a
        have hsp : sp = none := by
          have := World.cell?_spot h1
          simpa [Addr.add] using this
        subst hsp
        refine ⟨b, o, rfl, cell_lt h1, fun i p hp => ?_⟩
        by_cases hi : i < len
        · rw [List.getElem?_map, List.getElem?_range hi] at hp
          simp at hp
          subst hp
          obtain ⟨g0, g1, _, _⟩ := hc i (by omega)
          obtain ⟨e1, _, e3, e4, e5, e6, _⟩ := hq i (by omega)
          rw [add_off] at g0 g1
          rw [e1] at g0; rw [e3] at g1
          exact ⟨g0, _, _, g1, e4, e5, e6⟩
        · rw [List.getElem?_eq_none (by simpa using hi)] at hp
          simp at hp
    · intro p hp
      obtain ⟨i, hi, rfl⟩ := List.mem_map.1 hp
      obtain ⟨_, e2, _, _, _, _, e7⟩ := hq i (by have := List.mem_range.1 hi; omega)
      exact ⟨e2, e7⟩

theorem six_of {α : Type} {l : List α} (h : l.length = 6) : ∃ a b c d e f, l = [a, b, c, d, e, f] := by
  match l, h with
  | [a, b, c, d, e, f], _ => exact ⟨a, b, c, d, e, f, rfl⟩
theorem fields25 : ∃ f0 f1 f2 f3 f4 f5 : Field, Try.prog.underlying 25 = some (.struct #[f0, f1, f2, f3, f4, f5]) ∧ f0.type = 3 ∧ f0.offset = 0 ∧ f1.type = 22 ∧ f1.offset = 1 ∧ f2.type = 9 ∧ f2.offset = 2 ∧ f3.type = 22 ∧ f3.offset = 3 ∧ f4.type = 3 ∧ f4.offset = 4 ∧ f5.type = 23 ∧ f5.offset = 5 :=
  ⟨(Try.prog.fieldsOf 25)[0]!, (Try.prog.fieldsOf 25)[1]!, (Try.prog.fieldsOf 25)[2]!, (Try.prog.fieldsOf 25)[3]!, (Try.prog.fieldsOf 25)[4]!, (Try.prog.fieldsOf 25)[5]!, by kernel_rfl, by kernel_rfl, by kernel_rfl, by kernel_rfl, by kernel_rfl, by kernel_rfl, by kernel_rfl, by kernel_rfl, by kernel_rfl, by kernel_rfl, by kernel_rfl, by kernel_rfl, by kernel_rfl⟩
theorem c3 : Try.prog.cellsOf 3 = 1 := by kernel_rfl
theorem c9 : Try.prog.cellsOf 9 = 1 := by kernel_rfl
theorem c22 : Try.prog.cellsOf 22 = 1 := by kernel_rfl
theorem c23 : Try.prog.cellsOf 23 = 1 := by kernel_rfl
theorem c25 : Try.prog.cellsOf 25 = 6 := by kernel_rfl
/-- a grammar that comes in -/
theorem open_gram {fuel : Nat} {cs : List Value} {x : DataW H × List MemPlace} (h : DataW.trod enc Try.prog W 0 (fun _ => true) true fuel 25 cs = some x) :
    ∃ g a, cs = (gcells g a).toList ∧ GrAt W W.heap.size g a ∧ GI64 g := by
  obtain ⟨f0, f1, f2, f3, f4, f5, he, t0, o0, t1, o1, t2, o2, t3, o3, t4, o4, t5, o5⟩ := fields25
  obtain ⟨xs, n, _, _, hlen, hxl, hf⟩ := DataW.trod_struct he h
  rw [c25] at hlen
  obtain ⟨v0, v1, v2, v3, v4, v5, rfl⟩ := six_of hlen
  have g0 := hf 0 f0 rfl
  have g1 := hf 1 f1 rfl
  have g2 := hf 2 f2 rfl
  have g3 := hf 3 f3 rfl
  have g4 := hf 4 f4 rfl
  have g5 := hf 5 f5 rfl
  simp only [t0, t1, t2, t3, t4, t5, o0, o1, o2, o3, o4, o5, c3, c9, c22, c23, List.drop_zero, List.drop_succ_cons, List.take_succ_cons, List.take_zero] at g0 g1 g2 g3 g4 g5
  have some_of : ∀ {i : Nat}, i < 6 → ∃ y, xs[i]? = some y := fun {i} hi => ⟨_, List.getElem?_eq_getElem (show i < xs.length by rw [hxl]; exact hi)⟩
  obtain ⟨y0, e0⟩ := some_of (i := 0) (by decide)
  obtain ⟨y1, e1⟩ := some_of (i := 1) (by decide)
  obtain ⟨y2, e2⟩ := some_of (i := 2) (by decide)
  obtain ⟨y3, e3⟩ := some_of (i := 3) (by decide)
  obtain ⟨y4, e4⟩ := some_of (i := 4) (by decide)
  obtain ⟨y5, e5⟩ := some_of (i := 5) (by decide)
  rw [e0] at g0; rw [e1] at g1; rw [e2] at g2; rw [e3] at g3; rw [e4] at g4; rw [e5] at g5
  obtain ⟨k, r0, _, w0⟩ := DataW.trod_int Try.underlying3 g0
  obtain ⟨ta, tc, tl, r1, p1, p2, p3, p4⟩ := open_rd_strs g1
  obtain ⟨sep, r2, _, w2⟩ := DataW.trod_string Try.underlying9 g2
  obtain ⟨na, nc, nl, r3, q1, q2, q3, q4⟩ := open_rd_strs g3
  obtain ⟨st, r4, _, w4⟩ := DataW.trod_int Try.underlying3 g4
  obtain ⟨pa, pc, pl, r5, s1, s2, s3, s4⟩ := open_rd_prods g5
  refine ⟨⟨k, tl, sep, nl, st, pl⟩, ⟨ta, tc, na, nc, pa, pc⟩, ?_, ⟨p1, p2, p3, q1, q2, q3, s1, s2, s3, w2, p4, q4⟩, ⟨w0, w4, fun p hp => (s4 p hp).1, fun p hp => (s4 p hp).2⟩⟩
  simp at r0 r1 r2 r3 r4 r5
  subst r0 r1 r2 r3 r4 r5
  rfl

theorem five_of {α : Type} {l : List α} (h : l.length = 5) : ∃ a b c d e, l = [a, b, c, d, e] := by
  match l, h with
  | [a, b, c, d, e], _ => exact ⟨a, b, c, d, e, rfl⟩
end
end Go.Proofs.Ytlngbphchhbpbaa

/- The statement DeriveSteps: the walk. -/
namespace Go.Proofs.Ytlngbphchhbpbaa
open Go.ChangeShapes Go.WideShapes Go.ChangeAt Go.RowKit
set_option linter.unusedVariables false

/-- an argument that is a list of numbers -/
def IsInts (w : World) (a : Option Addr) (len cap : Nat) (zs : List Int) : Prop :=
  (a = none ∧ len = 0 ∧ cap = 0 ∧ zs = []) ∨
  ∃ x, a = some x ∧ len ≤ cap ∧ cap ≤ maxLen ∧ zs.length = cap ∧ (∀ i, i < zs.length → w.cell? (x.add i) = some (.int .i64 (zs.getD i 0))) ∧ (∀ n ∈ zs, (Lit.int .i64 n).wf = true)
theorem ints_reads {w : World} {a : Option Addr} {len cap : Nat} {zs : List Int} (h : IsInts w a len cap zs) :
    Rd1 w w.heap.size a len (ints (zs.take len)) ∧ (∀ n ∈ zs.take len, (Lit.int .i64 n).wf = true) ∧ len ≤ maxLen := by
  rcases h with ⟨rfl, rfl, rfl, rfl⟩ | ⟨⟨b, off, spot⟩, rfl, h1, h2, h3, h4, h5⟩
  · exact ⟨Rd1.nil _ _ _, by simp, by simp [maxLen]⟩
  · refine ⟨?_, fun n hn => h5 n (List.mem_of_mem_take hn), by omega⟩
    by_cases h0 : len = 0
    · subst h0; exact Rd1.nil _ _ _
    · have hc0 := h4 0 (by omega)
      have hs : spot = none := by simpa [Addr.add] using World.cell?_spot hc0
      subst hs
      have hll : (zs.take len).length = len := by rw [List.length_take]; omega
      refine ⟨by simp [ints]; omega, .inr ⟨b, off, rfl, ?_, fun i v hv => ?_⟩⟩
      · exact block_lt_of_cell (a := ⟨b, off, none⟩) (by simpa [Addr.add] using hc0)
      · have hi : i < len := by have := (List.getElem?_eq_some_iff.1 hv).1; simp [ints] at this; omega
        have hadd : (⟨b, off, none⟩ : Addr).add i = ⟨b, off + i, none⟩ := by unfold Addr.add; split <;> simp_all
        have hc := h4 i (by omega)
        rw [hadd] at hc
        have hiz : i < zs.length := by omega
        simp [ints, hi, hiz, List.getElem?_take] at hv
        rw [hc, ← hv]
        simp [List.getD_eq_getElem?_getD, hiz]
theorem ints_cap {w : World} {a : Option Addr} {len cap : Nat} {zs : List Int} (h : IsInts w a len cap zs) : len ≤ cap ∧ cap ≤ maxLen := by
  rcases h with ⟨rfl, rfl, rfl, rfl⟩ | ⟨x, rfl, h1, h2, _⟩
  · exact ⟨Nat.le_refl _, by simp [maxLen]⟩
  · exact ⟨h1, h2⟩
/-- equal lists -/
theorem same_rdi {W : World} {v v2 : Value} {l : List Int} (h1 : RdI W v l) (h2 : RdI W v2 l) : Calls Try.prog 16 #[v, v2] W fun e w' => e = .returned (.bool true) ∧ Below W.heap.size W w' := by
  obtain ⟨A, c, rfl, a1, a2, a3⟩ := h1
  obtain ⟨A2, c2, rfl, b1, b2, b3⟩ := h2
  have := sameints_any A A2 l.length l.length c c2 l l W W.heap.size a1 b1 (by omega) (by omega)
  rwa [decide_eq_true rfl] at this

set_option maxRecDepth 100000 in
set_option maxHeartbeats 4000000 in
theorem deriveSteps_walk (g : Gr) (a : GA) (A1 : Option Addr) (k c1 : Nat) (z1 : List Int) (p : Int) (A2 : Option Addr) (n c2 : Nat) (z2 : List Int) (w : World) (hg : GrAt w w.heap.size g a) (hz1 : IsInts w A1 k c1 z1) (wp : (Lit.int .i64 p).wf = true) (hz2 : IsInts w A2 n c2 z2) :
    Calls Try.prog 3 #[gval g a, .slice A1 k c1, .int .i64 p, .slice A2 n c2] w fun e w' => e = .returned (.bool true) ∧ Below w.heap.size w w' := by
  have hAw := Lib.hid (fun (W : World) => awake_any W)
  have hLi := Lib.hid (fun (W : World) (h : GrAt W W.heap.size g a) => light_some g a W h)
  obtain ⟨hf, _, hkm⟩ := ints_reads hz1
  obtain ⟨hps, _, hnm⟩ := ints_reads hz2
  obtain ⟨hkc, hcm⟩ := ints_cap hz1
  generalize z1.take k = f at *
  generalize z2.take n = ps at *
  have hLm := Lib.hid (fun (A : Option Addr) (c : Nat) (W : World) (hs : Small g) (h : GrAt W W.heap.size g a) (h2 : Rd1 W W.heap.size A k (ints f)) => leftmost_any g a A k c f W h hs h2 hkm)
  have hRl := Lib.hid (fun (A : Option Addr) (c : Nat) (W : World) (hs : Small g) (h : GrAt W W.heap.size g a) (h2 : Rd1 W W.heap.size A k (ints f)) => rleftmost_any g a A k c f W h hs h2 hkm)
  have hSt := Lib.hid (fun (A : Option Addr) (c : Nat) (W : World) (hs : Small g) (h : GrAt W W.heap.size g a) (h2 : Rd1 W W.heap.size A k (ints f)) (h3 : k ≤ c) (h4 : c ≤ maxLen) => stp_any g a A k c f p W h hs h2 h3 h4)
  have hRs := Lib.hid (fun (A : Option Addr) (c : Nat) (W : World) (hs : Small g) (h : GrAt W W.heap.size g a) (h2 : Rd1 W W.heap.size A k (ints f)) (h3 : k ≤ c) (h4 : c ≤ maxLen) => rstp_any g a A k c f p W h hs h2 h3 h4)
  have hCh := Lib.hid (fun (A : Option Addr) (c : Nat) (W : World) (hs : Small g) (h : GrAt W W.heap.size g a) (h2 : Rd1 W W.heap.size A k (ints f)) => fcheck_any g a A k c f W h hs h2 hkm)
  have hRc := Lib.hid (fun (A : Option Addr) (c : Nat) (W : World) (hs : Small g) (h : GrAt W W.heap.size g a) (h2 : Rd1 W W.heap.size A k (ints f)) => rfcheck_any g a A k c f W h hs h2 hkm)
  have hRn := Lib.hid (fun (W : World) (hs : Small g) (h : GrAt W W.heap.size g a) (h2 : Rd1 W W.heap.size A2 n (ints ps)) => (run_any g a A2 n c2 ps W h hs h2 hnm).mono fun _ _ h => rn_all h)
  have hRr := Lib.hid (fun (W : World) (hs : Small g) (h : GrAt W W.heap.size g a) (h2 : Rd1 W W.heap.size A2 n (ints ps)) => rrun_any g a A2 n c2 ps W h hs h2 hnm)
  have hOw := Lib.hid (fun (W : World) (h2 : Rd1 W W.heap.size A1 k (ints f)) (h3 : k ≤ 1000000) => ownints_any A1 k c1 f W h2 h3)
  have hfl : f.length = k := by have := hf.1; simpa [ints] using this
  generalize lmV g f = V1 at *
  generalize lmE g f = E1 at *
  generalize stpE g f p = E2 at *
  generalize stpL g f p = L2 at *
  generalize fchk g f = E4 at *
  generalize runE g ps = E3 at *
  generalize runL g ps = L3 at *
  clear hz1 hz2 wp
  obtain ⟨ta, tc, na, nc, pa, pc⟩ := a
  have hG0 := GB.start hg
  clear hg
  replace hfl := Lib.hid hfl
  unfold gval at *
  unfold gcells at *
  dsimp only at *
  go_enter Try.func3, Try.ntmps3
  go_upto_region 1 with (fail)
  generalize w.alloc (.cells #[.int .i64 g.k, .slice ta g.toks.length tc, .string g.sep, .slice na g.names.length nc, .int .i64 g.start, .slice pa g.prods.length pc] 25) = W at *
  obtain ⟨c0, c1', c2', c3, c4, c5⟩ := hG0.cells
  dsimp only at c1' c3 c5
  go_wp2_with fail
  refine (hLi.out _ ((hG0.2.1).mono hG0.2.2.size)).mono ?_
  rintro e w1 ⟨b1, rfl, hL, hb1⟩
  have hG1 := hG0.step hb1
  clear hG0 hb1 c0 c1' c2' c3 c4 c5
  replace hL := Lib.hid hL
  cases b1 with
  | false =>
    have hbW := Lib.hid hG1.2.2
    go_wp2_with (go_at_call 8; refine (hAw.out _).mono ?_; rintro e w2 ⟨rfl, hb2⟩)
    go_ret
    exact ⟨rfl, bStep hbW.out hb2⟩
  | true =>
    have hsm := Lib.hid (hL.out rfl).small
    clear hL
    have hkk : k ≤ 203 ∨ 203 < k := by omega
    have hK : (¬ (40 : Int) < k ∧ ¬ (203 : Int) < k) ∨ ((40 : Int) < k ∧ ¬ (k : Int) < 195 ∧ ¬ (203 : Int) < k) ∨ ((40 : Int) < k ∧ (k : Int) < 195) ∨ ((40 : Int) < k ∧ ¬ (k : Int) < 195 ∧ (203 : Int) < k) := by omega
    have hN : (¬ (30 : Int) < n ∧ ¬ (1003 : Int) < n) ∨ ((30 : Int) < n ∧ ¬ (n : Int) ≤ 1000 ∧ ¬ (1003 : Int) < n) ∨ ((30 : Int) < n ∧ (n : Int) ≤ 1000) ∨ ((30 : Int) < n ∧ ¬ (n : Int) ≤ 1000 ∧ (1003 : Int) < n) := by omega
    have hbW := Lib.hid hG1.2.2
    rcases hK with ⟨k1, k2⟩ | ⟨k1, k2, k3⟩ | ⟨k1, k2⟩ | ⟨k1, k2, k3⟩
    rotate_left 2
    · go_wp2_with (go_at_call 8; refine (hAw.out _).mono ?_; rintro e w2 ⟨rfl, hb2⟩)
      go_ret
      exact ⟨rfl, bStep hbW.out hb2⟩
    · go_wp2_with (go_at_call 8; refine (hAw.out _).mono ?_; rintro e w2 ⟨rfl, hb2⟩)
      go_ret
      exact ⟨rfl, bStep hbW.out hb2⟩
    all_goals
      rcases hN with ⟨n1, n2⟩ | ⟨n1, n2, n3⟩ | ⟨n1, n2⟩ | ⟨n1, n2, n3⟩
      rotate_left 2
      · go_wp2_with (go_at_call 8; refine (hAw.out _).mono ?_; rintro e w2 ⟨rfl, hb2⟩)
        go_ret
        exact ⟨rfl, bStep hbW.out hb2⟩
      · go_wp2_with (go_at_call 8; refine (hAw.out _).mono ?_; rintro e w2 ⟨rfl, hb2⟩)
        go_ret
        exact ⟨rfl, bStep hbW.out hb2⟩
      all_goals
        have hk6 : k ≤ 1000000 := by omega
        clear hkk hbW
        go_upto_region 3 with (fail)
        go_upto_region 4 with (go_at_call 9; refine (hOw.out _ ((hf.below hG1.2.2).mono hG1.2.2.size) hk6).mono ?_; rintro e w2 ⟨vx, rfl, hox, hb2⟩)
        have hG2 := hG1.step hb2
        have hle : (ints f).length = k := by simp [ints]; exact hfl.out
        obtain ⟨Ax, cx, hvx, hrx, hxc, hxm, _⟩ := hox.reads
        rw [hle] at hvx hrx hxc
        subst hvx
        have hbx2 : Below w2.heap.size w2 w2 := Below.refl _ _
        clear hG1 hb2 hox hle
        obtain ⟨c0, c1', c2', c3, c4, c5⟩ := hG2.cells
        dsimp only at c1' c3 c5
        go_upto_region 5 with (go_at_call 10; refine (hLm.out Ax cx _ hsm.out (hG2.2.1.mono hG2.2.2.size) ((hrx.below hbx2).mono hbx2.size)).mono ?_; rintro e w3 ⟨rfl, hb3⟩)
        have hG3 := hG2.step hb3
        have hbx3 := bStep hbx2 hb3
        clear c0 c1' c2' c3 c4 c5 hG2 hbx2
        obtain ⟨c0, c1', c2', c3, c4, c5⟩ := hG3.cells
        dsimp only at c1' c3 c5
        go_upto_region 6 with (go_at_call 11; refine (hRl.out A1 c1 _ hsm.out (hG3.2.1.mono hG3.2.2.size) ((hf.below hG3.2.2).mono hG3.2.2.size)).mono ?_; rintro e w4 ⟨rfl, hb4⟩)
        have hG4 := hG3.step hb4
        have hbx4 := bStep hbx3 hb4
        clear c0 c1' c2' c3 c4 c5 hG3 hbx3
        obtain ⟨c0, c1', c2', c3, c4, c5⟩ := hG4.cells
        dsimp only at c1' c3 c5
        go_upto_region 7 with (go_at_call 12; refine (hSt.out Ax cx _ hsm.out (hG4.2.1.mono hG4.2.2.size) ((hrx.below hbx4).mono hbx4.size) hxc hxm).mono ?_; rintro e w5 ⟨va, rfl, hva, hb5⟩)
        have hG5 := hG4.step hb5
        have hbx5 := bStep hbx4 hb5
        clear c0 c1' c2' c3 c4 c5 hG4 hbx4
        obtain ⟨c0, c1', c2', c3, c4, c5⟩ := hG5.cells
        dsimp only at c1' c3 c5
        go_upto_region 8 with (go_at_call 13; refine (hRs.out A1 c1 _ hsm.out (hG5.2.1.mono hG5.2.2.size) ((hf.below hG5.2.2).mono hG5.2.2.size) hkc hcm).mono ?_; rintro e w6 ⟨vb, rfl, hvb, hb6⟩)
        have hG6 := hG5.step hb6
        have hbx6 := bStep hbx5 hb6
        clear c0 c1' c2' c3 c4 c5 hG5 hbx5
        have hva6 := hva.step hb6
        obtain ⟨c0, c1', c2', c3, c4, c5⟩ := hG6.cells
        dsimp only at c1' c3 c5
        have k10 := cell_kept c0
        have k11 := cell_kept c1'
        have k12 := cell_kept c2'
        have k13 := cell_kept c3
        have k14 := cell_kept c4
        have k15 := cell_kept c5
        have hChk := Lib.hid (fun (q : KeptBy w6) => hCh.out Ax cx q.world hsm.out ((hG6.step q.kept).2.1.mono (hG6.step q.kept).2.2.size) ((hrx.below (bStep hbx6 q.kept)).mono (bStep hbx6 q.kept).size))
        have hRck := Lib.hid (fun (q : KeptBy w6) => hRc.out A1 c1 q.world hsm.out ((hG6.step q.kept).2.1.mono (hG6.step q.kept).2.2.size) ((hf.below (hG6.step q.kept).2.2).mono (hG6.step q.kept).2.2.size))
        have hSmk := Lib.hid (fun (q : KeptBy w6) => same_rdi (hva6.step q.kept) (hvb.step q.kept))
        refine wp_region_kept (by kernel_rfl) (by kernel_rfl) ?_
        repeat (go_big_quiet_step (first | (go_at_call 14; exact Calls.kept_by (hChk.out _)) | (go_at_call 15; exact Calls.kept_by (hRck.out _)) | (go_at_call 16; exact Calls.kept_by (hSmk.out _))))
        refine wpQuiet_nil ?_
        rintro _ ⟨q, rfl⟩
        have hG7 := hG6.step q.kept
        have hbx7 := bStep hbx6 q.kept
        clear hChk hRck hSmk k10 k11 k12 k13 k14 k15 c0 c1' c2' c3 c4 c5 hG6 hbx6 hva hva6 hvb
        generalize q.world = w7 at *
        obtain ⟨c0, c1', c2', c3, c4, c5⟩ := hG7.cells
        dsimp only at c1' c3 c5
        go_upto_region 11 with (go_at_call 17; refine (hRn.out _ hsm.out (hG7.2.1.mono hG7.2.2.size) ((hps.below hG7.2.2).mono hG7.2.2.size)).mono ?_; rintro e w8 ⟨vc, rfl, hvc, hb8⟩)
        have hG8 := hG7.step hb8
        have hbx8 := bStep hbx7 hb8
        clear c0 c1' c2' c3 c4 c5 hG7 hbx7
        obtain ⟨c0, c1', c2', c3, c4, c5⟩ := hG8.cells
        dsimp only at c1' c3 c5
        go_upto_region 12 with (go_at_call 18; refine (hRr.out _ hsm.out (hG8.2.1.mono hG8.2.2.size) ((hps.below hG8.2.2).mono hG8.2.2.size)).mono ?_; rintro e w9 ⟨vd, rfl, hvd, hb9⟩)
        have hG9 := hG8.step hb9
        have hbx9 := bStep hbx8 hb9
        clear c0 c1' c2' c3 c4 c5 hG8 hbx8
        have hvc9 := Lib.hid (hvc.step hb9)
        have hvd9 := Lib.hid hvd
        have hbW9 := Lib.hid hG9.2.2
        have hfx := Lib.hid (fun (W : World) (h : Below w9.heap.size w9 W) => sameints_any Ax A1 k k cx c1 f f W W.heap.size ((hrx.below (bStep hbx9 h)).mono (bStep hbx9 h).size) ((hf.below (bStep hbW9.out h)).mono (bStep hbW9.out h).size) hkm hkm)
        simp only [decide_true] at hfx
        clear hb8 hb9 hvc hvd hG9
        go_wp2_with (first
          | (go_at_call 16; refine (same_rdi hvc9.out hvd9.out).mono ?_; clear hvc9 hvd9; rintro e w10 ⟨rfl, hb10⟩)
          | (go_at_call 16; refine (hfx.out w10 hb10).mono ?_; clear hfx; rintro e w11 ⟨rfl, hb11⟩)
          | (go_at_call 8; refine (hAw.out _).mono ?_; rintro e w12 ⟨rfl, hb12⟩))
        go_ret
        exact ⟨rfl, bStep (bStep (bStep hbW9.out hb10) hb11) hb12⟩
end Go.Proofs.Ytlngbphchhbpbaa

/- The plain laws of DeriveLists and DeriveRuns. -/
namespace Go.Proofs.Ytlngbphchhbpbaa
open Go.ChangeShapes Go.WideShapes Go.ChangeAt Go.RowKit
set_option linter.unusedVariables false

theorem small_T {t n : Nat} (ht : t ≤ 2) (hn : n ≤ 6) : ¬ Big t n := not_big t n (by
  rcases (by omega : t = 0 ∨ t = 1 ∨ t = 2) with rfl | rfl | rfl <;> rcases (by omega : n = 0 ∨ n = 1 ∨ n = 2 ∨ n = 3 ∨ n = 4 ∨ n = 5 ∨ n = 6) with rfl | rfl | rfl | rfl | rfl | rfl | rfl <;> decide +kernel)
theorem any_toks (l : List Int) : (anyG l).toks.length ≤ 2 := by
  simp only [anyG]
  unfold toksA
  rw [List.length_take]
  simp
  omega
theorem tcmp_len {a b : List Int} (h : tcmp a b = -1) : a.length ≤ b.length := by
  unfold tcmp at h
  split at h
  · omega
  · split at h
    · omega
    · omega
theorem ascT_split (n : Nat) : ∀ {l : List (List Int)}, AscT l → ∃ k, l = l.filter (fun x => decide (x.length ≤ n)) ++ k
  | [], _ => ⟨[], rfl⟩
  | a :: l, h => by
    obtain ⟨h1, h2⟩ := List.pairwise_cons.1 h
    by_cases ha : a.length ≤ n
    · obtain ⟨k, hk⟩ := ascT_split n h2
      refine ⟨k, ?_⟩
      rw [List.filter_cons_of_pos (by simpa using ha), List.cons_append, ← hk]
    · refine ⟨a :: l, ?_⟩
      have : (a :: l).filter (fun x => decide (x.length ≤ n)) = [] := by
        rw [List.filter_eq_nil_iff]
        intro x hx
        rcases List.mem_cons.1 hx with rfl | hx
        · simpa using ha
        · have := tcmp_len (h1 x hx)
          simp; omega
      rw [this]; rfl
theorem sset_prefix {g : Gr} {n m : Nat} (hnm : n ≤ m) {L L2 : List (List Int)} (h1 : SSet g n L) (h2 : SSet g m L2) : L2.take L.length = L ∧ L.length ≤ L2.length := by
  have e : L = L2.filter (fun x => decide (x.length ≤ n)) := by
    refine ascT_uniq h1.1 (h2.1.filter _) fun x => ?_
    rw [h1.2 x, List.mem_filter, h2.2 x, decide_eq_true_iff]
    constructor
    · rintro ⟨a, b⟩; exact ⟨⟨a, by omega⟩, b⟩
    · rintro ⟨⟨a, _⟩, b⟩; exact ⟨a, b⟩
  obtain ⟨k, hk⟩ := ascT_split n h2.1
  rw [← e] at hk
  rw [hk]
  exact ⟨by simp, by simp⟩
theorem sset_less {g : Gr} {n : Nat} {L : List (List Int)} (h : SSet g n L) {i : Nat} {a b : List Int} (ha : L[i]? = some a) (hb : L[i + 1]? = some b) : tcmp a b = -1 := by
  obtain ⟨h1, rfl⟩ := List.getElem?_eq_some_iff.1 ha
  obtain ⟨h2, rfl⟩ := List.getElem?_eq_some_iff.1 hb
  exact List.pairwise_iff_getElem.1 h.1 i (i + 1) h1 h2 (by omega)
theorem RdLL.take {W : World} {B : Nat} {A : Option Addr} {n : Nat} {L : List (List Int)} (h : RdLL W B A n L) (k : Nat) (hk : k ≤ n) : RdLL W B A k (L.take k) := by
  refine ⟨by rw [List.length_take, h.1]; omega, ?_⟩
  rcases h.2 with h0 | ⟨b, off, rfl, hlt, hc⟩
  · left; omega
  · refine .inr ⟨b, off, rfl, hlt, fun i l hl => ?_⟩
    have hi := (List.getElem?_eq_some_iff.1 hl).1
    rw [List.length_take] at hi
    rw [List.getElem?_take_of_lt (by omega)] at hl
    exact hc i l hl
/-- the string made of numbers -/
def textS (t : Int) (zs : List Int) : List Int := zs.map fun z => z % t
theorem textS_snoc (t : Int) {zs : List Int} {i : Nat} {z : Int} (h : zs[i]? = some z) : textS t (zs.take (i + 1)) = textS t (zs.take i) ++ [z % t] := by
  rw [take_snocG h]; simp [textS]
theorem textS_in {t : Int} (ht : 0 < t) (zs : List Int) : ∀ x ∈ textS t zs, 0 ≤ x ∧ x < t := by
  intro x hx
  obtain ⟨z, _, rfl⟩ := List.mem_map.1 hx
  exact ⟨Int.emod_nonneg _ (by omega), Int.emod_lt_of_pos _ ht⟩
theorem textS_len (t : Int) (zs : List Int) : (textS t zs).length = zs.length := by simp [textS]
end Go.Proofs.Ytlngbphchhbpbaa

/- The statement DeriveLists: the walk. -/
namespace Go.Proofs.Ytlngbphchhbpbaa
open Go.ChangeShapes Go.WideShapes Go.ChangeAt Go.RowKit
set_option linter.unusedVariables false

/-- Sentences of a grammar made of numbers -/
theorem sent_small {g : Gr} (hok : gchk g = 0) (ht : g.toks.length ≤ 2) (a : GA) (n : Nat) (ni : Int) (hni : ni = (n : Int)) (hn : n ≤ 6) (W : World) (h : GrAt W W.heap.size g a) :
    Calls Try.prog 21 #[gval g a, .int .i64 ni] W (fun e w' => ∃ v L addr, e = .returned (.tuple #[v, .int .i64 0]) ∧ SSet g n L ∧ OwnTT w' W.heap.size v L addr ∧ Below W.heap.size W w') := by
  subst hni
  exact (sentences_any g a n W h hok (by omega)).mono fun _ _ h => sn_ok (small_T ht hn) h

theorem Src1.step {W W' : World} {base : Nat} {v : Value} {l : List Int} (h : Src1 W base v l) (hb : Below W.heap.size W W') : Src1 W' base v l := by
  rcases h with ⟨A, rfl, h⟩ | h
  · exact .inl ⟨A, rfl, (h.below hb).mono hb.size⟩
  · exact .inr (h.step hb)

set_option maxRecDepth 100000 in
set_option maxHeartbeats 8000000 in
theorem deriveLists_walk (A1 : Option Addr) (len1 cap1 : Nat) (zs1 : List Int) (b : Int) (A3 : Option Addr) (len3 cap3 : Nat) (zs3 : List Int) (w : World) (wz1 : IsInts w A1 len1 cap1 zs1) (wb : (Lit.int .i64 b).wf = true) (wz3 : IsInts w A3 len3 cap3 zs3) :
    Calls Try.prog 4 #[.slice A1 len1 cap1, .int .i64 b, .slice A3 len3 cap3] w fun e w' => e = .returned (.bool true) ∧ Below w.heap.size w w' := by
  obtain ⟨hr1, hwf1, hlen1⟩ := ints_reads wz1
  obtain ⟨hr3, hwf3, hlen3⟩ := ints_reads wz3
  have hAny := Lib.hid (any_any A1 len1 cap1 (zs1.take len1) w hr1 hlen1 hwf1)
  have hok := anyG_ok (zs1.take len1)
  have ht2 := any_toks (zs1.take len1)
  generalize anyG (zs1.take len1) = g at *
  generalize zs3.take len3 = xs at *
  have hxl : xs.length = len3 := by have := hr3.1; simpa [ints] using this
  clear hr1 hwf1 hlen1 wz1 wz3
  have hk := gok_of hok
  obtain ⟨N, hN⟩ : ∃ N : Nat, b % 6 = (N : Int) := ⟨(b % 6).toNat, by omega⟩
  have hN5 : N ≤ 5 := by omega
  obtain ⟨T, hT⟩ : ∃ T : Nat, T = g.toks.length := ⟨_, rfl⟩
  have hT1 : 1 ≤ T := by rw [hT]; exact hk.tk.1
  have hT2 : T ≤ 2 := by rw [hT]; exact ht2
  have hMo := Lib.hid (fun (W : World) => mod_any b 6 W wb (by omega) (by omega))
  have hMx := Lib.hid (fun (x : Int) (hx : x ∈ xs) (W : World) => mod_any x T W (hwf3 x hx) (by omega) (by omega))
  have hSn := Lib.hid (fun (a : GA) (n : Nat) (ni : Int) (hni : ni = (n : Int)) (hn : n ≤ 6) (W : World) (h : GrAt W W.heap.size g a) => sent_small hok ht2 a n ni hni hn W h)
  have hAw := Lib.hid (fun (W : World) => awake_any W)
  have hst := hk.st
  have hDv := Lib.hid (fun (a : GA) (gs : Nat) (SA : Option Addr) (sc n : Nat) (str : List Int) (W : World) (hg : GrAt W W.heap.size g a) (hb : Blk W gs 3 #[.int .i64 g.start]) (hs : Rd1 W W.heap.size SA n (ints str)) (hn : n ≤ 12) (hss : ∀ x ∈ str, 0 ≤ x ∧ x < (T : Int)) =>
    derives_any g a (some ⟨gs, 0, none⟩) SA 1 1 n sc [g.start] str W hg hok (rd_blk hb) hs (by omega) hn (by intro s hs; have : s = g.start := by simpa using hs
                                                                                                             subst this; exact sy_start hok) (by rw [← hT]; exact hss))
  replace hT := Lib.hid hT
  replace hN := Lib.hid hN
  replace hwf3 := Lib.hid hwf3
  replace hxl := Lib.hid hxl
  replace hok := Lib.hid hok
  clear wb hk ht2
  go_enter Try.func4, Try.ntmps4
  go_upto_region 2 with (go_at_call 19; refine hAny.out.mono ?_; rintro e w1 ⟨⟨ta, tc, na, nc, pa, pc⟩, rfl, hg1, hb1⟩; simp only [gval, gcells])
  rw [← hT.out]
  have hb2 : Below w1.heap.size w1 (w1.alloc (.cells #[.int .i64 g.k, .slice ta T tc, .string g.sep, .slice na g.names.length nc, .int .i64 g.start, .slice pa g.prods.length pc] 25)) := bAlc (Below.refl _ _) _
  have q5 := Blk.new w1 25 #[.int .i64 g.k, .slice ta T tc, .string g.sep, .slice na g.names.length nc, .int .i64 g.start, .slice pa g.prods.length pc]
  have hg2 := hg1.step hb2
  have hbw := bStep hb1 hb2
  clear hg1 hb2 hb1 hAny
  generalize w1.alloc (.cells #[.int .i64 g.k, .slice ta T tc, .string g.sep, .slice na g.names.length nc, .int .i64 g.start, .slice pa g.prods.length pc] 25) = W1 at *
  generalize w1.heap.size = b5 at *
  have c0 := q5.cell 0
  have c1 := q5.cell 1
  have c2 := q5.cell 2
  have c3 := q5.cell 3
  have c4 := q5.cell 4
  have c5 := q5.cell 5
  simp only [List.getElem?_toArray, List.getElem?_cons_zero, List.getElem?_cons_succ] at c0 c1 c2 c3 c4 c5
  go_upto_region 3 with (go_at_call 20; refine (hMo.out _).mono ?_; rintro e w' ⟨rfl, rfl⟩; rw [hN.out])
  have hSn1 := Lib.hid (hSn.out ⟨ta, tc, na, nc, pa, pc⟩ N (N : Int) rfl (by omega) W1 hg2)
  simp only [gval, gcells, ← hT.out] at hSn1
  go_upto_region 4 with (go_at_call 21; refine hSn1.out.mono ?_; rintro e w3 ⟨v, L, addr, rfl, hL, ho, hb3⟩)
  obtain ⟨LA, lc, rfl, hrd, hlc1, hlc2⟩ := ho.reads
  have q5b := q5.step hb3
  have hg3 := hg2.step hb3
  have hbw3 := bStep hbw hb3
  have hr3' := (hr3.below hbw3).mono hbw3.size
  have hL' := Lib.hid hL
  obtain ⟨Ln, hLn⟩ : ∃ Ln, Ln = L.length := ⟨_, rfl⟩
  rw [← hLn] at hrd hlc1 ⊢
  replace hLn := Lib.hid hLn
  clear hL ho hg2 q5 hbw hb3 hr3 c0 c1 c2 c3 c4 c5 hSn1 hMo
  unfold maxLen at hlc2
  go_wp2_with fail
  obtain ⟨mm, hmm⟩ : ∃ mm, mm = min len3 N := ⟨_, rfl⟩
  replace hmm := Lib.hid hmm
  have hown0 : Src1 w3 w3.heap.size (.slice none 0 0) (textS T (xs.take 0)) := .inr (Own1.nil _ _ _)
  go_loopg [11, 12] mm (fun gk s11 s12 wr => ∃ i : Nat, s12 = .int .i64 i ∧ i + gk = mm ∧ Src1 wr w3.heap.size s11 (textS T (xs.take i)) ∧ Below w3.heap.size w3 wr)
  case atStart => exact ⟨0, rfl, by omega, hown0, Below.refl _ _⟩
  case round =>
    clear hown0
    obtain ⟨i, rfl, hi, hown, hbr⟩ := hrel
    replace hi := Lib.hid hi
    have q5r := q5b.step hbr
    have hg4 := hg3.step hbr
    have c1 := q5r.cell 1
    have c4 := q5r.cell 4
    simp only [List.getElem?_toArray, List.getElem?_cons_zero, List.getElem?_cons_succ] at c1 c4
    by_cases hin : i < mm
    · have hi1 : i < len3 := by have := hmm.out; omega
      have hi2 : i < N := by have := hmm.out; omega
      have hx : xs[i]? = some (xs[i]'(by have := hxl.out; omega)) := List.getElem?_eq_getElem _
      have hxm := List.mem_of_getElem? hx
      generalize (xs[i]'(by have := hxl.out; omega)) = x at *
      obtain ⟨xb, xoff, rfl, hbt, x0⟩ := (hr3'.below hbr).get (show (ints xs)[i]? = some (.int .i64 x) by rw [ints, List.getElem?_map, hx]; rfl)
      have hMx1 := hMx.out x hxm
      have hsn := textS_snoc (T : Int) hx
      have hz0 : (0 : Int) ≤ i := by omega
      have hz1 : (i : Int) < len3 := by omega
      have hz2 : (i : Int) < N := by omega
      have hl6 : (textS T (xs.take i)).length ≤ 6 := by rw [textS_len, List.length_take]; omega
      replace hl6 := Lib.hid hl6
      replace hx := Lib.hid hx
      replace hsn := Lib.hid hsn
      replace hMx1 := Lib.hid hMx1
      obtain ⟨v', W', hrun, hs', hb'⟩ := app_src (W := wr.drew.alloc (.cells #[.int .i64 (x % T)] 3)) (c := 1) (k := [x % T]) (m := 1) (B := some ⟨wr.heap.size, 0, none⟩) (hown.step (bAlc (bDrw (Below.refl _ _)) _)) (by have := hbr.size; simp; omega) (rd_blk (Blk.new wr.drew 3 _)) (by have := hl6.out; omega)
      rw [← hsn.out] at hs'
      have hx3 := (hr3'.get (show (ints xs)[i]? = some (.int .i64 x) by rw [ints, List.getElem?_map, hx.out]; rfl))
      have hb'' : Below w3.heap.size w3 W' := (bAlc (bDrw hbr) _).trans hb'
      have hAll := Lib.hid (fun (W : World) (h : Below wr.heap.size wr W) => (⟨cell_later h x0, cell_later h c1⟩ : W.cell? ⟨xb, xoff + i, none⟩ = some (.int .i64 x) ∧ W.cell? ⟨b5, 1, none⟩ = some (.slice ta T tc)))
      have hAl2 : Hid (W'.cell? ⟨xb, xoff + i, none⟩ = some (.int .i64 x) ∧ W'.cell? ⟨b5, 1, none⟩ = some (.slice ta T tc)) := Lib.hid (by
        obtain ⟨xb', xoff', e1, _, x1⟩ := hx3
        injection e1 with e1; injection e1 with e1 e2
        subst e1; subst e2
        exact ⟨cell_later hb'' x1, cell_later hb'' (by have := q5b.cell 1; simpa using this)⟩)
      replace hrun := Lib.hid hrun
      clear x0 c1 c4 hx3 hown
      go_upto_region 12 with (fail)
      go_region_held3 (fun W => W.cell? ⟨xb, xoff + i, none⟩ = some (.int .i64 x) ∧ W.cell? ⟨b5, 1, none⟩ = some (.slice ta T tc))
        ((first | exact hAl2.out | (refine hAll.out _ ?_; first | assumption | exact bDrw (Below.refl _ _) | exact bAlc (bDrw (Below.refl _ _)) _)))
        (first
          | (go_at_call 20; refine (hMx1.out _).mono ?_; rintro e w' ⟨rfl, rfl⟩)
          | (refine step_of_wp _ (by rfl) (wp_of_append _ _ _ (by rfl) _ _ (by rfl) (by rfl) _ _ hrun.out ?_)))
      go_wp2_with fail
      go_roundg (mm - (i + 1))
      case measure => have := hi.out; omega
      case rel => exact ⟨i + 1, by go_num, by have := hi.out; omega, hs', hb''⟩
    · have him : i = mm := by have := hi.out; omega
      have hc : ((i : Int) < len3 ∧ ¬ (i : Int) < N) ∨ ¬ (i : Int) < len3 := by have := hmm.out; omega
      have hil : i ≤ N := by have := hmm.out; omega
      have hsl : (textS T (xs.take i)).length = i := by rw [textS_len, List.length_take]; have := hmm.out; have := hxl.out; omega
      have hsin := Lib.hid (textS_in (t := (T : Int)) (by omega) (xs.take i))
      generalize textS T (xs.take i) = str at *
      obtain ⟨SA, sc, rfl, hrs, hsc1, hsc2⟩ := hown.reads (by omega)
      rw [hsl] at hrs hsc1 ⊢
      replace hsl := Lib.hid hsl
      replace him := Lib.hid him
      unfold maxLen at hsc2
      have hbR := bStep hbw3 hbr
      have hDv1 := Lib.hid (hDv.out ⟨ta, tc, na, nc, pa, pc⟩ wr.heap.size SA sc i str (wr.alloc (.cells #[.int .i64 g.start] 3)) (hg4.step (bAlc (Below.refl _ _) _)) (Blk.new _ _ _) ((hrs.below (bAlc (Below.refl _ _) _)).mono (by simp)) (by omega) hsin.out)
      simp only [gval, gcells, ← hT.out] at hDv1
      have c0 := q5r.cell 0
      have c2 := q5r.cell 2
      have c3 := q5r.cell 3
      have c5 := q5r.cell 5
      simp only [List.getElem?_toArray, List.getElem?_cons_zero, List.getElem?_cons_succ] at c0 c2 c3 c5
      have hrdr := (hrd.below hbr).mono hbr.size
      clear hown hrd hbr hbw3 hr3' q5b hg3
      rcases hc with ⟨z1, z2⟩ | z1
      all_goals
        go_upto_region 14 with (go_at_call 22; refine hDv1.out.mono ?_; rintro e w5 ⟨bd, rfl, hbd, hb5⟩)
        have hbA : Below wr.heap.size wr w5 := bStep (bAlc (Below.refl _ _) _) hb5
        rw [der_one hst.1] at hbd
        replace hbd := Lib.hid hbd
        have q6 := q5r.step hbA
        have hg6 := hg4.step hbA
        have hb6 := bStep hbR hbA
        have hrs6 := (hrs.below hbA).mono hbA.size
        have hrd6 := (hrdr.below hbA).mono hbA.size
        clear q5r hg4 hbR hbA hb5 hrs hrdr hDv1 c0 c1 c2 c3 c4 c5
        go_wp2_with fail
        go_loopg [14, 15] Ln (fun gk s14 s15 wr => ∃ (j : Nat) (fb : Bool), s15 = .int .i64 j ∧ s14 = .bool fb ∧ j + gk = Ln ∧ Hid (fb = true ↔ str ∈ L.take j) ∧ Below w5.heap.size w5 wr)
        case atStart => exact ⟨0, false, rfl, rfl, by omega, Lib.hid (by simp), Below.refl _ _⟩
        case round =>
          obtain ⟨j, fb, rfl, rfl, hj, hfb, hbr⟩ := hrel
          replace hj := Lib.hid hj
          by_cases hjn : j < Ln
          · have hjl : j < L.length := by have := hLn.out; omega
            have hx : L[j]? = some L[j] := List.getElem?_eq_getElem hjl
            have hrd7 := hrd6.below hbr
            have hprev : Hid (∀ (j' : Nat) (lp : List Int), j = j' + 1 → L[j']? = some lp → tcmp lp L[j] = -1) := Lib.hid (fun j' lp e h => by
              subst e; exact sset_less hL'.out h hx)
            have hlN : L[j].length ≤ N := ((hL'.out.2 _).1 (List.getElem_mem hjl)).2
            have htk : L.take (j + 1) = L.take j ++ [L[j]] := List.take_succ_eq_append_getElem hjl
            obtain ⟨lb, loff, hLA, hbt, RA, rc, x0, x1⟩ := hrd7.get hx
            subst hLA
            generalize L[j] = l at *
            have hz0 : (0 : Int) ≤ j := by omega
            have hzn : (j : Int) < Ln := by omega
            have hlN2 : ¬ (N : Int) < l.length := by omega
            have hSm := Lib.hid (sameints_any RA SA l.length i rc sc l str wr w5.heap.size x1 (hrs6.below hbr) (by unfold maxLen; omega) (by unfold maxLen; omega))
            replace hx := Lib.hid hx
            replace htk := Lib.hid htk
            have hmv : ∃ fb2 : Bool, (fb = true → fb2 = true) ∧ (fb = false → fb2 = decide (l = str)) ∧ (fb2 = true ↔ str ∈ L.take (j + 1)) := by
              cases fb with
              | true => exact ⟨true, fun _ => rfl, fun h => (by cases h), by rw [htk.out]; simp [hfb.out.1 rfl]⟩
              | false =>
                refine ⟨decide (l = str), fun h => (by cases h), fun _ => rfl, ?_⟩
                rw [htk.out, decide_eq_true_iff, List.mem_append, List.mem_singleton]
                have hno : ¬ str ∈ L.take j := fun h => by have := hfb.out.2 h; cases this
                exact ⟨fun h => .inr h.symm, fun h => h.elim (fun h => absurd h hno) (fun h => h.symm)⟩
            obtain ⟨fb2, hf1, hf2, hF2⟩ := hmv
            replace hF2 := Lib.hid hF2
            go_upto_region 18 with (fail)
            go_cut [14] (fun s14 wx => s14 = .bool fb2 ∧ Below wr.heap.size wr wx)
            case first =>
              cases fb with
              | true =>
                have hff := hf1 rfl
                subst hff
                clear hf1 hf2 hSm
                go_wp2_with fail
                go_meet
                exact ⟨rfl, Below.refl _ _⟩
              | false =>
                have hff := hf2 rfl
                replace hff := Lib.hid hff
                clear hf1 hf2
                go_wp2_with (go_at_call 16; refine hSm.out.mono ?_; rintro e w6 ⟨rfl, hb7⟩)
                go_meet
                exact ⟨by rw [hff.out], hb7⟩
            case rest =>
              obtain ⟨rfl, hbc⟩ := hcut
              have hb8 := bStep hbr hbc
              have x08 := cell_later hbc x0
              have x18 := (x1.below (hbc.mono hbr.size))
              have hrd8 := hrd7.below (hbc.mono hbr.size)
              clear hf1 hf2 hSm x0 x1 hbr hbc hrd7
              by_cases hj0 : j = 0
              · have hz1 : ¬ (0 : Int) < j := by omega
                have hd1 : decide ((0 : Int) < j) = false := decide_eq_false hz1
                have hd3 : decide (0 < j) = false := decide_eq_false (by omega)
                have hd4 : decide (N < l.length) = false := decide_eq_false (by omega)
                have hd2 : decide ((N : Int) < l.length) = false := decide_eq_false hlN2
                replace hj0 := Lib.hid hj0
                go_upto_region 19 with (fail)
                go_quiet (fail)
                have hb9 := bDrwN hb8 nq
                clear x08 x18 hrd8
                generalize wc.drewN nq = w9 at *
                go_wp2_with fail
                go_roundg (Ln - (j + 1))
                case measure => have := hj.out; omega
                case rel => exact ⟨j + 1, fb2, by go_num, rfl, by have := hj.out; omega, hF2, hb9⟩
              · obtain ⟨j', hj'⟩ : ∃ j', j = j' + 1 := ⟨j - 1, by omega⟩
                have hz1 : (0 : Int) < j := by omega
                have hjl' : j' < L.length := by have := hLn.out; omega
                have hy : L[j']? = some L[j'] := List.getElem?_eq_getElem hjl'
                have hle := hprev.out j' _ hj' hy
                have hpN : L[j'].length ≤ N := ((hL'.out.2 _).1 (List.getElem_mem hjl')).2
                obtain ⟨lb', loff', hLA, _, RB, rb, y0, y1⟩ := hrd8.get hy
                injection hLA with hLA
                injection hLA with hLA1 hLA2
                subst hLA1; subst hLA2
                generalize L[j'] = lp at *
                have hLs := Lib.hid (fun q : KeptBy wc => (less_any RB RA lp.length l.length rb rc lp l q.world w5.heap.size (y1.below (q.kept.mono hb8.size)) (x18.below (q.kept.mono hb8.size)) (by omega) (by omega)))
                rw [decide_eq_true hle] at hLs
                have hw1 : IntKind.i64.wrap ((j : Int) - 1) = (j' : Int) := by rw [IntWalk.i64_in _ (by omega)]; omega
                have hw2 : (0 : Int) ≤ j' := by omega
                have hw3 : (j' : Int) < Ln := by omega
                have hd1 : decide ((0 : Int) < j) = true := decide_eq_true hz1
                have hd3 : decide (0 < j) = true := decide_eq_true (by omega)
                have hd4 : decide (N < l.length) = false := decide_eq_false (by omega)
                have hd2 : decide ((N : Int) < l.length) = false := decide_eq_false hlN2
                replace hj' := Lib.hid hj'
                replace hy := Lib.hid hy
                replace hle := Lib.hid hle
                go_upto_region 19 with (fail)
                have k0 := cell_kept x08
                have k1 := cell_kept y0
                refine wp_region_kept (by kernel_rfl) (by kernel_rfl) ?_
                repeat (go_big_quiet_step ((go_at_call 23; exact Calls.kept_by (hLs.out _))))
                refine wpQuiet_nil ?_
                rintro _ ⟨q, rfl⟩
                have hb9 := bStep hb8 q.kept
                clear hLs k0 k1 x08 x18 y0 y1 hrd8 hw1
                generalize q.world = w9 at *
                go_wp2_with fail
                go_roundg (Ln - (j + 1))
                case measure => have := hj.out; omega
                case rel => exact ⟨j + 1, fb2, by go_num, rfl, by have := hj.out; omega, hF2, hb9⟩
          · have hjn2 : j = Ln := by have := hj.out; omega
            have hbf : bd = fb := by
              have h1 := hfb.out
              rw [List.take_of_length_le (by have := hLn.out; omega), hL'.out.2] at h1
              rw [Bool.eq_iff_iff, hbd.out, h1]
              exact ⟨fun h => ⟨h, by have := hsl.out; omega⟩, fun h => h.1⟩
            subst hbf
            replace hjn2 := Lib.hid hjn2
            have q8 := q6.step hbr
            have hg8 := hg6.step hbr
            have hb8 := bStep hb6 hbr
            have hrd8 := (hrd6.below hbr).mono hbr.size
            have c0 := q8.cell 0
            have c1 := q8.cell 1
            have c2 := q8.cell 2
            have c3 := q8.cell 3
            have c4 := q8.cell 4
            have c5 := q8.cell 5
            simp only [List.getElem?_toArray, List.getElem?_cons_zero, List.getElem?_cons_succ] at c0 c1 c2 c3 c4 c5
            have hSn2 := Lib.hid (hSn.out ⟨ta, tc, na, nc, pa, pc⟩ (N + 1) ((N : Int) + 1) (by simp) (by omega) wr hg8)
            simp only [gval, gcells, ← hT.out] at hSn2
            have hzN : (0 : Int) ≤ N := by omega
            have hzN2 : (N : Int) ≤ 5 := by omega
            clear hfb hbd hbr hj q6 hg6 hb6 hrd6
            go_upto_region 26 with (go_at_call 21; refine hSn2.out.mono ?_; rintro e w10 ⟨v2, L2, addr2, rfl, hL2, ho2, hb10⟩)
            obtain ⟨LA2, lc2, rfl, hrd2, hlc3, hlc4⟩ := ho2.reads
            obtain ⟨hpre, hlen⟩ := sset_prefix (Nat.le_succ N) hL'.out hL2
            have hrdA := (hrd8.below hb10).mono hb10.size
            have hrdB := hrd2.take L.length hlen
            rw [hpre, ← hLn.out] at hrdB
            have hb11 := bStep hb8 hb10
            have hlNN : ∀ l ∈ L, l.length ≤ maxLen := fun l hl => by have := ((hL'.out.2 l).1 hl).2; unfold maxLen; omega
            have hSL := Lib.hid (samelists_true LA2 LA Ln lc2 lc L w10 w10.heap.size hrdB hrdA (by unfold maxLen; omega) hlNN (Nat.le_refl _))
            have hL2n : (Ln : Int) ≤ L2.length := by have := hLn.out; omega
            have hL2c : Ln ≤ lc2 := by have := hLn.out; omega
            unfold maxLen at hlc4
            have hz6 : (0 : Int) ≤ Ln := by omega
            clear hrdA hrdB hrd2 hrd8 ho2 hL2 hb8 hb10 q8 hg8 c0 c1 c2 c3 c4 c5 hSn2 hpre hlNN
            go_wp2_with (first
              | (go_at_call 24; refine hSL.out.mono ?_; rintro e w11 ⟨rfl, hb12⟩)
              | (go_at_call 8; refine (hAw.out _).mono ?_; rintro e w12 ⟨rfl, hb13⟩))
            go_ret
            exact ⟨rfl, bStep (bStep hb11 hb12) hb13⟩
end Go.Proofs.Ytlngbphchhbpbaa

/- derive.joined: the walk. -/
namespace Go.Proofs.Ytlngbphchhbpbaa
open Go.ChangeShapes Go.WideShapes Go.ChangeAt Go.RowKit
set_option linter.unusedVariables false

def bools (l : List Bool) : List Value := l.map Value.bool
/-- a block of slices that read as the lists ss -/
def FS (W : World) (fb n : Nat) (ss : List (List Int)) : Prop :=
  ∃ cs : Array Value, Blk W fb 26 cs ∧ cs.size = n ∧ ss.length = n ∧ ∀ (i : Nat) (l : List Int), ss[i]? = some l → ∃ v, cs[i]? = some v ∧ RdI W v l
theorem FS.step {W W' : World} {fb n : Nat} {ss : List (List Int)} (h : FS W fb n ss) (hb : Below W.heap.size W W') : FS W' fb n ss := by
  obtain ⟨cs, h1, h2, h3, h4⟩ := h
  exact ⟨cs, h1.step hb, h2, h3, fun i l hi => by obtain ⟨v, a, b⟩ := h4 i l hi; exact ⟨v, a, b.step hb⟩⟩
theorem FS.get {W : World} {fb n : Nat} {ss : List (List Int)} (h : FS W fb n ss) {j : Nat} (hj : j < n) : ∃ A c, W.cell? ⟨fb, j, none⟩ = some (.slice A (ss.getD j []).length c) ∧ Rd1 W W.heap.size A (ss.getD j []).length (ints (ss.getD j [])) ∧ (ss.getD j []).length ≤ c ∧ c ≤ maxLen := by
  obtain ⟨cs, h1, h2, h3, h4⟩ := h
  have hs : ss[j]? = some (ss.getD j []) := by rw [List.getD_eq_getElem?_getD, List.getElem?_eq_getElem (by omega)]; rfl
  obtain ⟨v, a, A, c, rfl, b1, b2⟩ := h4 j _ hs
  exact ⟨A, c, by rw [h1.cell]; exact a, b1, b2⟩
/-- what joined hands back -/
def RetJn (o : Option (List Int)) (w : World) (e : Ending) (w' : World) : Prop :=
  Below w.heap.size w w' ∧ ((o = none ∧ e = .returned (.tuple #[.slice none 0 0, .bool false])) ∨ ∃ l v, o = some l ∧ e = .returned (.tuple #[v, .bool true]) ∧ RdI w' v l)
set_option maxRecDepth 100000 in
set_option maxHeartbeats 2000000 in
theorem joined_any (f : List Int) (RA : Option Addr) (k rc fb kb n : Nat) (ss : List (List Int)) (ks : List Bool) (w : World) (hf : Rd1 w w.heap.size RA k (ints f)) (hfs : FS w fb n ss) (hks : Blk w kb 4 (bools ks).toArray) (hkl : ks.length = n) (hsy : SyN n f) (hk : k ≤ 200) (hn : n ≤ 8) (hsl : ∀ l ∈ ss, l.length ≤ 1000) :
    Calls Try.prog 48 #[.slice RA k rc, .slice (some ⟨fb, 0, none⟩) n n, .slice (some ⟨kb, 0, none⟩) n n] w (RetJn (jnF ss ks [] f) w) := by
  have hfl : f.length = k := by have := hf.1; simpa [ints] using this
  obtain ⟨R, hR⟩ : ∃ R, R = jnF ss ks [] f := ⟨_, rfl⟩
  rw [← hR]
  have hR0 := Lib.hid (show jnF ss ks [] (f.drop 0) = R from hR.symm)
  have hN := Lib.hid (fun (w' : World) (h : R = none) (hb : Below w.heap.size w w') => (show RetJn R w (.returned (.tuple #[.slice none 0 0, .bool false])) w' from ⟨hb, .inl ⟨h, rfl⟩⟩))
  have hY := Lib.hid (fun (l : List Int) (v : Value) (w' : World) (h : R = some l) (hr : RdI w' v l) (hb : Below w.heap.size w w') => (show RetJn R w (.returned (.tuple #[v, .bool true])) w' from ⟨hb, .inr ⟨l, v, h, rfl, hr⟩⟩))
  generalize hRR : RetJn R w = RR at *
  replace hRR := Lib.hid hRR
  clear hR
  replace hfl := Lib.hid hfl
  replace hkl := Lib.hid hkl
  replace hsy := Lib.hid hsy
  replace hsl := Lib.hid hsl
  have hz0 : (0 : Int) ≤ k := by omega
  go_enter Try.func48, Try.ntmps48
  go_wp2_with fail
  have hown0 : Src1 (w.alloc (.cells #[] 3)) w.heap.size (.slice (some ⟨w.heap.size, 0, none⟩) 0 0) [] := .inr (Own1.empty w _ 3 (Nat.le_refl _))
  have hb0 : Below w.heap.size w (w.alloc (.cells #[] 3)) := bAlc (Below.refl _ _) _
  generalize w.alloc (.cells #[] 3) = w0 at *
  go_loopg [8, 14] k (fun gk s8 s14 wr => ∃ (i : Nat) (out : List Int), s14 = .int .i64 i ∧ i + gk = k ∧ Src1 wr w.heap.size s8 out ∧ out.length ≤ 200 + i ∧ Hid (jnF ss ks out (f.drop i) = R) ∧ Below w.heap.size w wr)
  case atStart => exact ⟨0, [], rfl, by omega, hown0, by simp, hR0, hb0⟩
  case round =>
    clear hown0 hb0
    obtain ⟨i, out, rfl, hi, hown, hol, hj, hb⟩ := hrel
    replace hi := Lib.hid hi
    by_cases hin : i < k
    · have hil : i < f.length := by have := hfl.out; omega
      have hx : f[i]? = some f[i] := List.getElem?_eq_getElem hil
      obtain ⟨b1, off1, rfl, hbt1, x0⟩ := (hf.below hb).get (show (ints f)[i]? = some (.int .i64 f[i]) by rw [ints, List.getElem?_map, hx]; rfl)
      have hdr := drop_consG hx
      have hsx := hsy.out _ (List.getElem_mem hil)
      generalize f[i] = s at *
      have hz1 : (i : Int) < k := by omega
      have hz2 : (0 : Int) ≤ i := by omega
      have hjj := hj.out
      rw [hdr] at hjj
      replace hx := Lib.hid hx
      replace hdr := Lib.hid hdr
      by_cases h16 : s < 16
      · have hd : decide (16 ≤ s) = false := decide_eq_false (by omega)
        rw [jnF, if_pos h16] at hjj
        obtain ⟨v', W', hrun, hs', hb'⟩ := app_src (W := wr.alloc (.cells #[.int .i64 s] 3)) (c := 1) (k := [s]) (m := 1) (B := some ⟨wr.heap.size, 0, none⟩) (hown.step (bAlc (Below.refl _ _) _)) (by have := hb.size; simp; omega) (rd_blk (Blk.new wr 3 _)) (by omega)
        have hb'' := (bAlc hb _).trans hb'
        have hol2 : (out ++ [s]).length ≤ 200 + (i + 1) := by rw [List.length_append, List.length_singleton]; omega
        replace hrun := Lib.hid hrun
        replace hjj := Lib.hid hjj
        clear h16 hsx hown hj
        go_wp2_with (first
          | (go_at_call 33; refine (isnt_any s _).mono ?_; rintro e w1 ⟨rfl, rfl⟩; rw [hd])
          | (at_builtin; refine wpList_appR _ rfl _ _ 26 rfl _ _ rfl rfl _ _ hrun.out ?_))
        go_roundg (k - (i + 1))
        case measure => have := hi.out; omega
        case rel => exact ⟨i + 1, out ++ [s], by go_num, by have := hi.out; omega, hs', hol2, hjj, hb''⟩
      · have hd : decide (16 ≤ s) = true := decide_eq_true (by omega)
        rw [jnF, if_neg h16] at hjj
        obtain ⟨j, hjv⟩ := Int.eq_ofNat_of_zero_le (show 0 ≤ s - 16 by omega)
        have hj2 : (s - 16).toNat = j := by omega
        rw [hj2] at hjj
        have hjn : j < n := by omega
        have hzj : (0 : Int) ≤ j := by omega
        have hzjn : (j : Int) < n := by omega
        have hs2 : s ≤ 1000 := by omega
        have hkr := (hks.step hb)
        have hkv : ks[j]? = some (ks.getD j false) := by rw [List.getD_eq_getElem?_getD, List.getElem?_eq_getElem (by have := hkl.out; omega)]; rfl
        have y0 : wr.cell? ⟨kb, j, none⟩ = some (.bool (ks.getD j false)) := by
          rw [hkr.cell, List.getElem?_toArray, bools, List.getElem?_map, hkv]; rfl
        replace hkv := Lib.hid hkv
        clear h16 hsx hj2
        cases hkk : ks.getD j false with
        | false =>
          rw [hkk] at hjj y0
          rw [if_pos rfl] at hjj
          have hfin := Lib.hid (hN.out wr hjj.symm hb)
          replace hjj := Lib.hid hjj
          replace hkk := Lib.hid hkk
          clear hown hj
          go_wp2_with (go_at_call 33; refine (isnt_any s _).mono ?_; rintro e w1 ⟨rfl, rfl⟩; rw [hd])
          first
            | exact hfin.out
            | (go_ret2; exact hfin.out)
        | true =>
          rw [hkk] at hjj y0
          rw [if_neg (by simp)] at hjj
          obtain ⟨SA, sc, x1, hSr, hsc1, hsc2⟩ := (hfs.step hb).get hjn
          have hssl : (ss.getD j []).length ≤ 1000 := by
            rw [List.getD_eq_getElem?_getD]
            cases hh : ss[j]? with
            | none => simp
            | some l => exact hsl.out l (List.mem_of_getElem? hh)
          generalize ss.getD j [] = sl at *
          obtain ⟨v', W', hrun, hs', hb'⟩ := app_src (c := sc) hown hb.size hSr (by omega)
          have hb'' := hb.trans hb'
          obtain ⟨A', c', rfl, hrr, hcc1, hcc2⟩ := hs'.reads (by rw [List.length_append]; omega)
          replace hrun := Lib.hid hrun
          replace hkk := Lib.hid hkk
          clear hown hj
          by_cases h200 : 200 < (out ++ sl).length
          · rw [if_pos h200] at hjj
            have hfin := Lib.hid (hN.out W' hjj.symm hb'')
            have hz4 : (200 : Int) < (out ++ sl).length := by omega
            replace hjj := Lib.hid hjj
            generalize (out ++ sl).length = ol at *
            go_wp2_with (first
              | (go_at_call 33; refine (isnt_any s _).mono ?_; rintro e w1 ⟨rfl, rfl⟩; rw [hd])
              | (at_builtin; refine wpList_appR _ rfl _ _ 26 rfl _ _ rfl rfl _ _ hrun.out ?_))
            first
              | exact hfin.out
              | (go_ret2; exact hfin.out)
          · rw [if_neg h200] at hjj
            have hz4 : ¬ (200 : Int) < (out ++ sl).length := by omega
            have hol2 : (out ++ sl).length ≤ 200 + (i + 1) := by omega
            have hs2' : Src1 W' w.heap.size (.slice A' (out ++ sl).length c') (out ++ sl) := hs'
            replace hjj := Lib.hid hjj
            obtain ⟨ol, hoe⟩ : ∃ ol, ol = (out ++ sl).length := ⟨_, rfl⟩
            rw [← hoe] at hrun hz4 hs2'
            replace hoe := Lib.hid hoe
            clear hs' hrr hcc1 h200
            go_wp2_with (first
              | (go_at_call 33; refine (isnt_any s _).mono ?_; rintro e w1 ⟨rfl, rfl⟩; rw [hd])
              | (at_builtin; refine wpList_appR _ rfl _ _ 26 rfl _ _ rfl rfl _ _ hrun.out ?_))
            go_roundg (k - (i + 1))
            case measure => have := hi.out; omega
            case rel => exact ⟨i + 1, out ++ sl, by go_num, by have := hi.out; omega, hs2', hol2, hjj, hb''⟩
    · have hjj := hj.out
      rw [List.drop_eq_nil_of_le (by have := hfl.out; omega), jnF] at hjj
      have hfin := Lib.hid (hY.out out u8 wr hjj.symm (hown.reads (by have := hi.out; omega)) hb)
      replace hjj := Lib.hid hjj
      go_wp2_with fail
      first
        | exact hfin.out
        | (go_ret2; exact hfin.out)
end Go.Proofs.Ytlngbphchhbpbaa

/- derive.Shortest: the walk. -/
namespace Go.Proofs.Ytlngbphchhbpbaa
open Go.ChangeShapes Go.WideShapes Go.ChangeAt Go.RowKit
set_option linter.unusedVariables false

theorem RdI.far {W : World} {v : Value} {l : List Int} (h : RdI W v l) {g : Nat} {t : TypeId} {cs : Array Value} (q : Blk W g t cs) (hno : ∀ (i : Nat) (x : Int), cs[i]? ≠ some (.int .i64 x)) (j : Nat) (u : Value) : RdI (W.setCell ⟨g, j, none⟩ u) v l := by
  obtain ⟨A, c, rfl, h1, h2⟩ := h
  refine ⟨A, c, rfl, ⟨h1.1, ?_⟩, h2⟩
  rcases h1.2 with h0 | ⟨b, off, rfl, hlt, hc⟩
  · exact .inl h0
  · by_cases hl : l = []
    · subst hl; exact .inl rfl
    · right
      have hpos : 0 < l.length := List.length_pos_iff.2 hl
      have hx : (ints l)[0]? = some (.int .i64 (l[0]'hpos)) := by rw [ints, List.getElem?_map, List.getElem?_eq_getElem hpos]; rfl
      have hne : b ≠ g := by
        rintro rfl
        have := hc 0 _ hx
        rw [q.cell] at this
        exact hno _ _ this
      exact ⟨b, off, rfl, by simpa using hlt, fun i w hw => (World.cell?_of_block (a := ⟨b, off + i, none⟩) (Below.heap_setCell W ⟨g, j, none⟩ u b hne)).trans (hc i w hw)⟩
theorem fs_noint {W : World} {n : Nat} {ss : List (List Int)} {cs : Array Value} (h2 : cs.size = n) (h3 : ss.length = n) (h4 : ∀ (i : Nat) (l : List Int), ss[i]? = some l → ∃ v, cs[i]? = some v ∧ RdI W v l) : ∀ (i : Nat) (x : Int), cs[i]? ≠ some (.int .i64 x) := by
  intro i x hx
  have hi := (Array.getElem?_eq_some_iff.1 hx).1
  obtain ⟨v, e, A, c, rfl, _⟩ := h4 i ss[i] (List.getElem?_eq_getElem (by omega))
  rw [hx] at e
  cases e
theorem FS.set {W : World} {fb n : Nat} {ss : List (List Int)} (h : FS W fb n ss) {j : Nat} (hj : j < n) {v : Value} {l : List Int} (hv : RdI W v l) : FS (W.setCell ⟨fb, j, none⟩ v) fb n (ss.set j l) := by
  obtain ⟨cs, h1, h2, h3, h4⟩ := h
  have hno := fs_noint h2 h3 h4
  refine ⟨cs.setIfInBounds j v, h1.put j v, by simpa using h2, by simpa using h3, fun i m hm => ?_⟩
  by_cases e : j = i
  · subst e
    rw [List.getElem?_set_self (by omega)] at hm
    injection hm with hm
    subst hm
    exact ⟨v, by rw [Array.getElem?_setIfInBounds_self, if_pos (by omega)], hv.far h1 hno j v⟩
  · rw [List.getElem?_set_ne e] at hm
    obtain ⟨u, a, b⟩ := h4 i m hm
    exact ⟨u, by rw [Array.getElem?_setIfInBounds_ne e]; exact a, b.far h1 hno j v⟩
theorem FS.far {W : World} {fb n : Nat} {ss : List (List Int)} (h : FS W fb n ss) {g : Nat} {t : TypeId} {cs : Array Value} (q : Blk W g t cs) (ht : t ≠ 26) (hno : ∀ (i : Nat) (x : Int), cs[i]? ≠ some (.int .i64 x)) (j : Nat) (u : Value) : FS (W.setCell ⟨g, j, none⟩ u) fb n ss := by
  obtain ⟨c, h1, h2, h3, h4⟩ := h
  exact ⟨c, h1.far (blk_ne h1 q (Ne.symm ht)) u, h2, h3, fun i l hl => by obtain ⟨v, a, b⟩ := h4 i l hl; exact ⟨v, a, b.far q hno j u⟩⟩
theorem FS.blk {W : World} {fb n : Nat} {ss : List (List Int)} (h : FS W fb n ss) {j : Nat} (hj : j < n) : (∃ v, W.cell? ⟨fb, j, none⟩ = some v) ∧ W.frozen? ⟨fb, j, none⟩ = false := by
  obtain ⟨cs, h1, h2, h3, h4⟩ := h
  refine ⟨⟨cs[j]'(by omega), ?_⟩, h1.frozen j⟩
  rw [h1.cell]; exact Array.getElem?_eq_getElem _
theorem bools_set (l : List Bool) (j : Nat) (v : Bool) : (bools l).toArray.setIfInBounds j (.bool v) = (bools (l.set j v)).toArray := by
  rw [List.setIfInBounds_toArray]
  simp [bools, List.map_set]
theorem bools_noint (l : List Bool) : ∀ (i : Nat) (x : Int), (bools l).toArray[i]? ≠ some (.int .i64 x) := by
  intro i x h
  rw [List.getElem?_toArray, bools, List.getElem?_map] at h
  cases hh : l[i]? with
  | none => rw [hh] at h; cases h
  | some b => rw [hh] at h; cases h
/-- the state of Shortest -/
def SH (w : World) (g : Gr) (a : GA) (lb fb kb n : Nat) (L : List Int) (ss : List (List Int)) (ks : List Bool) (W : World) : Prop :=
  GB w g a W ∧ Blk W lb 3 (ints L).toArray ∧ FS W fb n ss ∧ Blk W kb 4 (bools ks).toArray ∧ ks.length = n ∧ (w.heap.size < fb ∧ w.heap.size < kb)
section
variable {w W W' : World} {g : Gr} {a : GA} {lb fb kb n : Nat} {L : List Int} {ss : List (List Int)} {ks : List Bool}
theorem SH.step (h : SH w g a lb fb kb n L ss ks W) (hb : Below W.heap.size W W') : SH w g a lb fb kb n L ss ks W' :=
  ⟨h.1.step hb, h.2.1.step hb, h.2.2.1.step hb, h.2.2.2.1.step hb, h.2.2.2.2⟩
theorem SH.set (h : SH w g a lb fb kb n L ss ks W) {j : Nat} (hj : j < n) {v : Value} {l : List Int} (hv : RdI W v l) : SH w g a lb fb kb n L (ss.set j l) (ks.set j true) ((W.setCell ⟨fb, j, none⟩ v).setCell ⟨kb, j, none⟩ (.bool true)) := by
  obtain ⟨h1, h2, h3, h4, h5, h6, h7⟩ := h
  have h3' := h3
  obtain ⟨cs, f1, f2, f3, f4⟩ := h3'
  have e1 : fb ≠ kb := blk_ne f1 h4 (by decide)
  have e2 : lb ≠ fb := blk_ne h2 f1 (by decide)
  have e3 : lb ≠ kb := blk_ne h2 h4 (by decide)
  have g4 := h4.far (p := ⟨fb, j, none⟩) (Ne.symm e1) v
  refine ⟨(h1.far _ _ h6).far _ _ h7, (h2.far (p := ⟨fb, j, none⟩) e2 v).far (p := ⟨kb, j, none⟩) e3 _, (h3.set hj hv).far g4 (by decide) (bools_noint ks) j _, ?_, by simpa using h5, h6, h7⟩
  have := g4.put j (.bool true)
  rwa [bools_set] at this
end
/-- strings that are known: short, of terminals -/
def SmS (ss : List (List Int)) : Prop := ∀ l ∈ ss, l.length ≤ 200 ∧ Let8 l
theorem SmS.set {ss : List (List Int)} (h : SmS ss) {j : Nat} {l : List Int} (h1 : l.length ≤ 200) (h2 : Let8 l) : SmS (ss.set j l) := by
  intro x hx
  rcases List.mem_or_eq_of_mem_set hx with h' | rfl
  · exact h x h'
  · exact ⟨h1, h2⟩
theorem SmS.get {ss : List (List Int)} (h : SmS ss) (j : Nat) : (ss.getD j []).length ≤ 200 ∧ Let8 (ss.getD j []) := by
  rw [List.getD_eq_getElem?_getD]
  cases hh : ss[j]? with
  | none => exact ⟨by simp, fun c hc => by simp at hc⟩
  | some l => exact h l (List.mem_of_getElem? hh)
theorem KnS.set {ps : List Pr} {n : Nat} {L : List Int} {ss : List (List Int)} {ks : List Bool} (h : KnS ps L ss ks) (hs : ss.length = n) (hk : ks.length = n) {j : Nat} (hj : j < n) {l : List Int} (hy : Yld ps (16 + (j : Int)) l) (hl : (l.length : Int) = L.getD j 0) : KnS ps L (ss.set j l) (ks.set j true) := by
  intro a ha hka
  by_cases e : (a - 16).toNat = j
  · have ea : a = 16 + (j : Int) := by omega
    rw [e, List.getD_eq_getElem?_getD, List.getElem?_set_self (by omega)]
    subst ea
    exact ⟨hy, hl⟩
  · rw [List.getD_eq_getElem?_getD, List.getElem?_set_ne (Ne.symm e), ← List.getD_eq_getElem?_getD] at hka ⊢
    exact h a ha hka
theorem lenS_snoc (L : List Int) (s : Int) : ∀ f : List Int, lenS L (f ++ [s]) = lenS L f + (if s < 16 then 1 else L.getD (s - 16).toNat 0)
  | [] => by simp [lenS]
  | a :: f => by
    rw [List.cons_append, lenS, lenS_snoc L s f, lenS]
    omega
theorem lenS_up {L : List Int} (hb : ∀ v ∈ L, v ≤ 5764801) : ∀ f : List Int, lenS L f ≤ f.length * 5764801
  | [] => by simp [lenS]
  | s :: f => by
    have h1 := lenS_up hb f
    have h2 : L.getD (s - 16).toNat 0 ≤ 5764801 := by
      rw [List.getD_eq_getElem?_getD]
      cases hh : L[(s - 16).toNat]? with
      | none => simp
      | some v => exact hb v (List.mem_of_getElem? hh)
    unfold lenS
    rw [List.length_cons]
    split <;> omega
/-- what Shortest hands back -/
def RetSh (g : Gr) (f : List Int) (w : World) (e : Ending) (w' : World) : Prop :=
  Below w.heap.size w w' ∧ ((fchk g f ≠ 0 ∧ e = .returned (.tuple #[.slice none 0 0, .int .i64 (fchk g f)])) ∨
    (fchk g f = 0 ∧ ∃ L : List Int, LenL g.prods g.names.length L ∧ ((-1 ∈ L ∧ e = .returned (.tuple #[.slice none 0 0, .int .i64 16])) ∨
      (-1 ∉ L ∧ ((200 < lenS L f ∧ e = .returned (.tuple #[.slice none 0 0, .int .i64 4])) ∨
        (lenS L f ≤ 200 ∧ ∃ x v, e = .returned (.tuple #[v, .int .i64 0]) ∧ RdI w' v x ∧ Best g.prods L f x))))))
end Go.Proofs.Ytlngbphchhbpbaa
