/- Walks and plain laws, part 6 of 6: stenotypekit.Any: the walk; The grammar and the look that come in as arguments: opened; The statement DeriveSteps: the walk; The plain laws of DeriveLists and DeriveRuns; The statement DeriveLists: the walk; The plain law of DeriveRuns; Clone and Step: new memory; The statement DeriveRuns: the walk. Conditions: none beyond those that each theorem states. -/
import Derived.Test.YtlngbphchhbpbaaC5
import Derived.Deep.Strs
import Derived.Deep.SlicePairs
import Derived.OpenShut
import Derived.ChangeOld
import Derived.Deep.RegionHeld3
/- stenotypekit.Any: the walk. -/
namespace Go.Proofs.Ytlngbphchhbpbaa
open Go.ChangeShapes Go.WideShapes Go.ChangeAt Go.RowKit
set_option linter.unusedVariables false
set_option maxRecDepth 100000 in
set_option maxHeartbeats 8000000 in
theorem any_any (A : Option Addr) (n c : Nat) (l : List Int) (w : World) (h : Rd1 w w.heap.size A n (ints l)) (hn : n ≤ maxLen) (hwf : ∀ v ∈ l, (Lit.int .i64 v).wf = true) : Calls Try.prog 19 #[.slice A n c] w (RetG w (anyG l)) := by
  have hAt : Hid (∀ (W : World) (x : Int) (j : Nat), Below w.heap.size w W → x = (j : Int) → j ≤ 1000 → Calls Try.prog 40 #[.slice A n c, .int .i64 x] W fun e w' => e = .returned (.int .i64 (l.getD j 0)) ∧ W = w') := Lib.hid fun W x j hb hx hj => by
    subst hx
    exact at_any A n c l j w.heap.size W (h.below hb) hn (by omega)
  have hMo : Hid (∀ (W : World) (j : Nat), Calls Try.prog 20 #[.int .i64 (l.getD j 0), .int .i64 1073741824] W fun e w' => e = .returned (.int .i64 (numA l j)) ∧ W = w') := Lib.hid fun W j => by
    refine mod_any (l.getD j 0) 1073741824 W ?_ (by omega) (by omega)
    rw [List.getD_eq_getElem?_getD]
    cases hh : l[j]? with
    | none => rfl
    | some v => exact hwf v (List.mem_of_getElem? hh)
  have h' := Lib.hid h
  clear h hwf
  have hk0 := numA_bd l 0
  obtain ⟨t, ht⟩ : ∃ t, t = tA l := ⟨_, rfl⟩
  obtain ⟨m, hm⟩ : ∃ m, m = mA l := ⟨_, rfl⟩
  go_enter Try.func19, Try.ntmps19
  go_upto_region 2 with (first
    | (go_at_call 40; refine (hAt.out _ _ 0 (bAlc (Below.refl _ _) _) rfl (by omega)).mono ?_; rintro e w' ⟨rfl, rfl⟩)
    | (go_at_call 20; refine (hMo.out _ 0).mono ?_; rintro e w' ⟨rfl, rfl⟩))
  generalize hK0 : numA l 0 = k0 at *
  have ht2 : (1 + k0 / 2 % 2).toNat = t := by rw [ht]; unfold tA; rw [hK0]; omega
  have hm2 : 1 + k0 / 4 % 3 = (m : Int) := by rw [hm]; unfold mA; rw [hK0]; omega
  have htb : t = 1 ∨ t = 2 := by rw [ht]; exact tA_bd l
  have hmb : m = 1 ∨ m = 2 ∨ m = 3 := by rw [hm]; exact mA_bd l
  obtain ⟨K, hK⟩ : ∃ K, K = 1 + k0 % 2 := ⟨_, rfl⟩
  have hQ := Lib.hid (show anyG l = ⟨K, toksA t, ⟨#[122]⟩, (List.range m).map nameA, 16, prodsA l t m m⟩ by unfold anyG; rw [← ht, ← hm, hK0, hK])
  replace ht := Lib.hid ht
  replace hm := Lib.hid hm
  replace hK0 := Lib.hid hK0
  go_upto_region 3 with (fail)
  rw [← hK]
  replace hK := Lib.hid hK
  replace htb := Lib.hid htb
  replace hmb := Lib.hid hmb
  have hY0 : YI w K t none 0 none 0 [] [] (((w.alloc (.cells #[.int .i64 0, .slice none 0 0, .string ByteArray.empty, .slice none 0 0, .int .i64 0, .slice none 0 0] 25)).alloc (.cells #[.string { data := #[97] }, .string { data := #[98] }] 9)).alloc (.cells #[.int .i64 K, .slice (some ⟨w.heap.size + 1, 0, none⟩) t 2, .string { data := #[122] }, .slice none 0 0, .int .i64 16, .slice none 0 0] 25)) :=
    ⟨((Blk.new _ _ _).alloc _).alloc _, (Blk.newAt _ _ _ _ (by simp)).alloc _, Blk.newAt _ _ _ _ (by simp), Own1.nil _ _ 9, PsO.nil _ _, bAlc (bAlc (bAlc (Below.refl _ _) _) _) _⟩
  change Code.wp Try.prog _ _ _ (((w.alloc (.cells #[.int .i64 0, .slice none 0 0, .string ByteArray.empty, .slice none 0 0, .int .i64 0, .slice none 0 0] 25)).alloc (.cells #[.string { data := #[97] }, .string { data := #[98] }] 9)).alloc (.cells #[.int .i64 K, .slice (some ⟨w.heap.size + 1, 0, none⟩) t 2, .string { data := #[122] }, .slice none 0 0, .int .i64 16, .slice none 0 0] 25))
  generalize ((w.alloc (.cells #[.int .i64 0, .slice none 0 0, .string ByteArray.empty, .slice none 0 0, .int .i64 0, .slice none 0 0] 25)).alloc (.cells #[.string { data := #[97] }, .string { data := #[98] }] 9)).alloc (.cells #[.int .i64 K, .slice (some ⟨w.heap.size + 1, 0, none⟩) t 2, .string { data := #[122] }, .slice none 0 0, .int .i64 16, .slice none 0 0] 25) = W0 at *
  go_wp2_with fail
  go_loopg [6] m (fun gk s6 wr => ∃ (i : Nat) (NA : Option Addr) (nk : Nat) (PA : Option Addr) (pk : Nat), s6 = .int .i64 i ∧ i + gk = m ∧ YI w K t NA nk PA pk ((List.range i).map nameA) (prodsA l t m i) wr)
  case atStart => exact ⟨0, none, 0, none, 0, rfl, by omega, hY0⟩
  case round =>
    clear hY0
    obtain ⟨i, NA, nk, PA, pk, rfl, hi, hY⟩ := hrel
    replace hi := Lib.hid hi
    have hm3 : m ≤ 3 := by have := hmb.out; omega
    by_cases him : i < m
    · have hz1 : (0 : Int) ≤ i := by omega
      have hz2 : (i : Int) < m := by omega
      have hzi : i ≤ 2 := by omega
      have b3 := hY.2.2.1.cell 3
      simp only [List.getElem?_toArray, List.getElem?_cons_zero, List.getElem?_cons_succ] at b3
      go_upto_region 7 with (fail)
      go_cut [] (fun wx => ∃ (NA : Option Addr) (nk : Nat), YI w K t NA nk PA pk ((List.range (i + 1)).map nameA) (prodsA l t m i) wx)
      case first =>
        have hnm : (List.range (i + 1)).map nameA = (List.range i).map nameA ++ [nameA i] := by rw [List.range_succ, List.map_append]; rfl
        have hsl : strs ((List.range i).map nameA ++ [nameA i]) = strs ((List.range i).map nameA) ++ [.string (nameA i)] := by simp [strs]
        obtain ⟨ns, hns⟩ : ∃ ns, ns = (List.range i).map nameA := ⟨_, rfl⟩
        have hnl : ns.length ≤ 3 := by rw [hns]; simp; omega
        rw [← hns] at hY hsl b3 hnm
        replace hns := Lib.hid hns
        replace hnm := Lib.hid hnm
        replace hsl := Lib.hid hsl
        replace hnl := Lib.hid hnl
        rcases (by omega : i = 0 ∨ i = 1 ∨ i = 2) with rfl | rfl | rfl
        · have hcv := conv1 wr 83 83 rfl
          go_wp2_with (at_builtin; refine wpList_join1 _ rfl _ _ 22 rfl (w.heap.size + 3) 9 _ 16 under23 info9 rfl _ (strs ns) rfl ((hY.step (by repeat (first | assumption | exact Below.refl _ _ | (refine bStep ?_ (by assumption)) | (with_reducible refine bAlc ?_ _) | (with_reducible refine bDrw ?_)))).2.2.2.1) _ _ 1 1 [.string ⟨#[83]⟩] rfl (rd_blk (Blk.newAt _ _ _ _ (by simp))) (by simp [Value.oneCell']) (by simp [strs]; have := hnl.out; omega) (by omega) (by simp; have := hY.2.2.2.2.2.size; have := hY.2.2.1.lt; omega) ?_; intro v' w1 hown1 hg1 hat1 hb1; rw [show strs ns ++ [Value.string ⟨#[83]⟩] = strs (ns ++ [nameA 0]) from hsl.out.symm] at hown1; obtain ⟨NA2, nk2, rfl, _, _, _⟩ := own_strs hown1; obtain ⟨g3, f3⟩ := (hY.step (W' := (wr.alloc (.cells #[.int .u8 83] 5)).alloc (.cells #[.string ⟨#[83]⟩] 9)) (by repeat (first | assumption | exact Below.refl _ _ | (refine bStep ?_ (by assumption)) | (with_reducible refine bAlc ?_ _) | (with_reducible refine bDrw ?_)))).box hg1 (fun r e => (own_in hY.2.2.2.1 r e).1) 3; rw [((hY.step (W' := (wr.alloc (.cells #[.int .u8 83] 5)).alloc (.cells #[.string ⟨#[83]⟩] 9)) (by repeat (first | assumption | exact Below.refl _ _ | (refine bStep ?_ (by assumption)) | (with_reducible refine bAlc ?_ _) | (with_reducible refine bDrw ?_)))).2.2.1).cell 3] at g3; simp only [List.getElem?_toArray, List.getElem?_cons_zero, List.getElem?_cons_succ] at g3)
          go_meet
          refine ⟨NA2, nk2, ?_⟩
          rw [hnm.out]
          have h9 := (hY.step (by repeat (first | assumption | exact Below.refl _ _ | (refine bStep ?_ (by assumption)) | (with_reducible refine bAlc ?_ _) | (with_reducible refine bDrw ?_)))).names hg1 hown1
          rw [show (ns ++ [nameA 0]).length = ns.length + 1 by simp] at h9
          exact h9
        · have hcv := conv1 wr 84 84 rfl
          go_wp2_with (at_builtin; refine wpList_join1 _ rfl _ _ 22 rfl (w.heap.size + 3) 9 _ 16 under23 info9 rfl _ (strs ns) rfl ((hY.step (by repeat (first | assumption | exact Below.refl _ _ | (refine bStep ?_ (by assumption)) | (with_reducible refine bAlc ?_ _) | (with_reducible refine bDrw ?_)))).2.2.2.1) _ _ 1 1 [.string ⟨#[84]⟩] rfl (rd_blk (Blk.newAt _ _ _ _ (by simp))) (by simp [Value.oneCell']) (by simp [strs]; have := hnl.out; omega) (by omega) (by simp; have := hY.2.2.2.2.2.size; have := hY.2.2.1.lt; omega) ?_; intro v' w1 hown1 hg1 hat1 hb1; rw [show strs ns ++ [Value.string ⟨#[84]⟩] = strs (ns ++ [nameA 1]) from hsl.out.symm] at hown1; obtain ⟨NA2, nk2, rfl, _, _, _⟩ := own_strs hown1; obtain ⟨g3, f3⟩ := (hY.step (W' := (wr.alloc (.cells #[.int .u8 84] 5)).alloc (.cells #[.string ⟨#[84]⟩] 9)) (by repeat (first | assumption | exact Below.refl _ _ | (refine bStep ?_ (by assumption)) | (with_reducible refine bAlc ?_ _) | (with_reducible refine bDrw ?_)))).box hg1 (fun r e => (own_in hY.2.2.2.1 r e).1) 3; rw [((hY.step (W' := (wr.alloc (.cells #[.int .u8 84] 5)).alloc (.cells #[.string ⟨#[84]⟩] 9)) (by repeat (first | assumption | exact Below.refl _ _ | (refine bStep ?_ (by assumption)) | (with_reducible refine bAlc ?_ _) | (with_reducible refine bDrw ?_)))).2.2.1).cell 3] at g3; simp only [List.getElem?_toArray, List.getElem?_cons_zero, List.getElem?_cons_succ] at g3)
          go_meet
          refine ⟨NA2, nk2, ?_⟩
          rw [hnm.out]
          have h9 := (hY.step (by repeat (first | assumption | exact Below.refl _ _ | (refine bStep ?_ (by assumption)) | (with_reducible refine bAlc ?_ _) | (with_reducible refine bDrw ?_)))).names hg1 hown1
          rw [show (ns ++ [nameA 1]).length = ns.length + 1 by simp] at h9
          exact h9
        · have hcv := conv1 wr 85 85 rfl
          go_wp2_with (at_builtin; refine wpList_join1 _ rfl _ _ 22 rfl (w.heap.size + 3) 9 _ 16 under23 info9 rfl _ (strs ns) rfl ((hY.step (by repeat (first | assumption | exact Below.refl _ _ | (refine bStep ?_ (by assumption)) | (with_reducible refine bAlc ?_ _) | (with_reducible refine bDrw ?_)))).2.2.2.1) _ _ 1 1 [.string ⟨#[85]⟩] rfl (rd_blk (Blk.newAt _ _ _ _ (by simp))) (by simp [Value.oneCell']) (by simp [strs]; have := hnl.out; omega) (by omega) (by simp; have := hY.2.2.2.2.2.size; have := hY.2.2.1.lt; omega) ?_; intro v' w1 hown1 hg1 hat1 hb1; rw [show strs ns ++ [Value.string ⟨#[85]⟩] = strs (ns ++ [nameA 2]) from hsl.out.symm] at hown1; obtain ⟨NA2, nk2, rfl, _, _, _⟩ := own_strs hown1; obtain ⟨g3, f3⟩ := (hY.step (W' := (wr.alloc (.cells #[.int .u8 85] 5)).alloc (.cells #[.string ⟨#[85]⟩] 9)) (by repeat (first | assumption | exact Below.refl _ _ | (refine bStep ?_ (by assumption)) | (with_reducible refine bAlc ?_ _) | (with_reducible refine bDrw ?_)))).box hg1 (fun r e => (own_in hY.2.2.2.1 r e).1) 3; rw [((hY.step (W' := (wr.alloc (.cells #[.int .u8 85] 5)).alloc (.cells #[.string ⟨#[85]⟩] 9)) (by repeat (first | assumption | exact Below.refl _ _ | (refine bStep ?_ (by assumption)) | (with_reducible refine bAlc ?_ _) | (with_reducible refine bDrw ?_)))).2.2.1).cell 3] at g3; simp only [List.getElem?_toArray, List.getElem?_cons_zero, List.getElem?_cons_succ] at g3)
          go_meet
          refine ⟨NA2, nk2, ?_⟩
          rw [hnm.out]
          have h9 := (hY.step (by repeat (first | assumption | exact Below.refl _ _ | (refine bStep ?_ (by assumption)) | (with_reducible refine bAlc ?_ _) | (with_reducible refine bDrw ?_)))).names hg1 hown1
          rw [show (ns ++ [nameA 2]).length = ns.length + 1 by simp] at h9
          exact h9
      case rest =>
        clear hY b3
        obtain ⟨NA2, nk2, hY⟩ := hcut
        obtain ⟨ns, hns⟩ : ∃ ns, ns = (List.range (i + 1)).map nameA := ⟨_, rfl⟩
        rw [← hns] at hY
        replace hns := Lib.hid hns
        have hb0 := Lib.hid hY.2.2.2.2.2
        go_upto_region 9 with (first
          | (go_at_call 40; refine (hAt.out _ _ (1 + i) (hb0.out) (by omega) (by omega)).mono ?_; rintro e w' ⟨rfl, rfl⟩)
          | (go_at_call 20; refine (hMo.out _ (1 + i)).mono ?_; rintro e w' ⟨rfl, rfl⟩))
        obtain ⟨x, hx⟩ : ∃ x, x = numA l (1 + i) := ⟨_, rfl⟩
        have hxb := numA_bd l (1 + i)
        rw [← hx] at hxb ⊢
        obtain ⟨r, hr⟩ := Int.eq_ofNat_of_zero_le (show 0 ≤ x % 3 by omega)
        have hr3 : r ≤ 2 := by omega
        have hJ : Hid ((numA l (1 + i) % 3).toNat + 1 = r + 1) := Lib.hid (by rw [← hx, hr]; rfl)
        replace hx := Lib.hid hx
        obtain ⟨ps0, hps0⟩ : ∃ ps0, ps0 = prodsA l t m i := ⟨_, rfl⟩
        rw [← hps0] at hY
        replace hps0 := Lib.hid hps0
        go_wp2_with fail
        go_loopg [8] (r + 1) (fun gk s8 wx => ∃ (j : Nat) (PA : Option Addr) (pk : Nat) (ps : List Pr), s8 = .int .i64 j ∧ j + gk = r + 1 ∧ Hid (ps = (List.range j).foldl (addA l t m i) ps0) ∧ YI w K t NA2 nk2 PA pk ns ps wx)
        case atStart => exact ⟨0, PA, pk, ps0, rfl, by omega, Lib.hid rfl, hY⟩
        case round =>
          clear hY hb0
          obtain ⟨j, PA, pk, ps, rfl, hj, hps, hY⟩ := hrel
          replace hj := Lib.hid hj
          have b5 := hY.2.2.1.cell 5
          simp only [List.getElem?_toArray, List.getElem?_cons_zero, List.getElem?_cons_succ] at b5
          have hjr : j ≤ r + 1 := by have := hj.out; omega
          have hjz : (0 : Int) ≤ j := by omega
          by_cases hjn : j ≤ r
          · have hjn' : (j : Int) ≤ r := by omega
            by_cases h7 : ps.length < 7
            · have h7' : (ps.length : Int) < 7 := by omega
              obtain ⟨y, hy⟩ : ∃ y, y = numA l (4 + 3 * i + j) := ⟨_, rfl⟩
              have hyb := numA_bd l (4 + 3 * i + j)
              rw [← hy] at hyb
              have hMy : Hid (∀ (W : World), Calls Try.prog 20 #[.int .i64 (l.getD (4 + 3 * i + j) 0), .int .i64 1073741824] W fun e w' => e = .returned (.int .i64 y) ∧ W = w') := Lib.hid fun W => by rw [hy]; exact hMo.out W _
              obtain ⟨Y, hY4⟩ := Int.eq_ofNat_of_zero_le (show 0 ≤ y % 4 by omega)
              have hYb : Y ≤ 3 := by omega
              have hrt : (rightA t m y).length = Y := by simp only [rightA, List.length_map, List.length_range]; omega
              have hpe : addA l t m i ps j = ps ++ [⟨16 + (i : Int), rightA t m y⟩] := by unfold addA; rw [if_pos h7, hy]; rfl
              replace hy := Lib.hid hy
              replace hpe := Lib.hid hpe
              replace hrt := Lib.hid hrt
              have hb0 := Lib.hid hY.2.2.2.2.2
              have hb1 : Below wr.heap.size wr (wr.alloc (.cells #[.int .i64 (16 + (i : Int)), .slice none 0 0] 49)) := bAlc (Below.refl _ _) _
              have q9 := Blk.new wr 49 #[.int .i64 (16 + (i : Int)), .slice none 0 0]
              have hY1 := hY.step hb1
              have hlt := hY.2.2.1.lt
              go_upto_region 13 with (fail)
              clear b5
              obtain ⟨V0, hV0⟩ : ∃ V0, V0 = wr := ⟨_, rfl⟩
              rw [← hV0] at hY hb1 q9 hY1 hb0 hlt ⊢
              clear hV0
              generalize V0.alloc (.cells #[.int .i64 (16 + (i : Int)), .slice none 0 0] 49) = W1 at *
              generalize hb9 : V0.heap.size = b9 at *
              replace hb9 := Lib.hid hb9
              go_upto_region 14 with (first
                | (go_at_call 40; refine (hAt.out _ _ (4 + 3 * i + j) hY1.2.2.2.2.2 (by omega) (by omega)).mono ?_; rintro e w' ⟨rfl, rfl⟩)
                | (go_at_call 20; refine (hMy.out _).mono ?_; rintro e w' ⟨rfl, rfl⟩))
              go_wp2_with fail
              go_loopg [11] Y (fun gk s11 wx => ∃ (s : Nat) (RA : Option Addr) (rk : Nat), s11 = .int .i64 s ∧ s + gk = Y ∧ Blk wx b9 49 #[.int .i64 (16 + (i : Int)), .slice RA s rk] ∧ Own1 wx (b9 + 1) 3 (.slice RA s rk) (ints ((rightA t m y).take s)) ∧ Below b9 V0 wx)
              case atStart => exact ⟨0, none, 0, rfl, by omega, q9, Own1.nil _ _ 3, hb1⟩
              case round =>
                clear hY1 q9 hb1
                obtain ⟨s, RA, rk, rfl, hs, q9, ho, hbx⟩ := hrel
                replace hs := Lib.hid hs
                have hsz : (0 : Int) ≤ s := by omega
                have hsY0 : s ≤ Y := by have := hs.out; omega
                by_cases hsY : s < Y
                · have hsY' : (s : Int) < Y := by omega
                  go_upto_region 17 with (fail)
                  go_cut [12] (fun s12 wx => s12 = .int .i64 (digA y s) ∧ wx = wr)
                  case first =>
                    rcases (by omega : s = 0 ∨ s = 1 ∨ s = 2) with rfl | rfl | rfl
                    all_goals
                      go_wp2_with fail
                      go_meet
                      exact ⟨by simp [digA], rfl⟩
                  case rest =>
                    obtain ⟨rfl, hwc⟩ := hcut
                    subst hwc
                    have hzb : 0 ≤ digA y s ∧ digA y s < 16 := by unfold digA; omega
                    have htk := rightA_take t m y s (by omega)
                    have hsy : symA t m (digA y s) = if digA y s % 5 < 3 then digA y s % (t : Int) else 16 + digA y s % (m : Int) := rfl
                    generalize digA y s = z at *
                    have hxl : ((rightA t m y).take s).length = s := by rw [List.length_take, hrt.out]; omega
                    have ht0 : ¬ (t : Int) = 0 := by have := htb.out; omega
                    have hm0 : ¬ (m : Int) = 0 := by omega
                    have htp : (0 : Int) ≤ t := by omega
                    have hmp : (0 : Int) ≤ m := by omega
                    have hYx := hY.step (show Below V0.heap.size V0 wc from by rw [hb9.out]; exact hbx)
                    have g1 := hYx.2.2.1.cell 1
                    have c1 := q9.cell 1
                    simp only [List.getElem?_toArray, List.getElem?_cons_zero, List.getElem?_cons_succ] at g1 c1
                    have hsb := hYx.2.2.1.lt
                    have hb9l : b9 ≤ wc.heap.size := by have := q9.lt; omega
                    by_cases hz5 : z % 5 < 3
                    · rw [if_pos hz5] at hsy
                      obtain ⟨u, hu⟩ : ∃ u : Int, u = z % (t : Int) := ⟨_, rfl⟩
                      have hzm : z.tmod (t : Int) = u := by rw [hu]; exact Int.tmod_eq_emod_of_nonneg hzb.1
                      have hu1 : 0 ≤ u := by rw [hu]; exact Int.emod_nonneg _ ht0
                      have hu2 : u < 3 := by have := Int.emod_lt_of_pos z (show (0 : Int) < (t : Int) by omega); have := htb.out; omega
                      rw [← hu] at hsy
                      replace hu := Lib.hid hu
                      have hd0 : ¬ t = 0 := by omega
                      obtain ⟨RA2, rk2, W2, hrun, ho2, hg2⟩ := run_push1 ((wc.alloc (.cells #[.int .i64 (u)] 3)).drew) (b9 + 1) RA rk ((rightA t m y).take s) (by rw [hxl]; exact (ho.alloc _).step (Below.refl _ _).drew) (u) wc.heap.size (Blk.new _ _ _).drew (by omega) (by simp; omega)
                      rw [hxl] at hrun ho2 hg2
                      have hlo : ∀ r, (Value.slice RA s rk).ownBlock = some r → b9 + 1 ≤ r := fun r e => (own_in ho r e).1
                      have q9b : Blk W2 b9 49 #[.int .i64 (16 + (i : Int)), .slice RA s rk] := ((q9.alloc _).drew).grown hg2 (fun e => by have := hlo _ e.symm; omega)
                      have c1b := q9b.cell 1
                      have f1b := q9b.frozen 1
                      simp only [List.getElem?_toArray, List.getElem?_cons_zero, List.getElem?_cons_succ] at c1b
                      have hb2 : Below b9 V0 W2 := hbx.trans (((((Below.refl b9 wc).alloc hb9l _).drew).trans ⟨hg2.os, hg2.tape, hg2.output, hg2.size, fun k hk => hg2.block k (by simp; omega) (fun e => by have := hlo _ e.symm; omega)⟩))
                      have ho3 : Own1 (W2.setCell ⟨b9, 1, none⟩ (.slice RA2 (s + 1) rk2)) (b9 + 1) 3 (.slice RA2 (s + 1) rk2) (ints ((rightA t m y).take (s + 1))) := by
                        rw [htk, hsy]
                        exact row_grown ho2 (grownBy_setC' W2 b9 1 _) (fun b cs e hq => by injection e with e; subst e; cases blk_type q9b hq)
                      replace htk := Lib.hid htk
                      replace hsy := Lib.hid hsy
                      replace hxl := Lib.hid hxl
                      have c1c : ((wc.alloc (.cells #[.int .i64 (u)] 3)).drew).cell? ⟨b9, 1, none⟩ = some (.slice RA s rk) := ((q9.alloc _).drew).cell 1
                      go_upto_region 19 with (fail)
                      have g1d : wc.drew.cell? ⟨w.heap.size + 1 + 1, 1, none⟩ = some (.slice (some ⟨w.heap.size + 1, 0, none⟩) t 2) := g1
                      have g1a : ((wc.alloc (.cells #[.int .i64 u] 3)).drew).cell? ⟨w.heap.size + 1 + 1, 1, none⟩ = some (.slice (some ⟨w.heap.size + 1, 0, none⟩) t 2) := ((hYx.2.2.1.alloc _).drew).cell 1
                      have hbx2 : Blk W2 (w.heap.size + 1 + 1) 25 _ := ((hYx.2.2.1.alloc _).drew).grown hg2 (fun e => by have := hlo _ e.symm; omega)
                      have g1b : W2.cell? ⟨w.heap.size + 1 + 1, 1, none⟩ = some (.slice (some ⟨w.heap.size + 1, 0, none⟩) t 2) := hbx2.cell 1
                      have g1c : (W2.setCell ⟨b9, 1, none⟩ (.slice RA2 (s + 1) rk2)).cell? ⟨w.heap.size + 1 + 1, 1, none⟩ = some (.slice (some ⟨w.heap.size + 1, 0, none⟩) t 2) := (hbx2.far (p := ⟨b9, 1, none⟩) (by simp; omega) _).cell 1
                      refine wp_region_held_drew (S := (fun w' => w'.cell? ⟨w.heap.size + 1 + 1, 1, none⟩ = some (.slice (some ⟨w.heap.size + 1, 0, none⟩) t 2))) (by kernel_rfl) g1d (fun hHeld => ?_)
                      refine wpAnyH_take (i := 0) (oi := ⟨some 89, _, _, _, _, _⟩) (v := ?vp1) rfl (by kernel_rfl) (by kernel_rfl) (by kernel_rfl) (fun _ _ _ h => h) (Or.inl ⟨by rfl, ?hyp1⟩) (by assumption) ?restp1
                      case hyp1 => (intro w hSw; (try dsimp only at hSw); go_simp <;> with_reducible rfl)
                      try simp only [Act.put, List.setIfInBounds_toArray, List.set_cons_zero, List.set_cons_succ]
                      refine wpAnyH_take (i := 2) (oi := ⟨some 91, _, _, _, _, _⟩) (v := ?vp2) rfl (by kernel_rfl) (by kernel_rfl) (by kernel_rfl) (fun _ _ _ h => h) (Or.inl ⟨by rfl, ?hyp2⟩) (by assumption) ?restp2
                      case hyp2 => (intro w hSw; (try dsimp only at hSw); go_simp <;> with_reducible rfl)
                      try simp only [Act.put, List.setIfInBounds_toArray, List.set_cons_zero, List.set_cons_succ]
                      refine wpAnyH_take (i := 3) (oi := ⟨some 92, _, _, _, _, _⟩) (v := ?vp3) rfl (by kernel_rfl) (by kernel_rfl) (by kernel_rfl) (fun _ _ _ h => h) (Or.inl ⟨by rfl, ?hyp3⟩) (by assumption) ?restp3
                      case hyp3 => (intro w hSw; (try dsimp only at hSw); go_simp <;> with_reducible rfl)
                      try simp only [Act.put, List.setIfInBounds_toArray, List.set_cons_zero, List.set_cons_succ]
                      refine wpAnyH_take (i := 4) (oi := ⟨some 93, _, _, _, _, _⟩) (v := ?vp4) rfl (by kernel_rfl) (by kernel_rfl) (by kernel_rfl) (fun _ _ _ h => h) (Or.inl ⟨by rfl, ?hyp4⟩) (by assumption) ?restp4
                      case hyp4 => (intro w hSw; (try dsimp only at hSw); go_simp <;> with_reducible rfl)
                      try simp only [Act.put, List.setIfInBounds_toArray, List.set_cons_zero, List.set_cons_succ]
                      refine wpAnyH_take (i := 5) (oi := ⟨some 94, _, _, _, _, _⟩) (v := ?vp5) rfl (by kernel_rfl) (by kernel_rfl) (by kernel_rfl) (fun _ _ _ h => h) (Or.inl ⟨by rfl, ?hyp5⟩) (by assumption) ?restp5
                      case hyp5 => (intro w hSw; (try dsimp only at hSw); go_simp <;> with_reducible rfl)
                      try simp only [Act.put, List.setIfInBounds_toArray, List.set_cons_zero, List.set_cons_succ]
                      refine wpAnyH_take (i := 6) (oi := ⟨some 95, _, _, _, _, _⟩) (v := ?vp6) rfl (by kernel_rfl) (by kernel_rfl) (by kernel_rfl) (fun _ _ _ h => h) (Or.inl ⟨by rfl, ?hyp6⟩) (by assumption) ?restp6
                      case hyp6 => (intro w hSw; (try dsimp only at hSw); go_simp <;> with_reducible rfl)
                      try simp only [Act.put, List.setIfInBounds_toArray, List.set_cons_zero, List.set_cons_succ]
                      refine wpAnyH_ready (rs := [1, 7]) (by kernel_rfl) (by simp) ?_
                      refine AllReadyH.cons (o := ⟨some 90, _, _, _, _, _⟩) rfl (fun K hK => ?_) ?_
                      · go_simp
                        refine hK.out _ _ ?_ (fun hHeld => ?_)
                        · first | exact g1d | exact g1a | exact g1b | exact g1c
                        clear hK K
                        try simp only [Act.put, List.setIfInBounds_toArray, List.set_cons_zero, List.set_cons_succ]
                        refine wpAnyH_ready (rs := [7]) (by kernel_rfl) (by simp) ?_
                        refine AllReadyH.cons (o := ⟨some 96, _, _, _, _, _⟩) rfl (fun K hK => ?_) ?_
                        · go_simp
                          refine hK.out _ _ ?_ (fun hHeld => ?_)
                          · first | exact g1d | exact g1a | exact g1b | exact g1c
                          clear hK K
                          try simp only [Act.put, List.setIfInBounds_toArray, List.set_cons_zero, List.set_cons_succ]
                          refine wpAnyH_ready (rs := [8]) (by kernel_rfl) (by simp) ?_
                          refine AllReadyH.cons (o := ⟨some 97, _, _, _, _, _⟩) rfl (fun K hK => ?_) ?_
                          · skip
                            refine step_of_wp _ (by rfl) ?_
                            refine wp_of_append _ _ _ (by rfl) _ _ (by rfl) (by rfl) _ _ hrun ?_
                            refine hK.out _ _ ?_ (fun hHeld => ?_)
                            · first | exact g1d | exact g1a | exact g1b | exact g1c
                            clear hK K
                            try simp only [Act.put, List.setIfInBounds_toArray, List.set_cons_zero, List.set_cons_succ]
                            refine wpAnyH_take (i := 9) (oi := ⟨some 98, _, _, _, _, _⟩) (v := ?vp7) rfl (by kernel_rfl) (by kernel_rfl) (by kernel_rfl) (fun _ _ _ h => h) (Or.inl ⟨by rfl, ?hyp7⟩) (by assumption) ?restp7
                            case hyp7 => (intro w hSw; (try dsimp only at hSw); go_simp <;> with_reducible rfl)
                            try simp only [Act.put, List.setIfInBounds_toArray, List.set_cons_zero, List.set_cons_succ]
                            refine wpAnyH_ready (rs := [10]) (by kernel_rfl) (by simp) ?_
                            refine AllReadyH.cons (o := ⟨none, _, _, _, _, _⟩) rfl (fun K hK => ?_) ?_
                            · go_simp
                              refine hK.out _ _ ?_ (fun hHeld => ?_)
                              · first | exact g1d | exact g1a | exact g1b | exact g1c
                              clear hK K
                              try simp only [Act.put, List.setIfInBounds_toArray, List.set_cons_zero, List.set_cons_succ]
                              refine wpAnyH_done (by kernel_rfl) ?_ _
                              go_wp2_with fail
                              go_roundg (Y - (s + 1))
                              case measure => have := hs.out; omega
                              case rel => exact ⟨s + 1, RA2, rk2, by go_num, by have := hs.out; omega, q9b.put 1 _, ho3, hb2.setCell (Nat.le_refl _) _⟩
                            exact AllReadyH.nil
                          exact AllReadyH.nil
                        exact AllReadyH.nil
                      refine AllReadyH.cons (o := ⟨some 96, _, _, _, _, _⟩) rfl (fun K hK => ?_) ?_
                      · go_simp
                        refine hK.out _ _ ?_ (fun hHeld => ?_)
                        · first | exact g1d | exact g1a | exact g1b | exact g1c
                        clear hK K
                        try simp only [Act.put, List.setIfInBounds_toArray, List.set_cons_zero, List.set_cons_succ]
                        refine wpAnyH_ready (rs := [1]) (by kernel_rfl) (by simp) ?_
                        refine AllReadyH.cons (o := ⟨some 90, _, _, _, _, _⟩) rfl (fun K hK => ?_) ?_
                        · go_simp
                          refine hK.out _ _ ?_ (fun hHeld => ?_)
                          · first | exact g1d | exact g1a | exact g1b | exact g1c
                          clear hK K
                          try simp only [Act.put, List.setIfInBounds_toArray, List.set_cons_zero, List.set_cons_succ]
                          refine wpAnyH_ready (rs := [8]) (by kernel_rfl) (by simp) ?_
                          refine AllReadyH.cons (o := ⟨some 97, _, _, _, _, _⟩) rfl (fun K hK => ?_) ?_
                          · skip
                            refine step_of_wp _ (by rfl) ?_
                            refine wp_of_append _ _ _ (by rfl) _ _ (by rfl) (by rfl) _ _ hrun ?_
                            refine hK.out _ _ ?_ (fun hHeld => ?_)
                            · first | exact g1d | exact g1a | exact g1b | exact g1c
                            clear hK K
                            try simp only [Act.put, List.setIfInBounds_toArray, List.set_cons_zero, List.set_cons_succ]
                            refine wpAnyH_take (i := 9) (oi := ⟨some 98, _, _, _, _, _⟩) (v := ?vp8) rfl (by kernel_rfl) (by kernel_rfl) (by kernel_rfl) (fun _ _ _ h => h) (Or.inl ⟨by rfl, ?hyp8⟩) (by assumption) ?restp8
                            case hyp8 => (intro w hSw; (try dsimp only at hSw); go_simp <;> with_reducible rfl)
                            try simp only [Act.put, List.setIfInBounds_toArray, List.set_cons_zero, List.set_cons_succ]
                            refine wpAnyH_ready (rs := [10]) (by kernel_rfl) (by simp) ?_
                            refine AllReadyH.cons (o := ⟨none, _, _, _, _, _⟩) rfl (fun K hK => ?_) ?_
                            · go_simp
                              refine hK.out _ _ ?_ (fun hHeld => ?_)
                              · first | exact g1d | exact g1a | exact g1b | exact g1c
                              clear hK K
                              try simp only [Act.put, List.setIfInBounds_toArray, List.set_cons_zero, List.set_cons_succ]
                              refine wpAnyH_done (by kernel_rfl) ?_ _
                              go_wp2_with fail
                              go_roundg (Y - (s + 1))
                              case measure => have := hs.out; omega
                              case rel => exact ⟨s + 1, RA2, rk2, by go_num, by have := hs.out; omega, q9b.put 1 _, ho3, hb2.setCell (Nat.le_refl _) _⟩
                            exact AllReadyH.nil
                          exact AllReadyH.nil
                        exact AllReadyH.nil
                      exact AllReadyH.nil
                    · rw [if_neg hz5] at hsy
                      obtain ⟨u, hu⟩ : ∃ u : Int, u = z % (m : Int) := ⟨_, rfl⟩
                      have hzm : z.tmod (m : Int) = u := by rw [hu]; exact Int.tmod_eq_emod_of_nonneg hzb.1
                      have hu1 : 0 ≤ u := by rw [hu]; exact Int.emod_nonneg _ hm0
                      have hu2 : u < 3 := by have := Int.emod_lt_of_pos z (show (0 : Int) < (m : Int) by omega); have := htb.out; omega
                      rw [← hu] at hsy
                      replace hu := Lib.hid hu
                      have hd0 : ¬ m = 0 := by omega
                      have zwu : IntKind.i64.wrap (16 + u) = 16 + u := IntWalk.i64_in _ (by omega)
                      obtain ⟨RA2, rk2, W2, hrun, ho2, hg2⟩ := run_push1 ((wc.alloc (.cells #[.int .i64 (16 + u)] 3)).drew) (b9 + 1) RA rk ((rightA t m y).take s) (by rw [hxl]; exact (ho.alloc _).step (Below.refl _ _).drew) (16 + u) wc.heap.size (Blk.new _ _ _).drew (by omega) (by simp; omega)
                      rw [hxl] at hrun ho2 hg2
                      have hlo : ∀ r, (Value.slice RA s rk).ownBlock = some r → b9 + 1 ≤ r := fun r e => (own_in ho r e).1
                      have q9b : Blk W2 b9 49 #[.int .i64 (16 + (i : Int)), .slice RA s rk] := ((q9.alloc _).drew).grown hg2 (fun e => by have := hlo _ e.symm; omega)
                      have c1b := q9b.cell 1
                      have f1b := q9b.frozen 1
                      simp only [List.getElem?_toArray, List.getElem?_cons_zero, List.getElem?_cons_succ] at c1b
                      have hb2 : Below b9 V0 W2 := hbx.trans (((((Below.refl b9 wc).alloc hb9l _).drew).trans ⟨hg2.os, hg2.tape, hg2.output, hg2.size, fun k hk => hg2.block k (by simp; omega) (fun e => by have := hlo _ e.symm; omega)⟩))
                      have ho3 : Own1 (W2.setCell ⟨b9, 1, none⟩ (.slice RA2 (s + 1) rk2)) (b9 + 1) 3 (.slice RA2 (s + 1) rk2) (ints ((rightA t m y).take (s + 1))) := by
                        rw [htk, hsy]
                        exact row_grown ho2 (grownBy_setC' W2 b9 1 _) (fun b cs e hq => by injection e with e; subst e; cases blk_type q9b hq)
                      replace htk := Lib.hid htk
                      replace hsy := Lib.hid hsy
                      replace hxl := Lib.hid hxl
                      have c1c : ((wc.alloc (.cells #[.int .i64 (16 + u)] 3)).drew).cell? ⟨b9, 1, none⟩ = some (.slice RA s rk) := ((q9.alloc _).drew).cell 1
                      go_upto_region 20 with (fail)
                      refine wp_region_held_drew (S := (fun _ => True)) (by kernel_rfl) trivial (fun hHeld => ?_)
                      refine wpAnyH_take (i := 0) (oi := ⟨some 99, _, _, _, _, _⟩) (v := ?vq1) rfl (by kernel_rfl) (by kernel_rfl) (by kernel_rfl) (fun _ _ _ h => h) (Or.inl ⟨by rfl, ?hyq1⟩) (by assumption) ?restq1
                      case hyq1 => (intro w hSw; (try dsimp only at hSw); go_simp <;> with_reducible rfl)
                      try simp only [Act.put, List.setIfInBounds_toArray, List.set_cons_zero, List.set_cons_succ]
                      refine wpAnyH_take (i := 2) (oi := ⟨some 101, _, _, _, _, _⟩) (v := ?vq2) rfl (by kernel_rfl) (by kernel_rfl) (by kernel_rfl) (fun _ _ _ h => h) (Or.inl ⟨by rfl, ?hyq2⟩) (by assumption) ?restq2
                      case hyq2 => (intro w hSw; (try dsimp only at hSw); go_simp <;> with_reducible rfl)
                      try simp only [Act.put, List.setIfInBounds_toArray, List.set_cons_zero, List.set_cons_succ]
                      refine wpAnyH_take (i := 3) (oi := ⟨some 102, _, _, _, _, _⟩) (v := ?vq3) rfl (by kernel_rfl) (by kernel_rfl) (by kernel_rfl) (fun _ _ _ h => h) (Or.inl ⟨by rfl, ?hyq3⟩) (by assumption) ?restq3
                      case hyq3 => (intro w hSw; (try dsimp only at hSw); go_simp <;> with_reducible rfl)
                      try simp only [Act.put, List.setIfInBounds_toArray, List.set_cons_zero, List.set_cons_succ]
                      refine wpAnyH_take (i := 4) (oi := ⟨some 103, _, _, _, _, _⟩) (v := ?vq4) rfl (by kernel_rfl) (by kernel_rfl) (by kernel_rfl) (fun _ _ _ h => h) (Or.inl ⟨by rfl, ?hyq4⟩) (by assumption) ?restq4
                      case hyq4 => (intro w hSw; (try dsimp only at hSw); go_simp <;> with_reducible rfl)
                      try simp only [Act.put, List.setIfInBounds_toArray, List.set_cons_zero, List.set_cons_succ]
                      refine wpAnyH_take (i := 5) (oi := ⟨some 104, _, _, _, _, _⟩) (v := ?vq5) rfl (by kernel_rfl) (by kernel_rfl) (by kernel_rfl) (fun _ _ _ h => h) (Or.inl ⟨by rfl, ?hyq5⟩) (by assumption) ?restq5
                      case hyq5 => (intro w hSw; (try dsimp only at hSw); go_simp <;> with_reducible rfl)
                      try simp only [Act.put, List.setIfInBounds_toArray, List.set_cons_zero, List.set_cons_succ]
                      refine wpAnyH_ready (rs := [1, 6]) (by kernel_rfl) (by simp) ?_
                      refine AllReadyH.cons (o := ⟨some 100, _, _, _, _, _⟩) rfl (fun K hK => ?_) ?_
                      · go_simp
                        refine hK.out _ _ ?_ (fun hHeld => ?_)
                        · trivial
                        clear hK K
                        try simp only [Act.put, List.setIfInBounds_toArray, List.set_cons_zero, List.set_cons_succ]
                        refine wpAnyH_ready (rs := [6]) (by kernel_rfl) (by simp) ?_
                        refine AllReadyH.cons (o := ⟨some 105, _, _, _, _, _⟩) rfl (fun K hK => ?_) ?_
                        · go_simp
                          refine hK.out _ _ ?_ (fun hHeld => ?_)
                          · trivial
                          clear hK K
                          try simp only [Act.put, List.setIfInBounds_toArray, List.set_cons_zero, List.set_cons_succ]
                          refine wpAnyH_ready (rs := [7]) (by kernel_rfl) (by simp) ?_
                          refine AllReadyH.cons (o := ⟨some 106, _, _, _, _, _⟩) rfl (fun K hK => ?_) ?_
                          · skip
                            refine step_of_wp _ (by rfl) ?_
                            refine wp_of_append _ _ _ (by rfl) _ _ (by rfl) (by rfl) _ _ hrun ?_
                            refine hK.out _ _ ?_ (fun hHeld => ?_)
                            · trivial
                            clear hK K
                            try simp only [Act.put, List.setIfInBounds_toArray, List.set_cons_zero, List.set_cons_succ]
                            refine wpAnyH_take (i := 8) (oi := ⟨some 107, _, _, _, _, _⟩) (v := ?vq6) rfl (by kernel_rfl) (by kernel_rfl) (by kernel_rfl) (fun _ _ _ h => h) (Or.inl ⟨by rfl, ?hyq6⟩) (by assumption) ?restq6
                            case hyq6 => (intro w hSw; (try dsimp only at hSw); go_simp <;> with_reducible rfl)
                            try simp only [Act.put, List.setIfInBounds_toArray, List.set_cons_zero, List.set_cons_succ]
                            refine wpAnyH_ready (rs := [9]) (by kernel_rfl) (by simp) ?_
                            refine AllReadyH.cons (o := ⟨none, _, _, _, _, _⟩) rfl (fun K hK => ?_) ?_
                            · go_simp
                              refine hK.out _ _ ?_ (fun hHeld => ?_)
                              · trivial
                              clear hK K
                              try simp only [Act.put, List.setIfInBounds_toArray, List.set_cons_zero, List.set_cons_succ]
                              refine wpAnyH_done (by kernel_rfl) ?_ _
                              go_wp2_with fail
                              go_roundg (Y - (s + 1))
                              case measure => have := hs.out; omega
                              case rel => exact ⟨s + 1, RA2, rk2, by go_num, by have := hs.out; omega, q9b.put 1 _, ho3, hb2.setCell (Nat.le_refl _) _⟩
                            exact AllReadyH.nil
                          exact AllReadyH.nil
                        exact AllReadyH.nil
                      refine AllReadyH.cons (o := ⟨some 105, _, _, _, _, _⟩) rfl (fun K hK => ?_) ?_
                      · go_simp
                        refine hK.out _ _ ?_ (fun hHeld => ?_)
                        · trivial
                        clear hK K
                        try simp only [Act.put, List.setIfInBounds_toArray, List.set_cons_zero, List.set_cons_succ]
                        refine wpAnyH_ready (rs := [1]) (by kernel_rfl) (by simp) ?_
                        refine AllReadyH.cons (o := ⟨some 100, _, _, _, _, _⟩) rfl (fun K hK => ?_) ?_
                        · go_simp
                          refine hK.out _ _ ?_ (fun hHeld => ?_)
                          · trivial
                          clear hK K
                          try simp only [Act.put, List.setIfInBounds_toArray, List.set_cons_zero, List.set_cons_succ]
                          refine wpAnyH_ready (rs := [7]) (by kernel_rfl) (by simp) ?_
                          refine AllReadyH.cons (o := ⟨some 106, _, _, _, _, _⟩) rfl (fun K hK => ?_) ?_
                          · skip
                            refine step_of_wp _ (by rfl) ?_
                            refine wp_of_append _ _ _ (by rfl) _ _ (by rfl) (by rfl) _ _ hrun ?_
                            refine hK.out _ _ ?_ (fun hHeld => ?_)
                            · trivial
                            clear hK K
                            try simp only [Act.put, List.setIfInBounds_toArray, List.set_cons_zero, List.set_cons_succ]
                            refine wpAnyH_take (i := 8) (oi := ⟨some 107, _, _, _, _, _⟩) (v := ?vq7) rfl (by kernel_rfl) (by kernel_rfl) (by kernel_rfl) (fun _ _ _ h => h) (Or.inl ⟨by rfl, ?hyq7⟩) (by assumption) ?restq7
                            case hyq7 => (intro w hSw; (try dsimp only at hSw); go_simp <;> with_reducible rfl)
                            try simp only [Act.put, List.setIfInBounds_toArray, List.set_cons_zero, List.set_cons_succ]
                            refine wpAnyH_ready (rs := [9]) (by kernel_rfl) (by simp) ?_
                            refine AllReadyH.cons (o := ⟨none, _, _, _, _, _⟩) rfl (fun K hK => ?_) ?_
                            · go_simp
                              refine hK.out _ _ ?_ (fun hHeld => ?_)
                              · trivial
                              clear hK K
                              try simp only [Act.put, List.setIfInBounds_toArray, List.set_cons_zero, List.set_cons_succ]
                              refine wpAnyH_done (by kernel_rfl) ?_ _
                              go_wp2_with fail
                              go_roundg (Y - (s + 1))
                              case measure => have := hs.out; omega
                              case rel => exact ⟨s + 1, RA2, rk2, by go_num, by have := hs.out; omega, q9b.put 1 _, ho3, hb2.setCell (Nat.le_refl _) _⟩
                            exact AllReadyH.nil
                          exact AllReadyH.nil
                        exact AllReadyH.nil
                      exact AllReadyH.nil
                · have hse : s = Y := by omega
                  subst hse
                  have hfull : (rightA t m y).take s = rightA t m y := List.take_of_length_le (by rw [hrt.out]; exact Nat.le_refl _)
                  rw [hfull] at ho
                  obtain ⟨RA', rk', e1, hrtA⟩ := RtAt.of ho
                  rw [hrt.out] at e1
                  cases e1
                  have hYx := hY.step (show Below V0.heap.size V0 wr from by rw [hb9.out]; exact hbx)
                  have g5 := hYx.2.2.1.cell 5
                  have c0 := q9.cell 0
                  have c1 := q9.cell 1
                  simp only [List.getElem?_toArray, List.getElem?_cons_zero, List.getElem?_cons_succ] at g5 c0 c1
                  have hb9l : w.heap.size + 3 ≤ b9 := by have := hb9.out; have := hY.2.2.1.lt; omega
                  have hq9l := q9.lt
                  have hbA : Below wr.heap.size wr (wr.alloc (.cells #[.int .i64 (16 + (i : Int)), .slice RA s rk] 49)) := bAlc (Below.refl _ _) _
                  have hqA : Blk (wr.alloc (.cells #[.int .i64 (16 + (i : Int)), .slice RA s rk] 49)) wr.heap.size 49 #[.int .i64 (Pr.mk (16 + (i : Int)) (rightA t m y)).left, .slice RA (Pr.mk (16 + (i : Int)) (rightA t m y)).right.length rk] := by
                    show Blk _ _ 49 #[.int .i64 (16 + (i : Int)), .slice RA (rightA t m y).length rk]
                    rw [hrt.out]; exact Blk.new _ _ _
                  have hPA := (hYx.step hbA).2.2.2.2.1
                  have hlo : ∀ rr, (Value.slice PA ps.length pk).ownBlock = some rr → w.heap.size + 3 ≤ rr := fun rr e => by obtain ⟨rs, hpr⟩ := hPA; exact (own_in hpr.2.1 rr e).1
                  have hpl : (ps ++ [Pr.mk (16 + (i : Int)) (rightA t m y)]).length = ps.length + 1 := by simp
                  replace hpl := Lib.hid hpl
                  replace hfull := Lib.hid hfull
                  go_wp2_with (at_builtin; refine wpList_plain rfl fun K' hK' => wp_pushP _ _ _ (by rfl) (w.heap.size + 3) _ ps _ (by rfl) hPA.choose_spec _ ⟨16 + (i : Int), rightA t m y⟩ RA rk (by rfl) hqA ((hrtA.mono (by omega)).step hbA) (by omega) (by simp; omega) ?_; intro v4 w4 hps4 hg4; refine hK' _ _ ?_; obtain ⟨PA4, pk4, rfl, _, _, _⟩ := hps4.reads; rw [hpl.out]; rw [hpl.out] at hps4; obtain ⟨g5b, f5b⟩ := (hYx.step hbA).box hg4 hlo 5; rw [((hYx.step hbA).2.2.1).cell 5] at g5b; simp only [List.getElem?_toArray, List.getElem?_cons_zero, List.getElem?_cons_succ] at g5b)
                  go_roundg (r + 1 - (j + 1))
                  case measure => have := hj.out; omega
                  case rel =>
                    have h9 := (hYx.step hbA).prods hg4 (PA2 := PA4) (pk2 := pk4) (qs := ps ++ [Pr.mk (16 + (i : Int)) (rightA t m y)]) (by rw [hpl.out]; exact hps4)
                    rw [hpl.out] at h9
                    exact ⟨j + 1, PA4, pk4, ps ++ [Pr.mk (16 + (i : Int)) (rightA t m y)], by go_num, by have := hj.out; omega, Lib.hid (by rw [List.range_succ, List.foldl_append, ← hps.out]; exact hpe.out.symm), h9⟩
            · have h7' : ¬ (ps.length : Int) < 7 := by omega
              have hrow : ps = prodsA l t m (i + 1) := by
                have e : prodsA l t m (i + 1) = rowA l t m i (prodsA l t m i) := by simp [prodsA, List.range_succ]
                rw [e, ← hps0.out]
                unfold rowA
                rw [hJ.out, hps.out]
                exact (foldA_part l t m i ps0 j (r + 1) hjr (by rw [← hps.out]; omega)).symm
              rw [hrow] at hY
              replace hrow := Lib.hid hrow
              go_wp2_with fail
              go_roundg (m - (i + 1))
              case measure => have := hi.out; omega
              case rel => exact ⟨i + 1, NA2, nk2, PA, pk, by go_num, by have := hi.out; omega, by rw [← hns.out]; exact hY⟩
          · have hjn' : ¬ (j : Int) ≤ r := by omega
            have hje : j = r + 1 := by omega
            have hrow : ps = prodsA l t m (i + 1) := by
              have e : prodsA l t m (i + 1) = rowA l t m i (prodsA l t m i) := by simp [prodsA, List.range_succ]
              rw [e, ← hps0.out]
              unfold rowA
              rw [hJ.out, hps.out, hje]
            rw [hrow] at hY
            replace hrow := Lib.hid hrow
            replace hje := Lib.hid hje
            go_wp2_with fail
            go_roundg (m - (i + 1))
            case measure => have := hi.out; omega
            case rel => exact ⟨i + 1, NA2, nk2, PA, pk, by go_num, by have := hi.out; omega, by rw [← hns.out]; exact hY⟩
    · have hie : i = m := by have := hi.out; omega
      subst hie
      obtain ⟨hrx, htx, hbx, hnx, hpx, hbb⟩ := hY
      have b0 := hbx.cell 0
      have b1 := hbx.cell 1
      have b2 := hbx.cell 2
      have b3 := hbx.cell 3
      have b4 := hbx.cell 4
      have b5 := hbx.cell 5
      have a0 := hrx.cell 0
      have a1 := hrx.cell 1
      have a2 := hrx.cell 2
      have a3 := hrx.cell 3
      have a4 := hrx.cell 4
      have a5 := hrx.cell 5
      have f0 := hrx.frozen 0
      have f1 := hrx.frozen 1
      have f2 := hrx.frozen 2
      have f3 := hrx.frozen 3
      have f4 := hrx.frozen 4
      have f5 := hrx.frozen 5
      obtain ⟨ns, hns⟩ : ∃ ns, ns = (List.range i).map nameA := ⟨_, rfl⟩
      obtain ⟨ps, hps⟩ : ∃ ps, ps = prodsA l t i i := ⟨_, rfl⟩
      rw [← hns] at hnx hbx b3
      rw [← hps] at hpx hbx b5
      rw [← hns, ← hps] at hQ
      simp only [List.getElem?_toArray, List.getElem?_cons_zero, List.getElem?_cons_succ] at b0 b1 b2 b3 b4 b5 a0 a1 a2 a3 a4 a5
      replace hns := Lib.hid hns
      replace hps := Lib.hid hps
      go_wp2_with fail
      have hput := put6 hrx (.int .i64 K) (.slice (some ⟨w.heap.size + 1, 0, none⟩) t 2) (.string { data := #[122] }) (.slice NA ns.length nk) (.int .i64 16) (.slice PA ps.length pk)
      have hb6 := bSet6 hbb (g := w.heap.size) (Nat.le_refl _) (.int .i64 K) (.slice (some ⟨w.heap.size + 1, 0, none⟩) t 2) (.string { data := #[122] }) (.slice NA ns.length nk) (.int .i64 16) (.slice PA ps.length pk)
      have hst := far6 hrx (.int .i64 K) (.slice (some ⟨w.heap.size + 1, 0, none⟩) t 2) (.string { data := #[122] }) (.slice NA ns.length nk) (.int .i64 16) (.slice PA ps.length pk)
      have hty : ∀ (e : TypeId), e ≠ 25 → ∀ (b : Nat) (cs : Array Value), some w.heap.size = some b → ¬ Blk wr b e cs := fun e he b cs e1 hq => by injection e1 with e1; subst e1; exact he (blk_type hq hrx)
      have ht2 := htx.grown hst (by simp)
      have hn2 := row_grown hnx hst (hty 9 (by decide))
      have hp2 := hpx.grown hst (hty 3 (by decide)) (hty 49 (by decide))
      generalize (((((wr.setCell ⟨w.heap.size, 0, none⟩ (.int .i64 K)).setCell ⟨w.heap.size, 1, none⟩ (.slice (some ⟨w.heap.size + 1, 0, none⟩) t 2)).setCell ⟨w.heap.size, 2, none⟩ (.string { data := #[122] })).setCell ⟨w.heap.size, 3, none⟩ (.slice NA ns.length nk)).setCell ⟨w.heap.size, 4, none⟩ (.int .i64 16)).setCell ⟨w.heap.size, 5, none⟩ (.slice PA ps.length pk) = W4 at *
      obtain ⟨_, _, en, rn, e3, e4⟩ := own_strs (show Own1 W4 (w.heap.size + 3) 9 _ (strs ns) from hn2)
      obtain ⟨_, _, ep, rp, e5, e6⟩ := hp2.reads
      cases en; cases ep
      have htl : (toksA t).length = t := toksA_len t htb.out
      have hG : GrAt W4 W4.heap.size ⟨K, toksA t, ⟨#[122]⟩, ns, 16, ps⟩ ⟨some ⟨w.heap.size + 1, 0, none⟩, 2, NA, nk, PA, pk⟩ := by
        refine ⟨?_, by show (toksA t).length ≤ 2; rw [htl]; have := htb.out; omega, by simp [maxLen], rn, e3, e4, rp, e5, e6, (show (⟨#[122]⟩ : ByteArray).size ≤ maxLen by decide), ?_, ?_⟩
        · rcases htb.out with e | e
          · rw [e]; exact ⟨rfl, .inr ⟨_, 0, rfl, ht2.lt, fun j v hj => by
              have hjl := (List.getElem?_eq_some_iff.1 hj).1
              have : j = 0 := by simp [toksA, strs] at hjl; omega
              subst this
              cases hj
              exact ht2.cell 0⟩⟩
          · rw [e]; exact ⟨rfl, .inr ⟨_, 0, rfl, ht2.lt, fun j v hj => by
              have hjl := (List.getElem?_eq_some_iff.1 hj).1
              rcases (by simp [toksA, strs] at hjl; omega : j = 0 ∨ j = 1) with rfl | rfl
              · cases hj; exact ht2.cell 0
              · cases hj; exact ht2.cell 1⟩⟩
        · rcases htb.out with e | e <;> rw [e]
          · exact (show ∀ s ∈ toksA 1, s.size ≤ maxLen by decide)
          · exact (show ∀ s ∈ toksA 2, s.size ≤ maxLen by decide)
        · intro s hs
          rw [hns.out] at hs
          obtain ⟨q, _, rfl⟩ := List.mem_map.1 hs
          show (1 : Nat) ≤ maxLen
          simp [maxLen]
      have hR : RetG w (anyG l) (.returned (.agg #[.int .i64 K, .slice (some ⟨w.heap.size + 1, 0, none⟩) t 2, .string { data := #[122] }, .slice NA ns.length nk, .int .i64 16, .slice PA ps.length pk])) W4 := by
        rw [hQ.out]
        refine ⟨⟨some ⟨w.heap.size + 1, 0, none⟩, 2, NA, nk, PA, pk⟩, ?_, hG, hb6⟩
        unfold gval gcells
        rw [htl]
      exact bodyPost_ret (results_cell_row rfl _ _ _ 25 _ (0, 0) _ rfl hput under26' rfl size26') rfl hR
end Go.Proofs.Ytlngbphchhbpbaa

/- The grammar and the look that come in as arguments: opened. -/
namespace Go.Proofs.Ytlngbphchhbpbaa
open Go.ChangeShapes Go.WideShapes Go.ChangeAt Go.RowKit
set_option linter.unusedVariables false

/-- numbers of 64 bits -/
def I64 (z : Int) : Prop := (Lit.int .i64 z).wf = true
structure GI64 (g : Gr) : Prop where
  k : I64 g.k
  start : I64 g.start
  left : ∀ p ∈ g.prods, I64 p.left
  right : ∀ p ∈ g.prods, ∀ s ∈ p.right, I64 s

theorem cell_lt {W : World} {p : Addr} {v : Value} (h : W.cell? p = some v) : p.block < W.heap.size := by
  unfold World.cell? at h
  cases hh : W.heap[p.block]? with
  | none => rw [hh] at h; simp at h
  | some o => exact (Array.getElem?_eq_some_iff.1 hh).1
theorem add_off (b o i : Nat) : (⟨b, o, none⟩ : Addr).add i = ⟨b, o + i, none⟩ := by
  unfold Addr.add; split <;> simp_all

section
variable {H : Type} {enc : TypeId × Value → H} {W : World}

theorem open_rd_strs {fuel : Nat} {cs : List Value} {x : DataW H × List MemPlace} (h : DataW.trod enc Try.prog W 0 (fun _ => true) true fuel 22 cs = some x) :
    ∃ a c l, cs = [.slice a l.length c] ∧ Rd1 W W.heap.size a l.length (strs l) ∧ l.length ≤ c ∧ c ≤ maxLen ∧ ∀ s ∈ l, s.size ≤ maxLen := by
  rcases Go.Deep.open_strs Try.underlying22 Try.underlying9 (by kernel_rfl) h with ⟨rfl, _⟩ | ⟨a, len, cap, m, Sx, rfl, _, hl, hm, hmm, _, hc⟩
  · exact ⟨none, 0, [], rfl, ⟨rfl, .inl rfl⟩, Nat.le_refl _, by decide, by simp⟩
  · simp at hmm
    subst hmm
    refine ⟨some a, m, (List.range len).map Sx, by simp, ?_, by simpa using hl, hm, ?_⟩
    · refine ⟨by simp [strs], ?_⟩
      by_cases h0 : len = 0
      · left; simpa using h0
      · right
        have h1 := (hc 0 (by omega)).1
        obtain ⟨b, o, sp⟩ := a
        have hsp : sp = none := by
          have := World.cell?_spot h1
          simpa [Addr.add] using this
        subst hsp
        refine ⟨b, o, rfl, cell_lt h1, fun i v hv => ?_⟩
        simp only [strs, List.map_map, List.getElem?_map] at hv
        by_cases hi : i < len
        · rw [List.getElem?_range hi] at hv
          simp at hv
          subst hv
          have := (hc i (by omega)).1
          rwa [add_off] at this
        · rw [List.getElem?_eq_none (by simpa using hi)] at hv
          simp at hv
    · intro s hs
      obtain ⟨i, hi, rfl⟩ := List.mem_map.1 hs
      exact (hc i (by have := List.mem_range.1 hi; omega)).2
theorem open_rd_ints {fuel : Nat} {cs : List Value} {x : DataW H × List MemPlace} (h : DataW.trod enc Try.prog W 0 (fun _ => true) true fuel 26 cs = some x) :
    ∃ a c l, cs = [.slice a l.length c] ∧ Rd1 W W.heap.size a l.length (ints l) ∧ l.length ≤ c ∧ c ≤ maxLen ∧ ∀ s ∈ l, I64 s := by
  rcases open_ints (by kernel_rfl) Try.underlying3 (by kernel_rfl) h with ⟨rfl, _⟩ | ⟨a, len, cap, zs, rfl, _, hl, hm, hz, _, hc, hw⟩
  · exact ⟨none, 0, [], rfl, ⟨rfl, .inl rfl⟩, Nat.le_refl _, by decide, by simp⟩
  · simp at hz
    subst hz
    have hlen : (zs.take len).length = len := by rw [List.length_take]; omega
    refine ⟨some a, zs.length, zs.take len, by rw [hlen], ?_, by rw [hlen]; exact hl, hm, fun s hs => hw s (List.mem_of_mem_take hs)⟩
    rw [hlen]
    refine ⟨by rw [ints, List.length_map, hlen], ?_⟩
    by_cases h0 : len = 0
    · exact .inl h0
    · right
      have h1 := hc 0 (by omega)
      obtain ⟨b, o, sp⟩ := a
      have hsp : sp = none := by
        have := World.cell?_spot h1
        simpa [Addr.add] using this
      subst hsp
      refine ⟨b, o, rfl, cell_lt h1, fun i v hv => ?_⟩
      simp only [ints, List.getElem?_map] at hv
      by_cases hi : i < len
      · rw [List.getElem?_take_of_lt hi, List.getElem?_eq_getElem (by omega)] at hv
        simp at hv
        subst hv
        have := hc i (by omega)
        rw [add_off, List.getD_eq_getElem?_getD, List.getElem?_eq_getElem (by omega)] at this
        simpa using this
      · rw [List.getElem?_eq_none (by rw [hlen]; omega)] at hv
        simp at hv
theorem fields47 : ∃ f0 f1 : Field, Try.prog.underlying 49 = some (.struct #[f0, f1]) ∧ f0.type = 3 ∧ f0.offset = 0 ∧ f1.type = 26 ∧ f1.offset = 1 := by
  have h : Try.prog.underlying 49 = some (.struct (Try.prog.fieldsOf 49)) := by kernel_rfl
  refine ⟨(Try.prog.fieldsOf 49)[0]!, (Try.prog.fieldsOf 49)[1]!, by kernel_rfl, by kernel_rfl, by kernel_rfl, by kernel_rfl, by kernel_rfl⟩
theorem open_rd_prods {fuel : Nat} {cs : List Value} {x : DataW H × List MemPlace} (h : DataW.trod enc Try.prog W 0 (fun _ => true) true fuel 23 cs = some x) :
    ∃ a c l, cs = [.slice a l.length c] ∧ RdP W W.heap.size a l.length l ∧ l.length ≤ c ∧ c ≤ maxLen ∧ ∀ p ∈ l, I64 p.left ∧ ∀ s ∈ p.right, I64 s := by
  obtain ⟨f0, f1, he, t0, o0, t1, o1⟩ := fields47
  rcases Go.Deep.open_slice_pairs Try.underlying23 he (by kernel_rfl) o0 o1 (by rw [t0]; kernel_rfl) (by rw [t1]; kernel_rfl) h with ⟨rfl, _⟩ | ⟨a, len, cap, m, n, V0, V1, D0, D1, P0, P1, rfl, _, hl, hm, hmm, _, hc⟩
  · exact ⟨none, 0, [], rfl, ⟨rfl, .inl rfl⟩, Nat.le_refl _, by decide, by simp⟩
  · simp at hmm
    subst hmm
    rw [t0, t1] at hc
    have each : ∀ i, i < m → ∃ q : Int × (Option Addr × Nat × List Int), V0 i = .int .i64 q.1 ∧ I64 q.1 ∧ V1 i = .slice q.2.1 q.2.2.2.length q.2.2.1 ∧ Rd1 W W.heap.size q.2.1 q.2.2.2.length (ints q.2.2.2) ∧ q.2.2.2.length ≤ q.2.2.1 ∧ q.2.2.1 ≤ maxLen ∧ ∀ s ∈ q.2.2.2, I64 s := by
      intro i hi
      obtain ⟨_, _, h0, h1⟩ := hc i hi
      obtain ⟨z, e1, _, e2⟩ := DataW.trod_int Try.underlying3 h0
      obtain ⟨a1, c1, l1, e3, e4, e5, e6, e7⟩ := open_rd_ints h1
      exact ⟨(z, a1, c1, l1), by simpa using e1, e2, by simpa using e3, e4, e5, e6, e7⟩
    obtain ⟨q, hq⟩ := Go.Deep.choose_lt each
    refine ⟨some a, m, (List.range len).map fun i => ⟨(q i).1, (q i).2.2.2⟩, by simp, ?_, by simpa using hl, hm, ?_⟩
    · refine ⟨by simp, ?_⟩
      by_cases h0 : len = 0
      · left; simpa using h0
      · right
        have h1 := (hc 0 (by omega)).1
        obtain ⟨b, o, sp⟩ := a
        have hsp : sp = none := by
          have := World.cell?_spot h1
          simpa [Addr.add] using this
        subst hsp
        refine ⟨b, o, rfl, cell_lt h1, fun i p hp => ?_⟩
        by_cases hi : i < len
        · rw [List.getElem?_map, List.getElem?_range hi] at hp
          simp at hp
          subst hp
          obtain ⟨g0, g1, _, _⟩ := hc i (by omega)
          obtain ⟨e1, _, e3, e4, e5, e6, _⟩ := hq i (by omega)
          rw [add_off] at g0 g1
          rw [e1] at g0; rw [e3] at g1
          exact ⟨g0, _, _, g1, e4, e5, e6⟩
        · rw [List.getElem?_eq_none (by simpa using hi)] at hp
          simp at hp
    · intro p hp
      obtain ⟨i, hi, rfl⟩ := List.mem_map.1 hp
      obtain ⟨_, e2, _, _, _, _, e7⟩ := hq i (by have := List.mem_range.1 hi; omega)
      exact ⟨e2, e7⟩

theorem six_of {α : Type} {l : List α} (h : l.length = 6) : ∃ a b c d e f, l = [a, b, c, d, e, f] := by
  match l, h with
  | [a, b, c, d, e, f], _ => exact ⟨a, b, c, d, e, f, rfl⟩
theorem fields25 : ∃ f0 f1 f2 f3 f4 f5 : Field, Try.prog.underlying 25 = some (.struct #[f0, f1, f2, f3, f4, f5]) ∧ f0.type = 3 ∧ f0.offset = 0 ∧ f1.type = 22 ∧ f1.offset = 1 ∧ f2.type = 9 ∧ f2.offset = 2 ∧ f3.type = 22 ∧ f3.offset = 3 ∧ f4.type = 3 ∧ f4.offset = 4 ∧ f5.type = 23 ∧ f5.offset = 5 :=
  ⟨(Try.prog.fieldsOf 25)[0]!, (Try.prog.fieldsOf 25)[1]!, (Try.prog.fieldsOf 25)[2]!, (Try.prog.fieldsOf 25)[3]!, (Try.prog.fieldsOf 25)[4]!, (Try.prog.fieldsOf 25)[5]!, by kernel_rfl, by kernel_rfl, by kernel_rfl, by kernel_rfl, by kernel_rfl, by kernel_rfl, by kernel_rfl, by kernel_rfl, by kernel_rfl, by kernel_rfl, by kernel_rfl, by kernel_rfl, by kernel_rfl⟩
theorem c3 : Try.prog.cellsOf 3 = 1 := by kernel_rfl
theorem c9 : Try.prog.cellsOf 9 = 1 := by kernel_rfl
theorem c22 : Try.prog.cellsOf 22 = 1 := by kernel_rfl
theorem c23 : Try.prog.cellsOf 23 = 1 := by kernel_rfl
theorem c25 : Try.prog.cellsOf 25 = 6 := by kernel_rfl
/-- a grammar that comes in -/
theorem open_gram {fuel : Nat} {cs : List Value} {x : DataW H × List MemPlace} (h : DataW.trod enc Try.prog W 0 (fun _ => true) true fuel 25 cs = some x) :
    ∃ g a, cs = (gcells g a).toList ∧ GrAt W W.heap.size g a ∧ GI64 g := by
  obtain ⟨f0, f1, f2, f3, f4, f5, he, t0, o0, t1, o1, t2, o2, t3, o3, t4, o4, t5, o5⟩ := fields25
  obtain ⟨xs, n, _, _, hlen, hxl, hf⟩ := DataW.trod_struct he h
  rw [c25] at hlen
  obtain ⟨v0, v1, v2, v3, v4, v5, rfl⟩ := six_of hlen
  have g0 := hf 0 f0 rfl
  have g1 := hf 1 f1 rfl
  have g2 := hf 2 f2 rfl
  have g3 := hf 3 f3 rfl
  have g4 := hf 4 f4 rfl
  have g5 := hf 5 f5 rfl
  simp only [t0, t1, t2, t3, t4, t5, o0, o1, o2, o3, o4, o5, c3, c9, c22, c23, List.drop_zero, List.drop_succ_cons, List.take_succ_cons, List.take_zero] at g0 g1 g2 g3 g4 g5
  have some_of : ∀ {i : Nat}, i < 6 → ∃ y, xs[i]? = some y := fun {i} hi => ⟨_, List.getElem?_eq_getElem (show i < xs.length by rw [hxl]; exact hi)⟩
  obtain ⟨y0, e0⟩ := some_of (i := 0) (by decide)
  obtain ⟨y1, e1⟩ := some_of (i := 1) (by decide)
  obtain ⟨y2, e2⟩ := some_of (i := 2) (by decide)
  obtain ⟨y3, e3⟩ := some_of (i := 3) (by decide)
  obtain ⟨y4, e4⟩ := some_of (i := 4) (by decide)
  obtain ⟨y5, e5⟩ := some_of (i := 5) (by decide)
  rw [e0] at g0; rw [e1] at g1; rw [e2] at g2; rw [e3] at g3; rw [e4] at g4; rw [e5] at g5
  obtain ⟨k, r0, _, w0⟩ := DataW.trod_int Try.underlying3 g0
  obtain ⟨ta, tc, tl, r1, p1, p2, p3, p4⟩ := open_rd_strs g1
  obtain ⟨sep, r2, _, w2⟩ := DataW.trod_string Try.underlying9 g2
  obtain ⟨na, nc, nl, r3, q1, q2, q3, q4⟩ := open_rd_strs g3
  obtain ⟨st, r4, _, w4⟩ := DataW.trod_int Try.underlying3 g4
  obtain ⟨pa, pc, pl, r5, s1, s2, s3, s4⟩ := open_rd_prods g5
  refine ⟨⟨k, tl, sep, nl, st, pl⟩, ⟨ta, tc, na, nc, pa, pc⟩, ?_, ⟨p1, p2, p3, q1, q2, q3, s1, s2, s3, w2, p4, q4⟩, ⟨w0, w4, fun p hp => (s4 p hp).1, fun p hp => (s4 p hp).2⟩⟩
  simp at r0 r1 r2 r3 r4 r5
  subst r0 r1 r2 r3 r4 r5
  rfl

theorem five_of {α : Type} {l : List α} (h : l.length = 5) : ∃ a b c d e, l = [a, b, c, d, e] := by
  match l, h with
  | [a, b, c, d, e], _ => exact ⟨a, b, c, d, e, rfl⟩
end
end Go.Proofs.Ytlngbphchhbpbaa

/- The statement DeriveSteps: the walk. -/
namespace Go.Proofs.Ytlngbphchhbpbaa
open Go.ChangeShapes Go.WideShapes Go.ChangeAt Go.RowKit
set_option linter.unusedVariables false

/-- an argument that is a list of numbers -/
def IsInts (w : World) (a : Option Addr) (len cap : Nat) (zs : List Int) : Prop :=
  (a = none ∧ len = 0 ∧ cap = 0 ∧ zs = []) ∨
  ∃ x, a = some x ∧ len ≤ cap ∧ cap ≤ maxLen ∧ zs.length = cap ∧ (∀ i, i < zs.length → w.cell? (x.add i) = some (.int .i64 (zs.getD i 0))) ∧ (∀ n ∈ zs, (Lit.int .i64 n).wf = true)
theorem ints_reads {w : World} {a : Option Addr} {len cap : Nat} {zs : List Int} (h : IsInts w a len cap zs) :
    Rd1 w w.heap.size a len (ints (zs.take len)) ∧ (∀ n ∈ zs.take len, (Lit.int .i64 n).wf = true) ∧ len ≤ maxLen := by
  rcases h with ⟨rfl, rfl, rfl, rfl⟩ | ⟨⟨b, off, spot⟩, rfl, h1, h2, h3, h4, h5⟩
  · exact ⟨Rd1.nil _ _ _, by simp, by simp [maxLen]⟩
  · refine ⟨?_, fun n hn => h5 n (List.mem_of_mem_take hn), by omega⟩
    by_cases h0 : len = 0
    · subst h0; exact Rd1.nil _ _ _
    · have hc0 := h4 0 (by omega)
      have hs : spot = none := by simpa [Addr.add] using World.cell?_spot hc0
      subst hs
      have hll : (zs.take len).length = len := by rw [List.length_take]; omega
      refine ⟨by simp [ints]; omega, .inr ⟨b, off, rfl, ?_, fun i v hv => ?_⟩⟩
      · exact block_lt_of_cell (a := ⟨b, off, none⟩) (by simpa [Addr.add] using hc0)
      · have hi : i < len := by have := (List.getElem?_eq_some_iff.1 hv).1; simp [ints] at this; omega
        have hadd : (⟨b, off, none⟩ : Addr).add i = ⟨b, off + i, none⟩ := by unfold Addr.add; split <;> simp_all
        have hc := h4 i (by omega)
        rw [hadd] at hc
        have hiz : i < zs.length := by omega
        simp [ints, hi, hiz, List.getElem?_take] at hv
        rw [hc, ← hv]
        simp [List.getD_eq_getElem?_getD, hiz]
theorem ints_cap {w : World} {a : Option Addr} {len cap : Nat} {zs : List Int} (h : IsInts w a len cap zs) : len ≤ cap ∧ cap ≤ maxLen := by
  rcases h with ⟨rfl, rfl, rfl, rfl⟩ | ⟨x, rfl, h1, h2, _⟩
  · exact ⟨Nat.le_refl _, by simp [maxLen]⟩
  · exact ⟨h1, h2⟩
/-- equal lists -/
theorem same_rdi {W : World} {v v2 : Value} {l : List Int} (h1 : RdI W v l) (h2 : RdI W v2 l) : Calls Try.prog 16 #[v, v2] W fun e w' => e = .returned (.bool true) ∧ Below W.heap.size W w' := by
  obtain ⟨A, c, rfl, a1, a2, a3⟩ := h1
  obtain ⟨A2, c2, rfl, b1, b2, b3⟩ := h2
  have := sameints_any A A2 l.length l.length c c2 l l W W.heap.size a1 b1 (by omega) (by omega)
  rwa [decide_eq_true rfl] at this

set_option maxRecDepth 100000 in
set_option maxHeartbeats 4000000 in
theorem deriveSteps_walk (g : Gr) (a : GA) (A1 : Option Addr) (k c1 : Nat) (z1 : List Int) (p : Int) (A2 : Option Addr) (n c2 : Nat) (z2 : List Int) (w : World) (hg : GrAt w w.heap.size g a) (hz1 : IsInts w A1 k c1 z1) (wp : (Lit.int .i64 p).wf = true) (hz2 : IsInts w A2 n c2 z2) :
    Calls Try.prog 3 #[gval g a, .slice A1 k c1, .int .i64 p, .slice A2 n c2] w fun e w' => e = .returned (.bool true) ∧ Below w.heap.size w w' := by
  have hAw := Lib.hid (fun (W : World) => awake_any W)
  have hLi := Lib.hid (fun (W : World) (h : GrAt W W.heap.size g a) => light_some g a W h)
  obtain ⟨hf, _, hkm⟩ := ints_reads hz1
  obtain ⟨hps, _, hnm⟩ := ints_reads hz2
  obtain ⟨hkc, hcm⟩ := ints_cap hz1
  generalize z1.take k = f at *
  generalize z2.take n = ps at *
  have hLm := Lib.hid (fun (A : Option Addr) (c : Nat) (W : World) (hs : Small g) (h : GrAt W W.heap.size g a) (h2 : Rd1 W W.heap.size A k (ints f)) => leftmost_any g a A k c f W h hs h2 hkm)
  have hRl := Lib.hid (fun (A : Option Addr) (c : Nat) (W : World) (hs : Small g) (h : GrAt W W.heap.size g a) (h2 : Rd1 W W.heap.size A k (ints f)) => rleftmost_any g a A k c f W h hs h2 hkm)
  have hSt := Lib.hid (fun (A : Option Addr) (c : Nat) (W : World) (hs : Small g) (h : GrAt W W.heap.size g a) (h2 : Rd1 W W.heap.size A k (ints f)) (h3 : k ≤ c) (h4 : c ≤ maxLen) => stp_any g a A k c f p W h hs h2 h3 h4)
  have hRs := Lib.hid (fun (A : Option Addr) (c : Nat) (W : World) (hs : Small g) (h : GrAt W W.heap.size g a) (h2 : Rd1 W W.heap.size A k (ints f)) (h3 : k ≤ c) (h4 : c ≤ maxLen) => rstp_any g a A k c f p W h hs h2 h3 h4)
  have hCh := Lib.hid (fun (A : Option Addr) (c : Nat) (W : World) (hs : Small g) (h : GrAt W W.heap.size g a) (h2 : Rd1 W W.heap.size A k (ints f)) => fcheck_any g a A k c f W h hs h2 hkm)
  have hRc := Lib.hid (fun (A : Option Addr) (c : Nat) (W : World) (hs : Small g) (h : GrAt W W.heap.size g a) (h2 : Rd1 W W.heap.size A k (ints f)) => rfcheck_any g a A k c f W h hs h2 hkm)
  have hRn := Lib.hid (fun (W : World) (hs : Small g) (h : GrAt W W.heap.size g a) (h2 : Rd1 W W.heap.size A2 n (ints ps)) => (run_any g a A2 n c2 ps W h hs h2 hnm).mono fun _ _ h => rn_all h)
  have hRr := Lib.hid (fun (W : World) (hs : Small g) (h : GrAt W W.heap.size g a) (h2 : Rd1 W W.heap.size A2 n (ints ps)) => rrun_any g a A2 n c2 ps W h hs h2 hnm)
  have hOw := Lib.hid (fun (W : World) (h2 : Rd1 W W.heap.size A1 k (ints f)) (h3 : k ≤ 1000000) => ownints_any A1 k c1 f W h2 h3)
  have hfl : f.length = k := by have := hf.1; simpa [ints] using this
  generalize lmV g f = V1 at *
  generalize lmE g f = E1 at *
  generalize stpE g f p = E2 at *
  generalize stpL g f p = L2 at *
  generalize fchk g f = E4 at *
  generalize runE g ps = E3 at *
  generalize runL g ps = L3 at *
  clear hz1 hz2 wp
  obtain ⟨ta, tc, na, nc, pa, pc⟩ := a
  have hG0 := GB.start hg
  clear hg
  replace hfl := Lib.hid hfl
  unfold gval at *
  unfold gcells at *
  dsimp only at *
  go_enter Try.func3, Try.ntmps3
  go_upto_region 1 with (fail)
  generalize w.alloc (.cells #[.int .i64 g.k, .slice ta g.toks.length tc, .string g.sep, .slice na g.names.length nc, .int .i64 g.start, .slice pa g.prods.length pc] 25) = W at *
  obtain ⟨c0, c1', c2', c3, c4, c5⟩ := hG0.cells
  dsimp only at c1' c3 c5
  go_wp2_with fail
  refine (hLi.out _ ((hG0.2.1).mono hG0.2.2.size)).mono ?_
  rintro e w1 ⟨b1, rfl, hL, hb1⟩
  have hG1 := hG0.step hb1
  clear hG0 hb1 c0 c1' c2' c3 c4 c5
  replace hL := Lib.hid hL
  cases b1 with
  | false =>
    have hbW := Lib.hid hG1.2.2
    go_wp2_with (go_at_call 8; refine (hAw.out _).mono ?_; rintro e w2 ⟨rfl, hb2⟩)
    go_ret
    exact ⟨rfl, bStep hbW.out hb2⟩
  | true =>
    have hsm := Lib.hid (hL.out rfl).small
    clear hL
    have hkk : k ≤ 203 ∨ 203 < k := by omega
    have hK : (¬ (40 : Int) < k ∧ ¬ (203 : Int) < k) ∨ ((40 : Int) < k ∧ ¬ (k : Int) < 195 ∧ ¬ (203 : Int) < k) ∨ ((40 : Int) < k ∧ (k : Int) < 195) ∨ ((40 : Int) < k ∧ ¬ (k : Int) < 195 ∧ (203 : Int) < k) := by omega
    have hN : (¬ (30 : Int) < n ∧ ¬ (1003 : Int) < n) ∨ ((30 : Int) < n ∧ ¬ (n : Int) ≤ 1000 ∧ ¬ (1003 : Int) < n) ∨ ((30 : Int) < n ∧ (n : Int) ≤ 1000) ∨ ((30 : Int) < n ∧ ¬ (n : Int) ≤ 1000 ∧ (1003 : Int) < n) := by omega
    have hbW := Lib.hid hG1.2.2
    rcases hK with ⟨k1, k2⟩ | ⟨k1, k2, k3⟩ | ⟨k1, k2⟩ | ⟨k1, k2, k3⟩
    rotate_left 2
    · go_wp2_with (go_at_call 8; refine (hAw.out _).mono ?_; rintro e w2 ⟨rfl, hb2⟩)
      go_ret
      exact ⟨rfl, bStep hbW.out hb2⟩
    · go_wp2_with (go_at_call 8; refine (hAw.out _).mono ?_; rintro e w2 ⟨rfl, hb2⟩)
      go_ret
      exact ⟨rfl, bStep hbW.out hb2⟩
    all_goals
      rcases hN with ⟨n1, n2⟩ | ⟨n1, n2, n3⟩ | ⟨n1, n2⟩ | ⟨n1, n2, n3⟩
      rotate_left 2
      · go_wp2_with (go_at_call 8; refine (hAw.out _).mono ?_; rintro e w2 ⟨rfl, hb2⟩)
        go_ret
        exact ⟨rfl, bStep hbW.out hb2⟩
      · go_wp2_with (go_at_call 8; refine (hAw.out _).mono ?_; rintro e w2 ⟨rfl, hb2⟩)
        go_ret
        exact ⟨rfl, bStep hbW.out hb2⟩
      all_goals
        have hk6 : k ≤ 1000000 := by omega
        clear hkk hbW
        go_upto_region 3 with (fail)
        go_upto_region 4 with (go_at_call 9; refine (hOw.out _ ((hf.below hG1.2.2).mono hG1.2.2.size) hk6).mono ?_; rintro e w2 ⟨vx, rfl, hox, hb2⟩)
        have hG2 := hG1.step hb2
        have hle : (ints f).length = k := by simp [ints]; exact hfl.out
        obtain ⟨Ax, cx, hvx, hrx, hxc, hxm, _⟩ := hox.reads
        rw [hle] at hvx hrx hxc
        subst hvx
        have hbx2 : Below w2.heap.size w2 w2 := Below.refl _ _
        clear hG1 hb2 hox hle
        obtain ⟨c0, c1', c2', c3, c4, c5⟩ := hG2.cells
        dsimp only at c1' c3 c5
        go_upto_region 5 with (go_at_call 10; refine (hLm.out Ax cx _ hsm.out (hG2.2.1.mono hG2.2.2.size) ((hrx.below hbx2).mono hbx2.size)).mono ?_; rintro e w3 ⟨rfl, hb3⟩)
        have hG3 := hG2.step hb3
        have hbx3 := bStep hbx2 hb3
        clear c0 c1' c2' c3 c4 c5 hG2 hbx2
        obtain ⟨c0, c1', c2', c3, c4, c5⟩ := hG3.cells
        dsimp only at c1' c3 c5
        go_upto_region 6 with (go_at_call 11; refine (hRl.out A1 c1 _ hsm.out (hG3.2.1.mono hG3.2.2.size) ((hf.below hG3.2.2).mono hG3.2.2.size)).mono ?_; rintro e w4 ⟨rfl, hb4⟩)
        have hG4 := hG3.step hb4
        have hbx4 := bStep hbx3 hb4
        clear c0 c1' c2' c3 c4 c5 hG3 hbx3
        obtain ⟨c0, c1', c2', c3, c4, c5⟩ := hG4.cells
        dsimp only at c1' c3 c5
        go_upto_region 7 with (go_at_call 12; refine (hSt.out Ax cx _ hsm.out (hG4.2.1.mono hG4.2.2.size) ((hrx.below hbx4).mono hbx4.size) hxc hxm).mono ?_; rintro e w5 ⟨va, rfl, hva, hb5⟩)
        have hG5 := hG4.step hb5
        have hbx5 := bStep hbx4 hb5
        clear c0 c1' c2' c3 c4 c5 hG4 hbx4
        obtain ⟨c0, c1', c2', c3, c4, c5⟩ := hG5.cells
        dsimp only at c1' c3 c5
        go_upto_region 8 with (go_at_call 13; refine (hRs.out A1 c1 _ hsm.out (hG5.2.1.mono hG5.2.2.size) ((hf.below hG5.2.2).mono hG5.2.2.size) hkc hcm).mono ?_; rintro e w6 ⟨vb, rfl, hvb, hb6⟩)
        have hG6 := hG5.step hb6
        have hbx6 := bStep hbx5 hb6
        clear c0 c1' c2' c3 c4 c5 hG5 hbx5
        have hva6 := hva.step hb6
        obtain ⟨c0, c1', c2', c3, c4, c5⟩ := hG6.cells
        dsimp only at c1' c3 c5
        have k10 := cell_kept c0
        have k11 := cell_kept c1'
        have k12 := cell_kept c2'
        have k13 := cell_kept c3
        have k14 := cell_kept c4
        have k15 := cell_kept c5
        have hChk := Lib.hid (fun (q : KeptBy w6) => hCh.out Ax cx q.world hsm.out ((hG6.step q.kept).2.1.mono (hG6.step q.kept).2.2.size) ((hrx.below (bStep hbx6 q.kept)).mono (bStep hbx6 q.kept).size))
        have hRck := Lib.hid (fun (q : KeptBy w6) => hRc.out A1 c1 q.world hsm.out ((hG6.step q.kept).2.1.mono (hG6.step q.kept).2.2.size) ((hf.below (hG6.step q.kept).2.2).mono (hG6.step q.kept).2.2.size))
        have hSmk := Lib.hid (fun (q : KeptBy w6) => same_rdi (hva6.step q.kept) (hvb.step q.kept))
        refine wp_region_kept (by kernel_rfl) (by kernel_rfl) ?_
        repeat (go_big_quiet_step (first | (go_at_call 14; exact Calls.kept_by (hChk.out _)) | (go_at_call 15; exact Calls.kept_by (hRck.out _)) | (go_at_call 16; exact Calls.kept_by (hSmk.out _))))
        refine wpQuiet_nil ?_
        rintro _ ⟨q, rfl⟩
        have hG7 := hG6.step q.kept
        have hbx7 := bStep hbx6 q.kept
        clear hChk hRck hSmk k10 k11 k12 k13 k14 k15 c0 c1' c2' c3 c4 c5 hG6 hbx6 hva hva6 hvb
        generalize q.world = w7 at *
        obtain ⟨c0, c1', c2', c3, c4, c5⟩ := hG7.cells
        dsimp only at c1' c3 c5
        go_upto_region 11 with (go_at_call 17; refine (hRn.out _ hsm.out (hG7.2.1.mono hG7.2.2.size) ((hps.below hG7.2.2).mono hG7.2.2.size)).mono ?_; rintro e w8 ⟨vc, rfl, hvc, hb8⟩)
        have hG8 := hG7.step hb8
        have hbx8 := bStep hbx7 hb8
        clear c0 c1' c2' c3 c4 c5 hG7 hbx7
        obtain ⟨c0, c1', c2', c3, c4, c5⟩ := hG8.cells
        dsimp only at c1' c3 c5
        go_upto_region 12 with (go_at_call 18; refine (hRr.out _ hsm.out (hG8.2.1.mono hG8.2.2.size) ((hps.below hG8.2.2).mono hG8.2.2.size)).mono ?_; rintro e w9 ⟨vd, rfl, hvd, hb9⟩)
        have hG9 := hG8.step hb9
        have hbx9 := bStep hbx8 hb9
        clear c0 c1' c2' c3 c4 c5 hG8 hbx8
        have hvc9 := Lib.hid (hvc.step hb9)
        have hvd9 := Lib.hid hvd
        have hbW9 := Lib.hid hG9.2.2
        have hfx := Lib.hid (fun (W : World) (h : Below w9.heap.size w9 W) => sameints_any Ax A1 k k cx c1 f f W W.heap.size ((hrx.below (bStep hbx9 h)).mono (bStep hbx9 h).size) ((hf.below (bStep hbW9.out h)).mono (bStep hbW9.out h).size) hkm hkm)
        simp only [decide_true] at hfx
        clear hb8 hb9 hvc hvd hG9
        go_wp2_with (first
          | (go_at_call 16; refine (same_rdi hvc9.out hvd9.out).mono ?_; clear hvc9 hvd9; rintro e w10 ⟨rfl, hb10⟩)
          | (go_at_call 16; refine (hfx.out w10 hb10).mono ?_; clear hfx; rintro e w11 ⟨rfl, hb11⟩)
          | (go_at_call 8; refine (hAw.out _).mono ?_; rintro e w12 ⟨rfl, hb12⟩))
        go_ret
        exact ⟨rfl, bStep (bStep (bStep hbW9.out hb10) hb11) hb12⟩
end Go.Proofs.Ytlngbphchhbpbaa

/- The plain laws of DeriveLists and DeriveRuns. -/
namespace Go.Proofs.Ytlngbphchhbpbaa
open Go.ChangeShapes Go.WideShapes Go.ChangeAt Go.RowKit
set_option linter.unusedVariables false

theorem small_T {t n : Nat} (ht : t ≤ 2) (hn : n ≤ 6) : ¬ Big t n := not_big t n (by
  rcases (by omega : t = 0 ∨ t = 1 ∨ t = 2) with rfl | rfl | rfl <;> rcases (by omega : n = 0 ∨ n = 1 ∨ n = 2 ∨ n = 3 ∨ n = 4 ∨ n = 5 ∨ n = 6) with rfl | rfl | rfl | rfl | rfl | rfl | rfl <;> decide +kernel)
theorem any_toks (l : List Int) : (anyG l).toks.length ≤ 2 := by
  simp only [anyG]
  unfold toksA
  rw [List.length_take]
  simp
  omega
theorem tcmp_len {a b : List Int} (h : tcmp a b = -1) : a.length ≤ b.length := by
  unfold tcmp at h
  split at h
  · omega
  · split at h
    · omega
    · omega
theorem ascT_split (n : Nat) : ∀ {l : List (List Int)}, AscT l → ∃ k, l = l.filter (fun x => decide (x.length ≤ n)) ++ k
  | [], _ => ⟨[], rfl⟩
  | a :: l, h => by
    obtain ⟨h1, h2⟩ := List.pairwise_cons.1 h
    by_cases ha : a.length ≤ n
    · obtain ⟨k, hk⟩ := ascT_split n h2
      refine ⟨k, ?_⟩
      rw [List.filter_cons_of_pos (by simpa using ha), List.cons_append, ← hk]
    · refine ⟨a :: l, ?_⟩
      have : (a :: l).filter (fun x => decide (x.length ≤ n)) = [] := by
        rw [List.filter_eq_nil_iff]
        intro x hx
        rcases List.mem_cons.1 hx with rfl | hx
        · simpa using ha
        · have := tcmp_len (h1 x hx)
          simp; omega
      rw [this]; rfl
theorem sset_prefix {g : Gr} {n m : Nat} (hnm : n ≤ m) {L L2 : List (List Int)} (h1 : SSet g n L) (h2 : SSet g m L2) : L2.take L.length = L ∧ L.length ≤ L2.length := by
  have e : L = L2.filter (fun x => decide (x.length ≤ n)) := by
    refine ascT_uniq h1.1 (h2.1.filter _) fun x => ?_
    rw [h1.2 x, List.mem_filter, h2.2 x, decide_eq_true_iff]
    constructor
    · rintro ⟨a, b⟩; exact ⟨⟨a, by omega⟩, b⟩
    · rintro ⟨⟨a, _⟩, b⟩; exact ⟨a, b⟩
  obtain ⟨k, hk⟩ := ascT_split n h2.1
  rw [← e] at hk
  rw [hk]
  exact ⟨by simp, by simp⟩
theorem sset_less {g : Gr} {n : Nat} {L : List (List Int)} (h : SSet g n L) {i : Nat} {a b : List Int} (ha : L[i]? = some a) (hb : L[i + 1]? = some b) : tcmp a b = -1 := by
  obtain ⟨h1, rfl⟩ := List.getElem?_eq_some_iff.1 ha
  obtain ⟨h2, rfl⟩ := List.getElem?_eq_some_iff.1 hb
  exact List.pairwise_iff_getElem.1 h.1 i (i + 1) h1 h2 (by omega)
theorem RdLL.take {W : World} {B : Nat} {A : Option Addr} {n : Nat} {L : List (List Int)} (h : RdLL W B A n L) (k : Nat) (hk : k ≤ n) : RdLL W B A k (L.take k) := by
  refine ⟨by rw [List.length_take, h.1]; omega, ?_⟩
  rcases h.2 with h0 | ⟨b, off, rfl, hlt, hc⟩
  · left; omega
  · refine .inr ⟨b, off, rfl, hlt, fun i l hl => ?_⟩
    have hi := (List.getElem?_eq_some_iff.1 hl).1
    rw [List.length_take] at hi
    rw [List.getElem?_take_of_lt (by omega)] at hl
    exact hc i l hl
/-- the string made of numbers -/
def textS (t : Int) (zs : List Int) : List Int := zs.map fun z => z % t
theorem textS_snoc (t : Int) {zs : List Int} {i : Nat} {z : Int} (h : zs[i]? = some z) : textS t (zs.take (i + 1)) = textS t (zs.take i) ++ [z % t] := by
  rw [take_snocG h]; simp [textS]
theorem textS_in {t : Int} (ht : 0 < t) (zs : List Int) : ∀ x ∈ textS t zs, 0 ≤ x ∧ x < t := by
  intro x hx
  obtain ⟨z, _, rfl⟩ := List.mem_map.1 hx
  exact ⟨Int.emod_nonneg _ (by omega), Int.emod_lt_of_pos _ ht⟩
theorem textS_len (t : Int) (zs : List Int) : (textS t zs).length = zs.length := by simp [textS]
end Go.Proofs.Ytlngbphchhbpbaa

/- The statement DeriveLists: the walk. -/
namespace Go.Proofs.Ytlngbphchhbpbaa
open Go.ChangeShapes Go.WideShapes Go.ChangeAt Go.RowKit
set_option linter.unusedVariables false

/-- Sentences of a grammar made of numbers -/
theorem sent_small {g : Gr} (hok : gchk g = 0) (ht : g.toks.length ≤ 2) (a : GA) (n : Nat) (ni : Int) (hni : ni = (n : Int)) (hn : n ≤ 6) (W : World) (h : GrAt W W.heap.size g a) :
    Calls Try.prog 21 #[gval g a, .int .i64 ni] W (fun e w' => ∃ v L addr, e = .returned (.tuple #[v, .int .i64 0]) ∧ SSet g n L ∧ OwnTT w' W.heap.size v L addr ∧ Below W.heap.size W w') := by
  subst hni
  exact (sentences_any g a n W h hok (by omega)).mono fun _ _ h => sn_ok (small_T ht hn) h

theorem Src1.step {W W' : World} {base : Nat} {v : Value} {l : List Int} (h : Src1 W base v l) (hb : Below W.heap.size W W') : Src1 W' base v l := by
  rcases h with ⟨A, rfl, h⟩ | h
  · exact .inl ⟨A, rfl, (h.below hb).mono hb.size⟩
  · exact .inr (h.step hb)

set_option maxRecDepth 100000 in
set_option maxHeartbeats 8000000 in
theorem deriveLists_walk (A1 : Option Addr) (len1 cap1 : Nat) (zs1 : List Int) (b : Int) (A3 : Option Addr) (len3 cap3 : Nat) (zs3 : List Int) (w : World) (wz1 : IsInts w A1 len1 cap1 zs1) (wb : (Lit.int .i64 b).wf = true) (wz3 : IsInts w A3 len3 cap3 zs3) :
    Calls Try.prog 4 #[.slice A1 len1 cap1, .int .i64 b, .slice A3 len3 cap3] w fun e w' => e = .returned (.bool true) ∧ Below w.heap.size w w' := by
  obtain ⟨hr1, hwf1, hlen1⟩ := ints_reads wz1
  obtain ⟨hr3, hwf3, hlen3⟩ := ints_reads wz3
  have hAny := Lib.hid (any_any A1 len1 cap1 (zs1.take len1) w hr1 hlen1 hwf1)
  have hok := anyG_ok (zs1.take len1)
  have ht2 := any_toks (zs1.take len1)
  generalize anyG (zs1.take len1) = g at *
  generalize zs3.take len3 = xs at *
  have hxl : xs.length = len3 := by have := hr3.1; simpa [ints] using this
  clear hr1 hwf1 hlen1 wz1 wz3
  have hk := gok_of hok
  obtain ⟨N, hN⟩ : ∃ N : Nat, b % 6 = (N : Int) := ⟨(b % 6).toNat, by omega⟩
  have hN5 : N ≤ 5 := by omega
  obtain ⟨T, hT⟩ : ∃ T : Nat, T = g.toks.length := ⟨_, rfl⟩
  have hT1 : 1 ≤ T := by rw [hT]; exact hk.tk.1
  have hT2 : T ≤ 2 := by rw [hT]; exact ht2
  have hMo := Lib.hid (fun (W : World) => mod_any b 6 W wb (by omega) (by omega))
  have hMx := Lib.hid (fun (x : Int) (hx : x ∈ xs) (W : World) => mod_any x T W (hwf3 x hx) (by omega) (by omega))
  have hSn := Lib.hid (fun (a : GA) (n : Nat) (ni : Int) (hni : ni = (n : Int)) (hn : n ≤ 6) (W : World) (h : GrAt W W.heap.size g a) => sent_small hok ht2 a n ni hni hn W h)
  have hAw := Lib.hid (fun (W : World) => awake_any W)
  have hst := hk.st
  have hDv := Lib.hid (fun (a : GA) (gs : Nat) (SA : Option Addr) (sc n : Nat) (str : List Int) (W : World) (hg : GrAt W W.heap.size g a) (hb : Blk W gs 3 #[.int .i64 g.start]) (hs : Rd1 W W.heap.size SA n (ints str)) (hn : n ≤ 12) (hss : ∀ x ∈ str, 0 ≤ x ∧ x < (T : Int)) =>
    derives_any g a (some ⟨gs, 0, none⟩) SA 1 1 n sc [g.start] str W hg hok (rd_blk hb) hs (by omega) hn (by intro s hs; have : s = g.start := by simpa using hs
                                                                                                             subst this; exact sy_start hok) (by rw [← hT]; exact hss))
  replace hT := Lib.hid hT
  replace hN := Lib.hid hN
  replace hwf3 := Lib.hid hwf3
  replace hxl := Lib.hid hxl
  replace hok := Lib.hid hok
  clear wb hk ht2
  go_enter Try.func4, Try.ntmps4
  go_upto_region 2 with (go_at_call 19; refine hAny.out.mono ?_; rintro e w1 ⟨⟨ta, tc, na, nc, pa, pc⟩, rfl, hg1, hb1⟩; simp only [gval, gcells])
  rw [← hT.out]
  have hb2 : Below w1.heap.size w1 (w1.alloc (.cells #[.int .i64 g.k, .slice ta T tc, .string g.sep, .slice na g.names.length nc, .int .i64 g.start, .slice pa g.prods.length pc] 25)) := bAlc (Below.refl _ _) _
  have q5 := Blk.new w1 25 #[.int .i64 g.k, .slice ta T tc, .string g.sep, .slice na g.names.length nc, .int .i64 g.start, .slice pa g.prods.length pc]
  have hg2 := hg1.step hb2
  have hbw := bStep hb1 hb2
  clear hg1 hb2 hb1 hAny
  generalize w1.alloc (.cells #[.int .i64 g.k, .slice ta T tc, .string g.sep, .slice na g.names.length nc, .int .i64 g.start, .slice pa g.prods.length pc] 25) = W1 at *
  generalize w1.heap.size = b5 at *
  have c0 := q5.cell 0
  have c1 := q5.cell 1
  have c2 := q5.cell 2
  have c3 := q5.cell 3
  have c4 := q5.cell 4
  have c5 := q5.cell 5
  simp only [List.getElem?_toArray, List.getElem?_cons_zero, List.getElem?_cons_succ] at c0 c1 c2 c3 c4 c5
  go_upto_region 3 with (go_at_call 20; refine (hMo.out _).mono ?_; rintro e w' ⟨rfl, rfl⟩; rw [hN.out])
  have hSn1 := Lib.hid (hSn.out ⟨ta, tc, na, nc, pa, pc⟩ N (N : Int) rfl (by omega) W1 hg2)
  simp only [gval, gcells, ← hT.out] at hSn1
  go_upto_region 4 with (go_at_call 21; refine hSn1.out.mono ?_; rintro e w3 ⟨v, L, addr, rfl, hL, ho, hb3⟩)
  obtain ⟨LA, lc, rfl, hrd, hlc1, hlc2⟩ := ho.reads
  have q5b := q5.step hb3
  have hg3 := hg2.step hb3
  have hbw3 := bStep hbw hb3
  have hr3' := (hr3.below hbw3).mono hbw3.size
  have hL' := Lib.hid hL
  obtain ⟨Ln, hLn⟩ : ∃ Ln, Ln = L.length := ⟨_, rfl⟩
  rw [← hLn] at hrd hlc1 ⊢
  replace hLn := Lib.hid hLn
  clear hL ho hg2 q5 hbw hb3 hr3 c0 c1 c2 c3 c4 c5 hSn1 hMo
  unfold maxLen at hlc2
  go_wp2_with fail
  obtain ⟨mm, hmm⟩ : ∃ mm, mm = min len3 N := ⟨_, rfl⟩
  replace hmm := Lib.hid hmm
  have hown0 : Src1 w3 w3.heap.size (.slice none 0 0) (textS T (xs.take 0)) := .inr (Own1.nil _ _ _)
  go_loopg [11, 12] mm (fun gk s11 s12 wr => ∃ i : Nat, s12 = .int .i64 i ∧ i + gk = mm ∧ Src1 wr w3.heap.size s11 (textS T (xs.take i)) ∧ Below w3.heap.size w3 wr)
  case atStart => exact ⟨0, rfl, by omega, hown0, Below.refl _ _⟩
  case round =>
    clear hown0
    obtain ⟨i, rfl, hi, hown, hbr⟩ := hrel
    replace hi := Lib.hid hi
    have q5r := q5b.step hbr
    have hg4 := hg3.step hbr
    have c1 := q5r.cell 1
    have c4 := q5r.cell 4
    simp only [List.getElem?_toArray, List.getElem?_cons_zero, List.getElem?_cons_succ] at c1 c4
    by_cases hin : i < mm
    · have hi1 : i < len3 := by have := hmm.out; omega
      have hi2 : i < N := by have := hmm.out; omega
      have hx : xs[i]? = some (xs[i]'(by have := hxl.out; omega)) := List.getElem?_eq_getElem _
      have hxm := List.mem_of_getElem? hx
      generalize (xs[i]'(by have := hxl.out; omega)) = x at *
      obtain ⟨xb, xoff, rfl, hbt, x0⟩ := (hr3'.below hbr).get (show (ints xs)[i]? = some (.int .i64 x) by rw [ints, List.getElem?_map, hx]; rfl)
      have hMx1 := hMx.out x hxm
      have hsn := textS_snoc (T : Int) hx
      have hz0 : (0 : Int) ≤ i := by omega
      have hz1 : (i : Int) < len3 := by omega
      have hz2 : (i : Int) < N := by omega
      have hl6 : (textS T (xs.take i)).length ≤ 6 := by rw [textS_len, List.length_take]; omega
      replace hl6 := Lib.hid hl6
      replace hx := Lib.hid hx
      replace hsn := Lib.hid hsn
      replace hMx1 := Lib.hid hMx1
      obtain ⟨v', W', hrun, hs', hb'⟩ := app_src (W := wr.drew.alloc (.cells #[.int .i64 (x % T)] 3)) (c := 1) (k := [x % T]) (m := 1) (B := some ⟨wr.heap.size, 0, none⟩) (hown.step (bAlc (bDrw (Below.refl _ _)) _)) (by have := hbr.size; simp; omega) (rd_blk (Blk.new wr.drew 3 _)) (by have := hl6.out; omega)
      rw [← hsn.out] at hs'
      have hx3 := (hr3'.get (show (ints xs)[i]? = some (.int .i64 x) by rw [ints, List.getElem?_map, hx.out]; rfl))
      have hb'' : Below w3.heap.size w3 W' := (bAlc (bDrw hbr) _).trans hb'
      have hAll := Lib.hid (fun (W : World) (h : Below wr.heap.size wr W) => (⟨cell_later h x0, cell_later h c1⟩ : W.cell? ⟨xb, xoff + i, none⟩ = some (.int .i64 x) ∧ W.cell? ⟨b5, 1, none⟩ = some (.slice ta T tc)))
      have hAl2 : Hid (W'.cell? ⟨xb, xoff + i, none⟩ = some (.int .i64 x) ∧ W'.cell? ⟨b5, 1, none⟩ = some (.slice ta T tc)) := Lib.hid (by
        obtain ⟨xb', xoff', e1, _, x1⟩ := hx3
        injection e1 with e1; injection e1 with e1 e2
        subst e1; subst e2
        exact ⟨cell_later hb'' x1, cell_later hb'' (by have := q5b.cell 1; simpa using this)⟩)
      replace hrun := Lib.hid hrun
      clear x0 c1 c4 hx3 hown
      go_upto_region 12 with (fail)
      go_region_held3 (fun W => W.cell? ⟨xb, xoff + i, none⟩ = some (.int .i64 x) ∧ W.cell? ⟨b5, 1, none⟩ = some (.slice ta T tc))
        ((first | exact hAl2.out | (refine hAll.out _ ?_; first | assumption | exact bDrw (Below.refl _ _) | exact bAlc (bDrw (Below.refl _ _)) _)))
        (first
          | (go_at_call 20; refine (hMx1.out _).mono ?_; rintro e w' ⟨rfl, rfl⟩)
          | (refine step_of_wp _ (by rfl) (wp_of_append _ _ _ (by rfl) _ _ (by rfl) (by rfl) _ _ hrun.out ?_)))
      go_wp2_with fail
      go_roundg (mm - (i + 1))
      case measure => have := hi.out; omega
      case rel => exact ⟨i + 1, by go_num, by have := hi.out; omega, hs', hb''⟩
    · have him : i = mm := by have := hi.out; omega
      have hc : ((i : Int) < len3 ∧ ¬ (i : Int) < N) ∨ ¬ (i : Int) < len3 := by have := hmm.out; omega
      have hil : i ≤ N := by have := hmm.out; omega
      have hsl : (textS T (xs.take i)).length = i := by rw [textS_len, List.length_take]; have := hmm.out; have := hxl.out; omega
      have hsin := Lib.hid (textS_in (t := (T : Int)) (by omega) (xs.take i))
      generalize textS T (xs.take i) = str at *
      obtain ⟨SA, sc, rfl, hrs, hsc1, hsc2⟩ := hown.reads (by omega)
      rw [hsl] at hrs hsc1 ⊢
      replace hsl := Lib.hid hsl
      replace him := Lib.hid him
      unfold maxLen at hsc2
      have hbR := bStep hbw3 hbr
      have hDv1 := Lib.hid (hDv.out ⟨ta, tc, na, nc, pa, pc⟩ wr.heap.size SA sc i str (wr.alloc (.cells #[.int .i64 g.start] 3)) (hg4.step (bAlc (Below.refl _ _) _)) (Blk.new _ _ _) ((hrs.below (bAlc (Below.refl _ _) _)).mono (by simp)) (by omega) hsin.out)
      simp only [gval, gcells, ← hT.out] at hDv1
      have c0 := q5r.cell 0
      have c2 := q5r.cell 2
      have c3 := q5r.cell 3
      have c5 := q5r.cell 5
      simp only [List.getElem?_toArray, List.getElem?_cons_zero, List.getElem?_cons_succ] at c0 c2 c3 c5
      have hrdr := (hrd.below hbr).mono hbr.size
      clear hown hrd hbr hbw3 hr3' q5b hg3
      rcases hc with ⟨z1, z2⟩ | z1
      all_goals
        go_upto_region 14 with (go_at_call 22; refine hDv1.out.mono ?_; rintro e w5 ⟨bd, rfl, hbd, hb5⟩)
        have hbA : Below wr.heap.size wr w5 := bStep (bAlc (Below.refl _ _) _) hb5
        rw [der_one hst.1] at hbd
        replace hbd := Lib.hid hbd
        have q6 := q5r.step hbA
        have hg6 := hg4.step hbA
        have hb6 := bStep hbR hbA
        have hrs6 := (hrs.below hbA).mono hbA.size
        have hrd6 := (hrdr.below hbA).mono hbA.size
        clear q5r hg4 hbR hbA hb5 hrs hrdr hDv1 c0 c1 c2 c3 c4 c5
        go_wp2_with fail
        go_loopg [14, 15] Ln (fun gk s14 s15 wr => ∃ (j : Nat) (fb : Bool), s15 = .int .i64 j ∧ s14 = .bool fb ∧ j + gk = Ln ∧ Hid (fb = true ↔ str ∈ L.take j) ∧ Below w5.heap.size w5 wr)
        case atStart => exact ⟨0, false, rfl, rfl, by omega, Lib.hid (by simp), Below.refl _ _⟩
        case round =>
          obtain ⟨j, fb, rfl, rfl, hj, hfb, hbr⟩ := hrel
          replace hj := Lib.hid hj
          by_cases hjn : j < Ln
          · have hjl : j < L.length := by have := hLn.out; omega
            have hx : L[j]? = some L[j] := List.getElem?_eq_getElem hjl
            have hrd7 := hrd6.below hbr
            have hprev : Hid (∀ (j' : Nat) (lp : List Int), j = j' + 1 → L[j']? = some lp → tcmp lp L[j] = -1) := Lib.hid (fun j' lp e h => by
              subst e; exact sset_less hL'.out h hx)
            have hlN : L[j].length ≤ N := ((hL'.out.2 _).1 (List.getElem_mem hjl)).2
            have htk : L.take (j + 1) = L.take j ++ [L[j]] := List.take_succ_eq_append_getElem hjl
            obtain ⟨lb, loff, hLA, hbt, RA, rc, x0, x1⟩ := hrd7.get hx
            subst hLA
            generalize L[j] = l at *
            have hz0 : (0 : Int) ≤ j := by omega
            have hzn : (j : Int) < Ln := by omega
            have hlN2 : ¬ (N : Int) < l.length := by omega
            have hSm := Lib.hid (sameints_any RA SA l.length i rc sc l str wr w5.heap.size x1 (hrs6.below hbr) (by unfold maxLen; omega) (by unfold maxLen; omega))
            replace hx := Lib.hid hx
            replace htk := Lib.hid htk
            have hmv : ∃ fb2 : Bool, (fb = true → fb2 = true) ∧ (fb = false → fb2 = decide (l = str)) ∧ (fb2 = true ↔ str ∈ L.take (j + 1)) := by
              cases fb with
              | true => exact ⟨true, fun _ => rfl, fun h => (by cases h), by rw [htk.out]; simp [hfb.out.1 rfl]⟩
              | false =>
                refine ⟨decide (l = str), fun h => (by cases h), fun _ => rfl, ?_⟩
                rw [htk.out, decide_eq_true_iff, List.mem_append, List.mem_singleton]
                have hno : ¬ str ∈ L.take j := fun h => by have := hfb.out.2 h; cases this
                exact ⟨fun h => .inr h.symm, fun h => h.elim (fun h => absurd h hno) (fun h => h.symm)⟩
            obtain ⟨fb2, hf1, hf2, hF2⟩ := hmv
            replace hF2 := Lib.hid hF2
            go_upto_region 18 with (fail)
            go_cut [14] (fun s14 wx => s14 = .bool fb2 ∧ Below wr.heap.size wr wx)
            case first =>
              cases fb with
              | true =>
                have hff := hf1 rfl
                subst hff
                clear hf1 hf2 hSm
                go_wp2_with fail
                go_meet
                exact ⟨rfl, Below.refl _ _⟩
              | false =>
                have hff := hf2 rfl
                replace hff := Lib.hid hff
                clear hf1 hf2
                go_wp2_with (go_at_call 16; refine hSm.out.mono ?_; rintro e w6 ⟨rfl, hb7⟩)
                go_meet
                exact ⟨by rw [hff.out], hb7⟩
            case rest =>
              obtain ⟨rfl, hbc⟩ := hcut
              have hb8 := bStep hbr hbc
              have x08 := cell_later hbc x0
              have x18 := (x1.below (hbc.mono hbr.size))
              have hrd8 := hrd7.below (hbc.mono hbr.size)
              clear hf1 hf2 hSm x0 x1 hbr hbc hrd7
              by_cases hj0 : j = 0
              · have hz1 : ¬ (0 : Int) < j := by omega
                have hd1 : decide ((0 : Int) < j) = false := decide_eq_false hz1
                have hd3 : decide (0 < j) = false := decide_eq_false (by omega)
                have hd4 : decide (N < l.length) = false := decide_eq_false (by omega)
                have hd2 : decide ((N : Int) < l.length) = false := decide_eq_false hlN2
                replace hj0 := Lib.hid hj0
                go_upto_region 19 with (fail)
                go_quiet (fail)
                have hb9 := bDrwN hb8 nq
                clear x08 x18 hrd8
                generalize wc.drewN nq = w9 at *
                go_wp2_with fail
                go_roundg (Ln - (j + 1))
                case measure => have := hj.out; omega
                case rel => exact ⟨j + 1, fb2, by go_num, rfl, by have := hj.out; omega, hF2, hb9⟩
              · obtain ⟨j', hj'⟩ : ∃ j', j = j' + 1 := ⟨j - 1, by omega⟩
                have hz1 : (0 : Int) < j := by omega
                have hjl' : j' < L.length := by have := hLn.out; omega
                have hy : L[j']? = some L[j'] := List.getElem?_eq_getElem hjl'
                have hle := hprev.out j' _ hj' hy
                have hpN : L[j'].length ≤ N := ((hL'.out.2 _).1 (List.getElem_mem hjl')).2
                obtain ⟨lb', loff', hLA, _, RB, rb, y0, y1⟩ := hrd8.get hy
                injection hLA with hLA
                injection hLA with hLA1 hLA2
                subst hLA1; subst hLA2
                generalize L[j'] = lp at *
                have hLs := Lib.hid (fun q : KeptBy wc => (less_any RB RA lp.length l.length rb rc lp l q.world w5.heap.size (y1.below (q.kept.mono hb8.size)) (x18.below (q.kept.mono hb8.size)) (by omega) (by omega)))
                rw [decide_eq_true hle] at hLs
                have hw1 : IntKind.i64.wrap ((j : Int) - 1) = (j' : Int) := by rw [IntWalk.i64_in _ (by omega)]; omega
                have hw2 : (0 : Int) ≤ j' := by omega
                have hw3 : (j' : Int) < Ln := by omega
                have hd1 : decide ((0 : Int) < j) = true := decide_eq_true hz1
                have hd3 : decide (0 < j) = true := decide_eq_true (by omega)
                have hd4 : decide (N < l.length) = false := decide_eq_false (by omega)
                have hd2 : decide ((N : Int) < l.length) = false := decide_eq_false hlN2
                replace hj' := Lib.hid hj'
                replace hy := Lib.hid hy
                replace hle := Lib.hid hle
                go_upto_region 19 with (fail)
                have k0 := cell_kept x08
                have k1 := cell_kept y0
                refine wp_region_kept (by kernel_rfl) (by kernel_rfl) ?_
                repeat (go_big_quiet_step ((go_at_call 23; exact Calls.kept_by (hLs.out _))))
                refine wpQuiet_nil ?_
                rintro _ ⟨q, rfl⟩
                have hb9 := bStep hb8 q.kept
                clear hLs k0 k1 x08 x18 y0 y1 hrd8 hw1
                generalize q.world = w9 at *
                go_wp2_with fail
                go_roundg (Ln - (j + 1))
                case measure => have := hj.out; omega
                case rel => exact ⟨j + 1, fb2, by go_num, rfl, by have := hj.out; omega, hF2, hb9⟩
          · have hjn2 : j = Ln := by have := hj.out; omega
            have hbf : bd = fb := by
              have h1 := hfb.out
              rw [List.take_of_length_le (by have := hLn.out; omega), hL'.out.2] at h1
              rw [Bool.eq_iff_iff, hbd.out, h1]
              exact ⟨fun h => ⟨h, by have := hsl.out; omega⟩, fun h => h.1⟩
            subst hbf
            replace hjn2 := Lib.hid hjn2
            have q8 := q6.step hbr
            have hg8 := hg6.step hbr
            have hb8 := bStep hb6 hbr
            have hrd8 := (hrd6.below hbr).mono hbr.size
            have c0 := q8.cell 0
            have c1 := q8.cell 1
            have c2 := q8.cell 2
            have c3 := q8.cell 3
            have c4 := q8.cell 4
            have c5 := q8.cell 5
            simp only [List.getElem?_toArray, List.getElem?_cons_zero, List.getElem?_cons_succ] at c0 c1 c2 c3 c4 c5
            have hSn2 := Lib.hid (hSn.out ⟨ta, tc, na, nc, pa, pc⟩ (N + 1) ((N : Int) + 1) (by simp) (by omega) wr hg8)
            simp only [gval, gcells, ← hT.out] at hSn2
            have hzN : (0 : Int) ≤ N := by omega
            have hzN2 : (N : Int) ≤ 5 := by omega
            clear hfb hbd hbr hj q6 hg6 hb6 hrd6
            go_upto_region 26 with (go_at_call 21; refine hSn2.out.mono ?_; rintro e w10 ⟨v2, L2, addr2, rfl, hL2, ho2, hb10⟩)
            obtain ⟨LA2, lc2, rfl, hrd2, hlc3, hlc4⟩ := ho2.reads
            obtain ⟨hpre, hlen⟩ := sset_prefix (Nat.le_succ N) hL'.out hL2
            have hrdA := (hrd8.below hb10).mono hb10.size
            have hrdB := hrd2.take L.length hlen
            rw [hpre, ← hLn.out] at hrdB
            have hb11 := bStep hb8 hb10
            have hlNN : ∀ l ∈ L, l.length ≤ maxLen := fun l hl => by have := ((hL'.out.2 l).1 hl).2; unfold maxLen; omega
            have hSL := Lib.hid (samelists_true LA2 LA Ln lc2 lc L w10 w10.heap.size hrdB hrdA (by unfold maxLen; omega) hlNN (Nat.le_refl _))
            have hL2n : (Ln : Int) ≤ L2.length := by have := hLn.out; omega
            have hL2c : Ln ≤ lc2 := by have := hLn.out; omega
            unfold maxLen at hlc4
            have hz6 : (0 : Int) ≤ Ln := by omega
            clear hrdA hrdB hrd2 hrd8 ho2 hL2 hb8 hb10 q8 hg8 c0 c1 c2 c3 c4 c5 hSn2 hpre hlNN
            go_wp2_with (first
              | (go_at_call 24; refine hSL.out.mono ?_; rintro e w11 ⟨rfl, hb12⟩)
              | (go_at_call 8; refine (hAw.out _).mono ?_; rintro e w12 ⟨rfl, hb13⟩))
            go_ret
            exact ⟨rfl, bStep (bStep hb11 hb12) hb13⟩
end Go.Proofs.Ytlngbphchhbpbaa

/- The plain law of DeriveRuns. -/
namespace Go.Proofs.Ytlngbphchhbpbaa
open Go.ChangeShapes Go.WideShapes Go.ChangeAt Go.RowKit
set_option linter.unusedVariables false

theorem der_app {ps : List Pr} {f h u v : List Int} (h1 : Der ps f u) (h2 : Der ps h v) : Der ps (f ++ h) (u ++ v) := by
  induction h1 with
  | nil => exact h2
  | term s f w hs _ ih => exact .term s _ _ hs ih
  | nont p f u w hp h16 hu _ _ ihw => rw [List.append_assoc]; exact .nont p _ _ _ hp h16 hu ihw
theorem der_split {ps : List Pr} : ∀ {f h w : List Int}, Der ps (f ++ h) w → ∃ u v, w = u ++ v ∧ Der ps f u ∧ Der ps h v
  | [], h, w, hd => ⟨[], w, rfl, .nil, hd⟩
  | s :: f, h, w, hd => by
    rw [List.cons_append] at hd
    cases hd with
    | term _ _ w' hs hf =>
      obtain ⟨u, v, rfl, h1, h2⟩ := der_split hf
      exact ⟨s :: u, v, rfl, .term s f u hs h1, h2⟩
    | nont p _ u w' hp h16 hu hf =>
      obtain ⟨u', v, rfl, h1, h2⟩ := der_split hf
      exact ⟨u ++ u', v, by rw [List.append_assoc], .nont p f u u' hp h16 hu h1, h2⟩
theorem der_self {ps : List Pr} : ∀ {f : List Int}, (∀ s ∈ f, s < 16) → Der ps f f
  | [], _ => .nil
  | s :: f, h => .term s f f (h s List.mem_cons_self) (der_self fun x hx => h x (List.mem_cons_of_mem _ hx))
theorem dst_at {g : Gr} {f : List Int} {p : Int} (h : dstE g f p = 0) : atN f < f.length ∧ (dprG g p).left = f.getD (atN f) 0 := by
  unfold dstE at h
  split at h
  · cases h
  · split at h
    · cases h
    · split at h
      · cases h
      · rename_i h2 h3
        exact ⟨by omega, by simpa using h3⟩
theorem dst_der {g : Gr} (hok : gchk g = 0) {f : List Int} {p : Int} (h : dstE g f p = 0) {x : List Int} (hd : Der g.prods (dstL g f p) x) : Der g.prods f x := by
  have hp := dst_range h
  have hpr := (gok_of hok).pr _ hp
  have hat := dst_at h
  have e : f = f.take (atN f) ++ ([(dprG g p).left] ++ f.drop (atN f + 1)) := by
    conv => lhs; rw [← List.take_append_drop (atN f) f]
    congr 1
    rw [hat.2, List.getD_eq_getElem?_getD, List.getElem?_eq_getElem hat.1]
    simp
  unfold dstL at hd
  obtain ⟨u, v, rfl, h1, h2⟩ := der_split hd
  obtain ⟨u1, u2, rfl, h3, h4⟩ := der_split h1
  rw [e, List.append_assoc]
  refine der_app h3 (der_app ?_ h2)
  have := Der.nont (dprG g p) [] u2 [] hp hpr.1.1 h4 .nil
  rwa [List.append_nil] at this
/-- what a derivation has come to -/
structure RunS (g : Gr) (ps f : List Int) : Prop where
  chk : fchk g f = 0
  run : ∀ qs, runF g [g.start] (ps ++ qs) = runF g f qs
  der : ∀ x, Der g.prods f x → Der g.prods [g.start] x
  len : f.length ≤ 1 + 5 * ps.length
theorem RunS.start {g : Gr} (hok : gchk g = 0) : RunS g [] [g.start] := ⟨fchk_start hok, fun _ => rfl, fun _ h => h, by simp⟩
theorem RunS.step {g : Gr} {ps f : List Int} {p : Int} (h : RunS g ps f) (h0 : dstE g f p = 0) : RunS g (ps ++ [p]) (dstL g f p) := by
  have hok := (fchk_len h.chk).1
  refine ⟨fchk_step h.chk h0, fun qs => ?_, fun x hx => h.der x (dst_der hok h0 hx), ?_⟩
  · rw [List.append_assoc, h.run, List.cons_append, List.nil_append, runF, if_pos h0]
  · have h1 := (dst_len h0).2
    have h2 := ((gok_of hok).pr _ (dst_range h0)).2.1
    have h3 := h.len
    have h4 := (dst_at h0).1
    unfold dstL
    rw [List.length_append, List.length_append, List.length_take, Nat.min_eq_left (by omega)]
    simp only [List.length_append, List.length_take, List.length_drop, List.length_cons, List.length_nil]
    omega
theorem RunS.at {g : Gr} {ps f : List Int} (h : RunS g ps f) (hl : ps.length ≤ 8) {s : Int} (hs : f[atN f]? = some s) {p : Nat} (hp : p < g.prods.length) (hpl : (g.prods.getD p default).left = s) : dstE g f p = 0 := by
  have hlt := (List.getElem?_eq_some_iff.1 hs).1
  have hok := (fchk_len h.chk).1
  have h3 := h.len
  have hpr : dprG g (p : Int) = g.prods.getD p default := by simp [dprG]
  have h2 := ((gok_of hok).pr (g.prods.getD p default) (by rw [List.getD_eq_getElem?_getD, List.getElem?_eq_getElem hp]; exact List.getElem_mem _)).2.1
  unfold dstE
  rw [if_neg (by omega), if_neg (by omega), hpr, if_neg (by rw [hpl, List.getD_eq_getElem?_getD, hs]; simp), if_neg (by omega)]
theorem RunS.nt {g : Gr} {ps f : List Int} (h : RunS g ps f) {s : Int} (hs : f[atN f]? = some s) : 16 ≤ s ∧ 1 ≤ (prIdx g.prods s g.prods.length).length := by
  have hok := (fchk_len h.chk).1
  have h16 := atN_at f s hs
  refine ⟨h16, ?_⟩
  have hsy := fchk_sym h.chk s (List.mem_of_getElem? hs)
  have htk := (gok_of hok).tk
  have hnt : 16 ≤ s ∧ s < 16 + (g.names.length : Int) := by
    unfold syB tmB ntB at hsy
    rw [Bool.or_eq_true, decide_eq_true_iff, decide_eq_true_iff] at hsy
    omega
  have hcomp := ((gchk_iff g).1 hok).2.2.2.2.2.2.2
  unfold compB at hcomp
  have := List.all_eq_true.1 hcomp (s - 16).toNat (List.mem_range.2 (by omega))
  rw [show (16 + (((s - 16).toNat : Nat) : Int)) = s by omega] at this
  rcases Nat.eq_zero_or_pos (prIdx g.prods s g.prods.length).length with h0 | h0
  · rw [(prIdx_none g.prods s).1 h0] at this; cases this
  · exact h0
theorem prIdx_mem {ps : List Pr} {s : Int} {n j : Nat} {x : Int} (h : (prIdx ps s n)[j]? = some x) : ∃ p : Nat, x = (p : Int) ∧ p < n ∧ (ps.getD p default).left = s := by
  have hm := List.mem_of_getElem? h
  unfold prIdx at hm
  obtain ⟨p, hp, rfl⟩ := List.mem_map.1 hm
  obtain ⟨h1, h2⟩ := List.mem_filter.1 hp
  exact ⟨p, rfl, List.mem_range.1 h1, by simpa using h2⟩
theorem RunS.runE {g : Gr} {ps f : List Int} (h : RunS g ps f) (hl : ps.length ≤ 8) : Go.Proofs.Ytlngbphchhbpbaa.runE g ps = 0 ∧ (runF g [g.start] ps).2 = f := by
  have hok := (fchk_len h.chk).1
  have := h.run []
  rw [List.append_nil, runF] at this
  refine ⟨?_, by rw [this]⟩
  unfold Go.Proofs.Ytlngbphchhbpbaa.runE
  rw [if_neg (by simpa using hok), if_neg (by omega), this]
end Go.Proofs.Ytlngbphchhbpbaa

/- Clone and Step: new memory. -/
namespace Go.Proofs.Ytlngbphchhbpbaa
open Go.ChangeShapes Go.WideShapes Go.ChangeAt Go.RowKit
set_option linter.unusedVariables false

/-- a slice that lies in blocks from B on -/
def Frs (B : Nat) (v : Value) : Prop := ∀ k, v.ownBlock = some k → B ≤ k
theorem Frs.mono {B B' : Nat} {v : Value} (h : Frs B v) (hb : B' ≤ B) : Frs B' v := fun k hk => Nat.le_trans hb (h k hk)
theorem RdI.grown {W W' : World} {v : Value} {l : List Int} {row : Option Nat} (h : RdI W v l) (hg : W.grownBy W' row) (hne : ∀ k, v.ownBlock = some k → some k ≠ row) : RdI W' v l := by
  obtain ⟨A, c, rfl, h1, h2⟩ := h
  refine ⟨A, c, rfl, ⟨h1.1, ?_⟩, h2⟩
  rcases h1.2 with h0 | ⟨b, off, rfl, hlt, hc⟩
  · exact .inl h0
  · exact .inr ⟨b, off, rfl, Nat.lt_of_lt_of_le hlt hg.size, fun i u hu => hg.cell (hc i u hu) (hne b rfl)⟩
set_option maxRecDepth 100000 in
/-- a slice of numbers, copied: new memory -/
theorem clone_fr (v : Value) (l : List Int) (w : World) (hv : RdI w v l) (hl : l.length ≤ 1000) : Calls Try.prog 35 #[v] w fun e w' => ∃ v', e = .returned v' ∧ RdI w' v' l ∧ Frs w.heap.size v' ∧ Below w.heap.size w w' := by
  obtain ⟨A, c, rfl, hr, h1, h2⟩ := hv
  have hnn := fun (w : World) (a : Option Addr) (n c : Nat) => Lib.run_eql_slice_nil (P := Try.prog) w 26 3 a n c 0 0 Try.underlying26
  cases A with
  | none =>
    have hl0 : l = [] := by
      rcases hr.2 with h0 | ⟨b, off, h0, _⟩
      · exact List.eq_nil_of_length_eq_zero h0
      · cases h0
    subst hl0
    go_enter Try.func35, Try.ntmps35
    go_wp2_with fail
    go_ret
    exact ⟨_, rfl, ⟨none, 0, rfl, Rd1.nil _ _ _, by simp, by unfold maxLen; simp⟩, fun k hk => by simp [Value.ownBlock] at hk, Below.refl _ _⟩
  | some ad =>
    go_enter Try.func35, Try.ntmps35
    have ho := Own1.empty w w.heap.size 3 (Nat.le_refl _)
    have hr1 := (hr.below (bAlc (Below.refl _ _) (.cells #[] 3))).mono (B' := (w.alloc (.cells #[] 3)).heap.size) (by simp)
    have hfr : Hid (∃ v1 W1, (Builtin.append_ #[26, 26] 26 #[.slice (some ⟨w.heap.size, 0, none⟩) 0 0, .slice (some ad) l.length c]).run Try.prog (w.alloc (.cells #[] 3)) = .ok v1 W1 ∧ RdI W1 v1 l ∧ Frs w.heap.size v1 ∧ Below w.heap.size (w.alloc (.cells #[] 3)) W1) := Lib.hid (by
      by_cases h0 : l = []
      · subst h0
        obtain ⟨v1, W1, hrun, hs1, hb1⟩ := app_src (c := c) (l := []) (.inr ho) (by simp) hr1 (by simp)
        obtain ⟨A1, c1, rfl, g1, g2, g3⟩ := hs1.reads (by simp)
        refine ⟨_, W1, hrun, ⟨A1, c1, rfl, g1, g2, g3⟩, ?_, hb1⟩
        rcases hs1 with ⟨A2, e, hA⟩ | ho2
        · have hrun2 := hrun
          obtain ⟨i0, hi0, hz0, hz1, hz2⟩ := info_parts info3
          have hll : ∀ (x : Addr), (loadCells x 0).run Try.prog (w.alloc (.cells #[] 3)) = .ok #[] (w.alloc (.cells #[] 3)) := fun x => by simpa using run_loadCells_list (P := Try.prog) (w.alloc (.cells #[] 3)) x [] (by simp)
          simp [Builtin.append_, run_underlying under22, sizeOf, typeInfo, hi0, Builtin.lenOf, Builtin.firstCells, storeCells, hll] at hrun2
          obtain ⟨⟨rfl, _⟩, _⟩ := hrun2
          intro k hk
          simp [Value.ownBlock] at hk
          omega
        · intro k hk
          exact (own_in ho2 k hk).1
      · obtain ⟨i0, hi0, hz0, hz1, hz2⟩ := info_parts info3
        obtain ⟨bb, boff, e, hbt, hbc⟩ : ∃ b off, some ad = some ⟨b, off, none⟩ ∧ b < (w.alloc (.cells #[] 3)).heap.size ∧ ∀ (i : Nat) (v : Value), (ints l)[i]? = some v → (w.alloc (.cells #[] 3)).cell? ⟨b, off + i, none⟩ = some v := by
          rcases hr1.2 with h | h
          · exact absurd (List.eq_nil_of_length_eq_zero h) h0
          · exact h
        injection e with e
        subst e
        have hnews : ∀ j u, (ints l)[j]? = some u → (w.alloc (.cells #[] 3)).cell? ((⟨bb, boff, none⟩ : Addr).add j) = some u := by
          intro j u hu
          have hadd : (⟨bb, boff, none⟩ : Addr).add j = ⟨bb, boff + j, none⟩ := by unfold Addr.add; split <;> simp_all
          rw [hadd]
          exact hbc j u hu
        have hlp : 0 < l.length := List.length_pos_iff.2 h0
        obtain ⟨v', w', hrun, g2, g3, g4, g5⟩ := run_append_own_at (P := Try.prog) (w.alloc (.cells #[] 3)) w.heap.size 26 26 3 i0 (.int .i64 0) 1 8 under22 hi0 hz0 hz1 hz2 rfl (by omega) _ 0 [] ho ⟨bb, boff, none⟩ l.length c (ints l) (by simp [ints] <;> omega) hnews ints_one (by unfold maxLen; simp <;> omega) (by omega) (by simp)
        have ho2 : Own1 w' w.heap.size 3 v' (ints l) := by
          unfold Own1
          rw [show (ints l).length = 0 + l.length by simp [ints]]
          exact g2
        refine ⟨v', w', hrun, ?_, fun k hk => (own_in ho2 k hk).1, (Below.refl _ _).grown g3 (by simp) (fun j hj => (own_in ho j hj).1)⟩
        have := (Src1.reads (l := l) (.inr ho2) (by omega))
        exact this)
    obtain ⟨v1, W1, hrun, hs1, hf1, hb1⟩ := hfr.out
    replace hrun := Lib.hid hrun
    replace hs1 := Lib.hid hs1
    replace hf1 := Lib.hid hf1
    have hb2 : Below w.heap.size w W1 := (bAlc (Below.refl _ _) (.cells #[] 3)).trans hb1
    clear ho hr1 hb1 hfr
    go_wp2_with (at_builtin; refine wpList_appR _ rfl _ _ 26 rfl _ _ rfl rfl _ _ hrun.out ?_)
    go_ret
    exact ⟨_, rfl, hs1.out, hf1.out, hb2⟩
set_option maxRecDepth 100000 in
set_option maxHeartbeats 2000000 in
/-- a step that can be done: new memory -/
theorem stp_fr (g : Gr) (a : GA) (A : Option Addr) (k c : Nat) (f : List Int) (p : Int) (w : World) (hg : GrAt w w.heap.size g a) (hs : Small g) (hf : Rd1 w w.heap.size A k (ints f)) (hkc : k ≤ c) (hcm : c ≤ maxLen) (h0 : fchk g f = 0) (hd0 : dstE g f p = 0) :
    Calls Try.prog 12 #[gval g a, .slice A k c, .int .i64 p] w fun e w' => ∃ v, e = .returned (.tuple #[v, .int .i64 0]) ∧ RdI w' v (dstL g f p) ∧ Frs w.heap.size v ∧ Below w.heap.size w w' := by
  obtain ⟨ta, tc, na, nc, pa, pc⟩ := a
  have hfl : f.length = k := by have := hf.1; simpa [ints] using this
  have hG0 := GB.start hg
  have hC := Lib.hid (fun (W : World) (h : GrAt W W.heap.size g ⟨ta, tc, na, nc, pa, pc⟩) (h2 : Rd1 W W.heap.size A k (ints f)) => fcheck_any g ⟨ta, tc, na, nc, pa, pc⟩ A k c f W h hs h2 (by omega))
  have hfb : Rd1 (w.alloc (.cells (gcells g ⟨ta, tc, na, nc, pa, pc⟩) 25)) w.heap.size A k (ints f) := hf.below (bAlc (Below.refl _ _) _)
  rw [h0] at hC
  obtain ⟨hok, hk200⟩ := fchk_len h0
  rw [hfl] at hk200
  have hSt := Lib.hid (fun (W : World) (h : GrAt W W.heap.size g ⟨ta, tc, na, nc, pa, pc⟩) (h2 : Rd1 W W.heap.size A k (ints f)) => (step_any g ⟨ta, tc, na, nc, pa, pc⟩ A k c f p W h hok h2 (by omega) hkc hcm).mono fun _ _ h => st_ok hd0 h)
  have hlen : Hid ((dstL g f p).length ≤ 1000) := Lib.hid (by have := (dst_len hd0).1; omega)
  generalize dstL g f p = L at *
  clear hg hs hf hfl h0 hok hd0
  unfold gval at *
  unfold gcells at *
  dsimp only at *
  obtain ⟨c0, c1, c2, c3, c4, c5⟩ := hG0.cells
  dsimp only at c1 c3 c5
  go_enter Try.func12, Try.ntmps12
  go_upto_region 4 with (go_at_call 14; refine (hC.out _ (hG0.2.1.mono hG0.2.2.size) (hfb.mono hG0.2.2.size)).mono ?_; rintro e w1 ⟨rfl, hb1⟩)
  have hG1 := hG0.step hb1
  have hf1 := hfb.below (hb1.mono hG0.2.2.size)
  clear c0 c1 c2 c3 c4 c5 hG0 hb1 hfb
  obtain ⟨c0, c1, c2, c3, c4, c5⟩ := hG1.cells
  dsimp only at c1 c3 c5
  go_wp2_with (first
    | (go_at_call 34; refine (hSt.out _ (hG1.2.1.mono hG1.2.2.size) (hf1.mono hG1.2.2.size)).mono ?_; rintro e w2 ⟨v2, rfl, hv2, hb2⟩)
    | (go_at_call 35; refine (clone_fr v2 L w2 hv2 hlen.out).mono ?_; rintro e w3 ⟨v3, rfl, hv3, hf3, hb3⟩))
  go_ret2
  exact ⟨v3, rfl, hv3, hf3.mono (bStep hG1.2.2 hb2).size, ((hG1.step hb2).step hb3).2.2⟩

end Go.Proofs.Ytlngbphchhbpbaa

/- The statement DeriveRuns: the walk. -/
namespace Go.Proofs.Ytlngbphchhbpbaa
open Go.ChangeShapes Go.WideShapes Go.ChangeAt Go.RowKit
set_option linter.unusedVariables false

set_option maxRecDepth 100000 in
set_option maxHeartbeats 8000000 in
theorem deriveRuns_walk (A1 : Option Addr) (len1 cap1 : Nat) (zs1 : List Int) (A2 : Option Addr) (len2 cap2 : Nat) (zs2 : List Int) (w : World) (wz1 : IsInts w A1 len1 cap1 zs1) (wz2 : IsInts w A2 len2 cap2 zs2) :
    Calls Try.prog 5 #[.slice A1 len1 cap1, .slice A2 len2 cap2] w fun e w' => e = .returned (.bool true) ∧ Below w.heap.size w w' := by
  obtain ⟨hr1, hwf1, hlen1⟩ := ints_reads wz1
  obtain ⟨hr2, hwf2, hlen2⟩ := ints_reads wz2
  have hAny := Lib.hid (any_any A1 len1 cap1 (zs1.take len1) w hr1 hlen1 hwf1)
  have hok := anyG_ok (zs1.take len1)
  generalize anyG (zs1.take len1) = g at *
  generalize zs2.take len2 = xs at *
  have hxl : xs.length = len2 := by have := hr2.1; simpa [ints] using this
  clear hr1 hwf1 hlen1 wz1 wz2
  have hk := gok_of hok
  have hsm := small_of hok
  obtain ⟨M, hM⟩ : ∃ M : Nat, M = g.prods.length := ⟨_, rfl⟩
  have hM24 : M ≤ 24 := by rw [hM]; exact hk.pl
  have hMx := Lib.hid (fun (x : Int) (hx : x ∈ xs) (m : Nat) (h1 : 1 ≤ m) (h2 : m ≤ 100) (W : World) => mod_any x m W (hwf2 x hx) (by omega) (by omega))
  have hLm := Lib.hid (fun (a : GA) (A : Option Addr) (k c : Nat) (f : List Int) (W : World) (h : GrAt W W.heap.size g a) (hf : Rd1 W W.heap.size A k (ints f)) (hk : k ≤ 1000) => leftmost_any g a A k c f W h hsm hf (by unfold maxLen; omega))
  have hSt := Lib.hid (fun (a : GA) (A : Option Addr) (k c : Nat) (f : List Int) (p : Int) (W : World) (h : GrAt W W.heap.size g a) (hf : Rd1 W W.heap.size A k (ints f)) (hkc : k ≤ c) (hcm : c ≤ maxLen) (h0 : fchk g f = 0) (hd0 : dstE g f p = 0) => stp_fr g a A k c f p W h hsm hf hkc hcm h0 hd0)
  have hRn := Lib.hid (fun (a : GA) (A : Option Addr) (n c : Nat) (ps : List Int) (W : World) (h : GrAt W W.heap.size g a) (hf : Rd1 W W.heap.size A n (ints ps)) (hn : n ≤ 1000) (h0 : runE g ps = 0) => (run_any g a A n c ps W h hsm hf (by unfold maxLen; omega)).mono fun _ _ h => rn_ok h0 h)
  have hAw := Lib.hid (fun (W : World) => awake_any W)
  have hDv := Lib.hid (fun (a : GA) (gs : Nat) (SA : Option Addr) (sc n : Nat) (str : List Int) (W : World) (hg : GrAt W W.heap.size g a) (hb : Blk W gs 3 #[.int .i64 g.start]) (hs : Rd1 W W.heap.size SA n (ints str)) (hn : n ≤ 12) (hss : ∀ x ∈ str, 0 ≤ x ∧ x < (g.toks.length : Int)) =>
    derives_any g a (some ⟨gs, 0, none⟩) SA 1 1 n sc [g.start] str W hg hok (rd_blk hb) hs (by omega) hn (by intro s hs; have : s = g.start := by simpa using hs
                                                                                                             subst this; exact sy_start hok) hss)
  have hS0 := Lib.hid (RunS.start hok)
  replace hwf2 := Lib.hid hwf2
  replace hxl := Lib.hid hxl
  replace hok := Lib.hid hok
  replace hk := Lib.hid hk
  replace hM := Lib.hid hM
  unfold maxLen at hlen2
  go_enter Try.func5, Try.ntmps5
  go_upto_region 2 with (go_at_call 19; refine hAny.out.mono ?_; rintro e w1 ⟨⟨ta, tc, na, nc, pa, pc⟩, rfl, hg1, hb1⟩; simp only [gval, gcells])
  rw [← hM.out]
  have hb2 : Below w1.heap.size w1 (w1.alloc (.cells #[.int .i64 g.k, .slice ta g.toks.length tc, .string g.sep, .slice na g.names.length nc, .int .i64 g.start, .slice pa M pc] 25)) := bAlc (Below.refl _ _) _
  have q5 := Blk.new w1 25 #[.int .i64 g.k, .slice ta g.toks.length tc, .string g.sep, .slice na g.names.length nc, .int .i64 g.start, .slice pa M pc]
  have hg2 := hg1.step hb2
  have hbw := bStep hb1 hb2
  clear hg1 hb2 hb1 hAny
  generalize w1.alloc (.cells #[.int .i64 g.k, .slice ta g.toks.length tc, .string g.sep, .slice na g.names.length nc, .int .i64 g.start, .slice pa M pc] 25) = W1 at *
  generalize w1.heap.size = b5 at *
  have c4 := q5.cell 4
  simp only [List.getElem?_toArray, List.getElem?_cons_zero, List.getElem?_cons_succ] at c4
  go_upto_region 3 with (fail)
  have hrf : RdI (W1.alloc (.cells #[.int .i64 g.start] 3)) (.slice (some ⟨W1.heap.size, 0, none⟩) 1 1) [g.start] := ⟨_, _, rfl, rd_blk (Blk.new _ _ _), by simp, by simp [maxLen]⟩
  have q6 := q5.step (bAlc (Below.refl _ _) (.cells #[.int .i64 g.start] 3))
  have hg3 := hg2.step (bAlc (Below.refl _ _) (.cells #[.int .i64 g.start] 3))
  have hb3 := bAlc hbw (.cells #[.int .i64 g.start] 3)
  clear q5 hg2 hbw c4
  generalize W1.alloc (.cells #[.int .i64 g.start] 3) = W2 at *
  generalize W1.heap.size = b6 at *
  have hr3 := (hr2.below hb3).mono hb3.size
  clear hr2
  go_upto_block 0 with (fail)
  go_cut [6, 7] (fun s6 s7 wx => ∃ ps f : List Int, RunS g ps f ∧ ps.length ≤ 8 ∧ RdI wx s6 f ∧ Own1 wx W2.heap.size 3 s7 (ints ps) ∧ Below W2.heap.size W2 wx)
  case first =>
    go_wp2_with fail
    go_loopg [6, 7, 8] 8 (fun gk s6 s7 s8 wr => ∃ (i : Nat) (ps f : List Int), s8 = .int .i64 i ∧ i + gk = 8 ∧ ps.length = i ∧ Hid (RunS g ps f) ∧ RdI wr s6 f ∧ Own1 wr W2.heap.size 3 s7 (ints ps) ∧ Below W2.heap.size W2 wr)
    case atStart => exact ⟨0, [], [g.start], rfl, by omega, rfl, hS0, hrf, Own1.nil _ _ _, Below.refl _ _⟩
    case round =>
      clear hrf
      obtain ⟨i, ps, f, rfl, hi, hpi, hS, hrf, hown, hbr⟩ := hrel
      replace hi := Lib.hid hi
      replace hpi := Lib.hid hpi
      have hz0 : (0 : Int) ≤ i := by omega
      by_cases hi2 : i < len2
      · have hz1 : (i : Int) < len2 := by omega
        by_cases hi8 : i < 8
        · have hz2 : (i : Int) < 8 := by omega
          obtain ⟨FA, fc, rfl, hfr, hfc1, hfc2⟩ := hrf
          obtain ⟨k, hk6⟩ : ∃ k, k = f.length := ⟨_, rfl⟩
          rw [← hk6] at hfr hfc1 ⊢
          have hk41 : k ≤ 41 := by have := hS.out.len; have := hpi.out; omega
          have q7 := q6.step hbr
          have hg4 := hg3.step hbr
          have c0 := q7.cell 0
          have c1 := q7.cell 1
          have c2 := q7.cell 2
          have c3 := q7.cell 3
          have c4 := q7.cell 4
          have c5 := q7.cell 5
          simp only [List.getElem?_toArray, List.getElem?_cons_zero, List.getElem?_cons_succ] at c0 c1 c2 c3 c4 c5
          have hL1 := Lib.hid (hLm.out ⟨ta, tc, na, nc, pa, pc⟩ FA k fc f wr hg4 hfr (by omega))
          simp only [gval, gcells, ← hM.out] at hL1
          replace hk6 := Lib.hid hk6
          have hb4 := bStep hb3 hbr
          by_cases hat : f.length ≤ atN f
          · have hE : lmE g f = 7 := by unfold lmE; rw [if_neg (by simpa using hS.out.chk), if_pos hat]
            rw [hE] at hL1
            clear hE
            go_wp2_with (go_at_call 10; refine hL1.out.mono ?_; rintro e w5 ⟨rfl, hb5⟩)
            go_meet
            refine ⟨ps, f, hS.out, by have := hpi.out; omega, ⟨FA, fc, by rw [hk6.out], by rw [← hk6.out]; exact (hfr.below hb5).mono hb5.size, by rw [← hk6.out]; exact hfc1, hfc2⟩, hown.step hb5, bStep hbr hb5⟩
          · have hatl : atN f < f.length := by omega
            have hE : lmE g f = 0 := by unfold lmE; rw [if_neg (by simpa using hS.out.chk), if_neg hat]
            have hV : lmV g f = (atN f : Int) := by unfold lmV; rw [if_pos hE]
            rw [hE, hV] at hL1
            clear hE hV hat
            have hx : f[atN f]? = some (f[atN f]'hatl) := List.getElem?_eq_getElem _
            generalize (f[atN f]'hatl) = s at *
            obtain ⟨hs16, hnt⟩ := hS.out.nt hx
            have hdst := Lib.hid (fun (p : Nat) (h1 : p < g.prods.length) (h2 : (g.prods.getD p default).left = s) => hS.out.at (by have := hpi.out; omega) hx h1 h2)
            have hdL : Hid (∀ p : Int, dstL g f p = f.take (atN f) ++ (dprG g p).right ++ f.drop (atN f + 1)) := Lib.hid (fun p => rfl)
            obtain ⟨t, ht⟩ : ∃ t, t = atN f := ⟨_, rfl⟩
            rw [← ht] at hL1 hatl hx hdL
            have htk : t < k := by have := hk6.out; omega
            have htk2 : (t : Int) < k := by omega
            have hzt : (0 : Int) ≤ t := by omega
            have hzd1 : decide ((t : Int) < 0) = false := decide_eq_false (by omega)
            have hzd2 : decide ((k : Int) ≤ t) = false := decide_eq_false (by omega)
            have hzd3 : decide (k ≤ t) = false := decide_eq_false (by omega)
            rw [← hM.out] at hnt
            replace ht := Lib.hid ht
            go_wp2_with (go_at_call 10; refine hL1.out.mono ?_; rintro e w5 ⟨rfl, hb5⟩)
            have q8 := q7.step hb5
            have hg5 := hg4.step hb5
            have hfr5 := (hfr.below hb5).mono hb5.size
            have hown5 := hown.step hb5
            have hb6 := bStep hb4 hb5
            have hbr5 := bStep hbr hb5
            have hr5 := (hr3.below hbr5).mono hbr5.size
            clear q7 hg4 hfr hown hb4 hbr hb5 c0 c1 c2 c3 c4 c5 hL1
            go_loopg [11, 12] M (fun gk2 s11 s12 wr2 => ∃ p : Nat, s12 = .int .i64 p ∧ p + gk2 = M ∧ Src1 wr2 w5.heap.size s11 (prIdx g.prods s p) ∧ Below w5.heap.size w5 wr2)
            case atStart => exact ⟨0, rfl, by omega, (by rw [show prIdx g.prods s 0 = [] from rfl]; exact .inr (Own1.nil _ _ _)), Below.refl _ _⟩
            case round =>
              obtain ⟨p, rfl, hp, hmy, hbr2⟩ := hrel
              replace hp := Lib.hid hp
              have q9 := q8.step hbr2
              have hg6 := hg5.step hbr2
              have hfr6 := (hfr5.below hbr2).mono hbr2.size
              have c5 := q9.cell 5
              simp only [List.getElem?_toArray, List.getElem?_cons_zero, List.getElem?_cons_succ] at c5
              obtain ⟨fb, foff, hFA, hfbt, x0⟩ := hfr6.get (show (ints f)[t]? = some (.int .i64 s) by rw [ints, List.getElem?_map, hx]; rfl)
              subst hFA
              by_cases hpn : p < M
              · have hpl : p < g.prods.length := by have := hM.out; omega
                have hxp : g.prods[p]? = some g.prods[p] := List.getElem?_eq_getElem hpl
                obtain ⟨pb, poff, hPA, hpbt, y0, RA, rc, y1, hRd, hrl, hrm⟩ := hg6.prods.get hxp
                dsimp only at hPA
                subst hPA
                have hsucc := prIdx_succ g.prods s p
                have hgd : g.prods.getD p default = g.prods[p] := by simp [List.getD_eq_getElem?_getD, hxp]
                rw [hgd] at hsucc
                have hlen := prIdx_len g.prods s p
                generalize g.prods[p] = pr at *
                replace hxp := Lib.hid hxp
                replace hgd := Lib.hid hgd
                have hzp : (0 : Int) ≤ p := by omega
                have hzpn : (p : Int) < M := by omega
                have hmul : (p : Int) * 2 ≤ 100 := by omega
                by_cases h6 : pr.left = s
                · have hsb : (pr.left == s) = true := by simp [h6]
                  rw [if_pos h6] at hsucc
                  replace hsucc := Lib.hid hsucc
                  clear h6
                  go_upto_region 15 with (fail)
                  go_quiet (fail)
                  obtain ⟨v', W', hrun, hs', hb'⟩ := app_src (W := (wr.drewN nq).alloc (.cells #[.int .i64 (p : Int)] 3)) (c := 1) (k := [(p : Int)]) (m := 1) (B := some ⟨wr.heap.size, 0, none⟩) (hmy.step (bAlc (bDrwN' wr nq) _)) (by have := hbr2.size; simp; omega) (rd_blk (Blk.new (wr.drewN nq) 3 _)) (by omega)
                  rw [← hsucc.out] at hs'
                  have hb'' := (bAlc (bDrwN hbr2 nq) _).trans hb'
                  replace hrun := Lib.hid hrun
                  clear x0 y0 y1 c5
                  go_wp2_with (at_builtin; refine wpList_appR _ rfl _ _ 26 rfl _ _ rfl rfl _ _ hrun.out ?_)
                  go_roundg (M - (p + 1))
                  case measure => have := hp.out; omega
                  case rel => exact ⟨p + 1, by go_num, by have := hp.out; omega, hs', hb''⟩
                · have hsb : (pr.left == s) = false := by simp [h6]
                  rw [if_neg h6] at hsucc
                  replace hsucc := Lib.hid hsucc
                  clear h6
                  go_upto_region 15 with (fail)
                  go_quiet (fail)
                  have hb'' := bDrwN hbr2 nq
                  have hs' : Src1 (wr.drewN nq) w5.heap.size u11 (prIdx g.prods s (p + 1)) := by rw [hsucc.out]; exact hmy.step (bDrwN' wr nq)
                  clear x0 y0 y1 c5
                  generalize wr.drewN nq = W' at *
                  go_wp2_with fail
                  go_roundg (M - (p + 1))
                  case measure => have := hp.out; omega
                  case rel => exact ⟨p + 1, by go_num, by have := hp.out; omega, hs', hb''⟩
              · have hpM : p = M := by have := hp.out; omega
                subst hpM
                have hlen := prIdx_len g.prods s p
                obtain ⟨ml, hml⟩ : ∃ ml, ml = (prIdx g.prods s p).length := ⟨_, rfl⟩
                obtain ⟨MA, mc, rfl, hmr, hmc1, hmc2⟩ := hmy.reads (by omega)
                rw [← hml] at hmr hmc1 hnt hlen ⊢
                replace hml := Lib.hid hml
                have hm0 : ((ml : Int) == 0) = false := beq_eq_false_iff_ne.2 (by omega)
                have hxi : xs[i]? = some (xs[i]'(by have := hxl.out; omega)) := List.getElem?_eq_getElem _
                have hxm := List.mem_of_getElem? hxi
                generalize (xs[i]'(by have := hxl.out; omega)) = x at *
                obtain ⟨xb, xoff, rfl, hxbt, xx0⟩ := (hr5.below hbr2).get (show (ints xs)[i]? = some (.int .i64 x) by rw [ints, List.getElem?_map, hxi]; rfl)
                have hMx1 := Lib.hid (hMx.out x hxm ml (by omega) (by omega))
                have hj1 := Int.emod_nonneg x (show (ml : Int) ≠ 0 by omega)
                have hj2 := Int.emod_lt_of_pos x (show (0 : Int) < ml by omega)
                obtain ⟨j, hj⟩ := Int.eq_ofNat_of_zero_le hj1
                rw [hj] at hMx1 hj1 hj2
                have hjm : j < (prIdx g.prods s p).length := by have := hml.out; omega
                have hyj : (prIdx g.prods s p)[j]? = some ((prIdx g.prods s p)[j]'hjm) := List.getElem?_eq_getElem _
                obtain ⟨px, hpx, hpx1, hpx2⟩ := prIdx_mem hyj
                obtain ⟨mb, moff, rfl, hmbt, mm0⟩ := hmr.get (show (ints (prIdx g.prods s p))[j]? = some (.int .i64 (px : Int)) by rw [ints, List.getElem?_map, hyj, hpx]; rfl)
                rw [hM.out] at hpx1
                have hd0 := hdst.out px hpx1 hpx2
                have hSt1 := Lib.hid (fun (W : World) (h : GrAt W W.heap.size g ⟨ta, tc, na, nc, pa, pc⟩) (hf : Rd1 W W.heap.size (some ⟨fb, foff, none⟩) k (ints f)) => hSt.out ⟨ta, tc, na, nc, pa, pc⟩ (some ⟨fb, foff, none⟩) k fc f (px : Int) W h hf hfc1 hfc2 hS.out.chk hd0)
                simp only [gval, gcells, ← hM.out] at hSt1
                have hS2 := Lib.hid (hS.out.step hd0)
                have c0 := q9.cell 0
                have c1 := q9.cell 1
                have c2 := q9.cell 2
                have c3 := q9.cell 3
                have c4 := q9.cell 4
                simp only [List.getElem?_toArray, List.getElem?_cons_zero, List.getElem?_cons_succ] at c0 c1 c2 c3 c4
                replace hyj := Lib.hid hyj
                replace hpx := Lib.hid hpx
                replace hj := Lib.hid hj
                replace hxi := Lib.hid hxi
                replace hd0 := Lib.hid hd0
                clear hmy hmr
                go_upto_region 20 with (go_at_call 20; refine (hMx1.out _).mono ?_; rintro e w6 ⟨rfl, rfl⟩)
                go_upto_region 21 with (go_at_call 12; refine (hSt1.out _ hg6 hfr6).mono ?_; rintro e w7 ⟨v7, rfl, hv7, hf7, hb7⟩)
                have hpxp : px < p := by have := hM.out; omega
                have hxp : g.prods[px]? = some (g.prods[px]'hpx1) := List.getElem?_eq_getElem _
                have hgd : dprG g (px : Int) = g.prods[px]'hpx1 := by simp [dprG, List.getD_eq_getElem?_getD, hxp]
                have hrl6 := (hk.out.pr _ (List.getElem_mem hpx1)).2.1
                have hdl2 := hdL.out (px : Int)
                rw [hgd] at hdl2
                have q10 := q9.step hb7
                have hg7 := hg6.step hb7
                have hfr7 := (hfr6.below hb7).mono hb7.size
                obtain ⟨pb, poff, hPA, hpbt, y0, RA, rc, y1, hRd, hrl, hrm⟩ := hg7.prods.get hxp
                dsimp only at hPA
                subst hPA
                generalize g.prods[px]'hpx1 = pr at *
                have c5 := q10.cell 5
                simp only [List.getElem?_toArray, List.getElem?_cons_zero, List.getElem?_cons_succ] at c5
                have hftl : (f.take t).length = t := by rw [List.length_take]; have := hk6.out; omega
                obtain ⟨v1, W71, hr1, hs1, hb71⟩ := app_src (W := w7.drew.alloc (.cells #[] 3)) (base := w7.heap.size) (v := .slice (some ⟨w7.heap.size, 0, none⟩) 0 0) (l := []) (c := fc) (k := f.take t) (m := t) (B := some ⟨fb, foff, none⟩) (.inr (Own1.empty w7.drew _ 3 (Nat.le_refl _))) (by simp)
                  ((rd_take (hfr7.below (bAlc (bDrw (Below.refl _ _)) _)) t (by omega)).mono (by simp)) (by simp; omega)
                rw [List.nil_append] at hs1
                have hB1 : Below w7.heap.size w7 W71 := (bAlc (bDrw (Below.refl _ _)) _).trans hb71
                obtain ⟨v2, W72, hr2, hs2, hb72⟩ := app_src (c := rc) hs1 hB1.size ((hRd.below hB1).mono hB1.size) (by rw [hftl]; omega)
                have hB2 : Below w7.heap.size w7 W72 := hB1.trans hb72
                have hfd := (rd_drop (hfr7.below hB2) (t + 1) fc (by omega) hfc1).mono hB2.size
                have hlen2 : (f.take t ++ pr.right).length + (k - (t + 1)) ≤ 1000000 := by rw [List.length_append, hftl]; omega
                have hAll := Lib.hid (fun (W : World) (h : Below w7.heap.size w7 W) => (⟨cell_later h c5, cell_later h y1⟩ : W.cell? ⟨b5, 5, none⟩ = some (.slice (some ⟨pb, poff, none⟩) p pc) ∧ W.cell? ⟨pb, poff + px * 2 + 1, none⟩ = some (.slice RA pr.right.length rc)))
                have hzx : (0 : Int) ≤ px := by omega
                have hzx2 : (px : Int) < p := by omega
                have hmul : (px : Int) * 2 ≤ 100 := by omega
                have hw1 : IntKind.i64.wrap ((t : Int) + 1) = (t : Int) + 1 := IntWalk.i64_in _ (by omega)
                have hw2 : (0 : Int) ≤ (t : Int) + 1 := by omega
                have hw3 : ((t : Int) + 1).toNat = t + 1 := by omega
                have hw4 : (t : Int) + 1 ≤ k := by omega
                have hw5 : (t : Int) + 1 ≤ fc := by omega
                have hw6 : (t : Int) ≤ fc := by omega
                replace hr1 := Lib.hid hr1
                replace hr2 := Lib.hid hr2
                replace hdl2 := Lib.hid hdl2
                replace hgd := Lib.hid hgd
                replace hxp := Lib.hid hxp
                replace hftl := Lib.hid hftl
                have hown7 := (hown5.step hbr2).step hb7
                have hoL := Lib.hid (fun (kk : Nat) (h : Value.ownBlock _ = some kk) => (own_in (hown5.step hbr2) kk h).2)
                have hbW : Below W2.heap.size W2 w7 := bStep (bStep hbr5 hbr2) hb7
                clear y0 y1 c0 c1 c2 c3 c4 c5 x0 xx0 mm0 hg6 hg7 hg5 hfr6 hfr7 hfr5 hRd hown5 q8 q9 q10 hs1
                simp only [Option.map_some, Addr.add_lit] at hfd
                obtain ⟨v3, W73, hr3, hs3, hb73⟩ := app_src (c := fc - (t + 1)) hs2 hB2.size hfd hlen2
                have hB3 : Below w7.heap.size w7 W73 := hB2.trans hb73
                rw [← hdl2.out] at hs3
                have hv3 : RdI W73 v3 (dstL g f (px : Int)) := hs3.reads (by have := (dst_len hd0.out).1; omega)
                have hSm := Lib.hid (same_rdi (hv7.step hB3) hv3)
                replace hr3 := Lib.hid hr3
                clear hfd hs2 hs3 hv3
                go_region_held3 (fun W => W.cell? ⟨b5, 5, none⟩ = some (.slice (some ⟨pb, poff, none⟩) p pc) ∧ W.cell? ⟨pb, poff + px * 2 + 1, none⟩ = some (.slice RA pr.right.length rc))
                  ((refine hAll.out _ ?_; first | assumption | exact bDrw (Below.refl _ _) | exact bAlc (bDrw (Below.refl _ _)) _))
                  (first
                    | (refine step_of_wp _ (by rfl) (wp_of_append _ _ _ (by rfl) _ _ (by rfl) (by rfl) _ _ hr1.out ?_))
                    | (refine step_of_wp _ (by rfl) (wp_of_append _ _ _ (by rfl) _ _ (by rfl) (by rfl) _ _ hr2.out ?_))
                    | (refine step_of_wp _ (by rfl) (wp_of_append _ _ _ (by rfl) _ _ (by rfl) (by rfl) _ _ hr3.out ?_)))
                clear hr1 hr2 hr3 hAll hw1 hw3
                go_upto_region 24 with (go_at_call 16; refine hSm.out.mono ?_; rintro e w8 ⟨rfl, hb8⟩)
                have hbX := bStep (bStep hbW hB3) hb8
                have hv8 := (hv7.step hB3).step hb8
                have hown8 := (hown7.step hB3).step hb8
                obtain ⟨UA, uc, rfl, _, _, _, _⟩ := hown8.reads
                rw [show (ints ps).length = i by simp [ints, hpi.out]] at *
                have hpi2 := hpi.out
                subst hpi2
                obtain ⟨RA9, rk9, W9, hr9, ho9, hg9⟩ := run_push1 (w8.alloc (.cells #[.int .i64 (px : Int)] 3)) W2.heap.size UA uc ps (hown8.alloc _) (px : Int) w8.heap.size (Blk.new _ _ _) (by omega) (by have := hbX.size; simp; omega)
                have hv9 : RdI W9 v7 (dstL g f (px : Int)) := (hv8.step (bAlc (Below.refl _ _) _)).grown hg9 (fun kk hk e => by
                  have h1 := hf7 kk hk
                  have h2 := hoL.out kk e.symm
                  omega)
                have hb9 : Below W2.heap.size W2 W9 := (bAlc hbX _).grown hg9 (by have := hbX.size; simp; omega) (fun kk hk => (own_in hown8 kk hk).1)
                replace hr9 := Lib.hid hr9
                clear hown7 hown8 hSm hv7 hv8
                go_wp2_with (at_builtin; refine wpList_appR _ rfl _ _ 26 rfl _ _ rfl rfl _ _ hr9.out ?_)
                all_goals
                  go_roundg (8 - (ps.length + 1))
                  case measure => have := hi.out; omega
                  case rel => exact ⟨ps.length + 1, ps ++ [(px : Int)], dstL g f (px : Int), by go_num, by have := hi.out; omega, by simp, hS2, hv9, ho9, hb9⟩
        · have hz2 : ¬ (i : Int) < 8 := by omega
          go_wp2_with fail
          go_meet
          exact ⟨ps, f, hS.out, by have := hpi.out; have := hi.out; omega, hrf, hown, hbr⟩
      · have hz1 : ¬ (i : Int) < len2 := by omega
        go_wp2_with fail
        go_meet
        exact ⟨ps, f, hS.out, by have := hpi.out; have := hi.out; omega, hrf, hown, hbr⟩
  case rest =>
    obtain ⟨ps, f, hS, hp8, hrf, hown, hbr⟩ := hcut
    obtain ⟨FA, fc, rfl, hfr, hfc1, hfc2⟩ := hrf
    obtain ⟨UA, uc, rfl, hur, huc1, huc2, _⟩ := hown.reads
    rw [show (ints ps).length = ps.length by simp [ints]] at hur huc1 ⊢
    obtain ⟨k, hk6⟩ : ∃ k, k = f.length := ⟨_, rfl⟩
    rw [← hk6] at hfr hfc1 ⊢
    have hk41 : k ≤ 41 := by have := hS.len; omega
    obtain ⟨hrE, hrF⟩ := hS.runE hp8
    have q7 := q6.step hbr
    have hg4 := hg3.step hbr
    have hb4 := bStep hb3 hbr
    have hRn1 := Lib.hid (hRn.out ⟨ta, tc, na, nc, pa, pc⟩ UA ps.length uc ps wc hg4 hur (by omega) hrE)
    rw [hrF] at hRn1
    simp only [gval, gcells, ← hM.out] at hRn1
    have hder := Lib.hid (fun (h : ∀ s ∈ f, s < 16) => hS.der f (der_self h))
    have hsyb := Lib.hid (fchk_sym hS.chk)
    replace hk6 := Lib.hid hk6
    have c0 := q7.cell 0
    have c1 := q7.cell 1
    have c2 := q7.cell 2
    have c3 := q7.cell 3
    have c4 := q7.cell 4
    have c5 := q7.cell 5
    simp only [List.getElem?_toArray, List.getElem?_cons_zero, List.getElem?_cons_succ] at c0 c1 c2 c3 c4 c5
    clear hS hrE hrF hown hur hrf hbr q6 hg3 hr3 hb3
    go_upto_region 26 with (go_at_call 17; refine hRn1.out.mono ?_; rintro e w5 ⟨v5, rfl, hv5, hb5⟩)
    have hfr5 := (hfr.below hb5).mono hb5.size
    have hSm := Lib.hid (same_rdi hv5 (show RdI w5 (.slice FA k fc) f from ⟨FA, fc, by rw [hk6.out], by rw [← hk6.out]; exact hfr5, by rw [← hk6.out]; exact hfc1, hfc2⟩))
    go_upto_region 28 with (go_at_call 16; refine hSm.out.mono ?_; rintro e w6 ⟨rfl, hb6⟩)
    have hb56 := bStep hb5 hb6
    have q8 := q7.step hb56
    have hg5 := hg4.step hb56
    have hb7 := bStep hb4 hb56
    have hfr6 := (hfr.below hb56).mono hb56.size
    have hE2 := Lib.hid (ends2_any FA k fc f w6 w6.heap.size hfr6 (by omega))
    clear hRn1 hSm hv5 hfr hfr5 hb5 hb6 hb56 q7 hg4 hb4 c0 c1 c2 c3 c4 c5
    have c0 := q8.cell 0
    have c1 := q8.cell 1
    have c2 := q8.cell 2
    have c3 := q8.cell 3
    have c4 := q8.cell 4
    have c5 := q8.cell 5
    simp only [List.getElem?_toArray, List.getElem?_cons_zero, List.getElem?_cons_succ] at c0 c1 c2 c3 c4 c5
    by_cases hall : (f.all fun s => decide (s < 16)) = true
    · rw [hall] at hE2
      by_cases h12 : k ≤ 12
      · have h12i : ¬ (12 : Int) < k := by omega
        have hlt : ∀ s ∈ f, s < 16 := fun s hs => by simpa using List.all_eq_true.1 hall s hs
        have hbt := hder.out hlt
        have hDv1 := Lib.hid (hDv.out ⟨ta, tc, na, nc, pa, pc⟩ w6.heap.size FA fc k f (w6.alloc (.cells #[.int .i64 g.start] 3)) (hg5.step (bAlc (Below.refl _ _) _)) (Blk.new _ _ _) ((hfr6.below (bAlc (Below.refl _ _) _)).mono (by simp)) (by omega) (fun x hx => by
          have h1 := hsyb.out x hx
          have h2 := hlt x hx
          unfold syB tmB ntB at h1
          rw [Bool.or_eq_true, decide_eq_true_iff, decide_eq_true_iff] at h1
          omega))
        simp only [gval, gcells, ← hM.out] at hDv1
        replace hbt := Lib.hid hbt
        clear hlt hall
        go_wp2_with (first
          | (go_at_call 25; refine hE2.out.mono ?_; rintro e w7 ⟨rfl, rfl⟩)
          | (go_at_call 22; refine hDv1.out.mono ?_; rintro e w8 ⟨bd, rfl, hbd, hb8⟩; have hbdt : bd = true := hbd.2 hbt.out; subst hbdt; clear hbd)
          | (go_at_call 8; refine (hAw.out _).mono ?_; rintro e w9 ⟨rfl, hb9⟩))
        go_ret
        exact ⟨rfl, bStep (bStep (bStep hb7 (bAlc (Below.refl _ _) _)) hb8) hb9⟩
      · have h12i : (12 : Int) < k := by omega
        clear hall
        go_wp2_with (first
          | (go_at_call 25; refine hE2.out.mono ?_; rintro e w7 ⟨rfl, rfl⟩)
          | (go_at_call 8; refine (hAw.out _).mono ?_; rintro e w9 ⟨rfl, hb9⟩))
        go_ret
        exact ⟨rfl, bStep hb7 hb9⟩
    · have hall2 : (f.all fun s => decide (s < 16)) = false := by simpa using hall
      rw [hall2] at hE2
      clear hall hall2
      go_wp2_with (first
        | (go_at_call 25; refine hE2.out.mono ?_; rintro e w7 ⟨rfl, rfl⟩)
        | (go_at_call 8; refine (hAw.out _).mono ?_; rintro e w9 ⟨rfl, hb9⟩))
      go_ret
      exact ⟨rfl, bStep hb7 hb9⟩
end Go.Proofs.Ytlngbphchhbpbaa
