/- The sort of strings by a method value: pdqsort. -/
import Derived.Test.YtgfnajpmaaomnaaSl
import Derived.Deep.DeepCutAuto
import Derived.Deep.CutBlock
namespace Go.Proofs.Ytgfnajpmaaomnaa
open Go.ChangeShapes Go.WideShapes Go.ChangeAt Go.RowKit
open Go.Sort (swp PermIn SortedIn permIn_refl permIn_trans permIn_mono permIn_all insertionSort heapSort)
set_option linter.unusedVariables false

theorem ins_L {L : Nat} (g cap a b : Nat) (d : Array ByteArray) (w0 w : World) (hL : d.size = L) (S : RowS w0 w g d) (hab : a ≤ b) (hb : b ≤ d.size) (hsz : d.size ≤ 1000) :
    Calls Try.prog 62 #[.slice (some ⟨g, 0, none⟩) L cap, .int .i64 a, .int .i64 b, .func (Fn.func 57) #[.agg #[]] #[]] w fun e w' => e = .returned (.tuple #[]) ∧ ∃ d', RowS w0 w' g d' ∧ PermIn a b d d' ∧ SortedIn ltB a b d' := by
  subst hL
  refine (ins_any g cap a b d w0 w S hab hb hsz).mono ?_
  rintro e w' ⟨he, S'⟩
  have h := Go.Sort.insertionSort_holds swoB d a b hab hb
  exact ⟨he, _, S', h.1, h.2⟩
theorem heap_L {L : Nat} (g cap a b : Nat) (d : Array ByteArray) (w0 w : World) (hL : d.size = L) (S : RowS w0 w g d) (hb : b ≤ d.size) (hl : a + 1 ≤ b) (hsz : d.size ≤ 1000) :
    Calls Try.prog 63 #[.slice (some ⟨g, 0, none⟩) L cap, .int .i64 a, .int .i64 b, .func (Fn.func 57) #[.agg #[]] #[]] w fun e w' => e = .returned (.tuple #[]) ∧ ∃ d', RowS w0 w' g d' ∧ PermIn a b d d' ∧ SortedIn ltB a b d' := by
  subst hL
  refine (heap_any g cap a b d w0 w S hb hl hsz).mono ?_
  rintro e w' ⟨he, S'⟩
  have h := Go.Sort.heapSort_holds swoB d a b (by omega) hb
  exact ⟨he, _, S', h.1, h.2⟩
theorem break_L {L : Nat} (g cap a b : Nat) (d : Array ByteArray) (w0 w : World) (fv : Value) (hL : d.size = L) (S : RowS w0 w g d) (hb : b ≤ d.size) (hl : a + 13 ≤ b) (hsz : d.size ≤ 49) :
    Calls Try.prog 64 #[.slice (some ⟨g, 0, none⟩) L cap, .int .i64 a, .int .i64 b, fv] w (PermPost w0 g d a b) := by
  subst hL; exact break_any g cap a b d w0 w fv S hb hl hsz
theorem piv_L {L : Nat} (g cap a b : Nat) (d : Array ByteArray) (w0 w : World) (hL : d.size = L) (S : RowS w0 w g d) (hb : b ≤ d.size) (hl : a + 13 ≤ b) (hsz : d.size ≤ 49) :
    Calls Try.prog 65 #[.slice (some ⟨g, 0, none⟩) L cap, .int .i64 a, .int .i64 b, .func (Fn.func 57) #[.agg #[]] #[]] w (Piv w0 g d a b) := by
  subst hL; exact piv_any g cap a b d w0 w S hb hl hsz
theorem rev_L {L : Nat} (g cap a b : Nat) (d : Array ByteArray) (w0 w : World) (fv : Value) (hL : d.size = L) (S : RowS w0 w g d) (hab : a < b) (hb : b ≤ d.size) (hsz : d.size ≤ 1000) :
    Calls Try.prog 66 #[.slice (some ⟨g, 0, none⟩) L cap, .int .i64 a, .int .i64 b, fv] w fun e w' => e = .returned (.tuple #[]) ∧ ∃ d', RowS w0 w' g d' ∧ PermIn a b d d' := by
  subst hL; exact rev_any g cap a b d w0 w fv S hab hb hsz
theorem pins_L {L : Nat} (g cap a b : Nat) (d : Array ByteArray) (w0 w : World) (hL : d.size = L) (S : RowS w0 w g d) (hab : a < b) (hb : b ≤ d.size) (hsz : d.size ≤ 49) :
    Calls Try.prog 67 #[.slice (some ⟨g, 0, none⟩) L cap, .int .i64 a, .int .i64 b, .func (Fn.func 57) #[.agg #[]] #[]] w fun e w' => ∃ x : Bool, e = .returned (.bool x) ∧ RowS w0 w' g d ∧ (x = true → SortedIn ltB a b d) := by
  subst hL; exact part_ins_any g cap a b d w0 w S hab hb hsz
theorem eq_L {L : Nat} (g cap a b pv : Nat) (d : Array ByteArray) (w0 w : World) (hL : d.size = L) (S : RowS w0 w g d) (hb : b ≤ d.size) (hap : a ≤ pv) (hpb : pv < b) (hsz : d.size ≤ 1000) :
    Calls Try.prog 68 #[.slice (some ⟨g, 0, none⟩) L cap, .int .i64 a, .int .i64 b, .int .i64 pv, .func (Fn.func 57) #[.agg #[]] #[]] w (EqPost d[pv]! w0 g d a b) := by
  subst hL; exact parteq_any g cap a b pv d w0 w S hb hap hpb hsz _ rfl
theorem part_L {L : Nat} (g cap a b pv : Nat) (d : Array ByteArray) (w0 w : World) (hL : d.size = L) (S : RowS w0 w g d) (hb : b ≤ d.size) (hap : a ≤ pv) (hpb : pv < b) (hsz : d.size ≤ 1000) :
    Calls Try.prog 69 #[.slice (some ⟨g, 0, none⟩) L cap, .int .i64 a, .int .i64 b, .int .i64 pv, .func (Fn.func 57) #[.agg #[]] #[]] w (PartPost w0 g d a b) := by
  subst hL; exact part_any g cap a b pv d w0 w S hb hap hpb hsz

set_option maxRecDepth 100000 in
set_option maxHeartbeats 8000000 in
theorem pdq_any (g cap L : Nat) (w0 : World) (hL49 : L ≤ 49) : ∀ (n a b : Nat) (lim : Int) (d : Array ByteArray) (w : World), b - a ≤ n → d.size = L → RowS w0 w g d → a ≤ b → b ≤ L → 0 ≤ lim → lim ≤ 64 → Go.Sort.Below ltB a b d →
    Calls Try.prog 60 #[.slice (some ⟨g, 0, none⟩) L cap, .int .i64 a, .int .i64 b, .int .i64 lim, .func (Fn.func 57) #[.agg #[]] #[]] w (PdqPost w0 g d a b) := by
  intro n
  induction n using Nat.strongRecOn with
  | _ n ih =>
  intro a b lim d w hn hdL S hab hbL hl0 hl1 hB
  have I := Lib.hid (show QInv a b d d a b from QInv.start hab hB)
  replace S := Lib.hid S
  have hbd : b ≤ d.size := by omega
  replace hdL := Lib.hid hdL
  clear hB
  have za0 : (0 : Int) ≤ a := by omega
  have zb0 : (b : Int) ≤ 49 := by omega
  go_enter Try.func60, Try.ntmps60
  go_wp2_with fail
  go_loopg [1, 2, 3, 10, 11] (b - a) (fun k va vb vl v10 v11 wr => ∃ (x y : Nat) (l : Int) (p q : Bool) (dk : Array ByteArray), va = .int .i64 x ∧ vb = .int .i64 y ∧ vl = .int .i64 l ∧ v10 = .bool p ∧ v11 = .bool q ∧ y - x ≤ k ∧ 0 ≤ l ∧ l ≤ 64 ∧ RowS w0 wr g dk ∧ QInv a b d dk x y)
  case atStart => exact ⟨a, b, lim, true, true, d, rfl, rfl, rfl, rfl, rfl, Nat.le_refl _, hl0, hl1, S.out, I.out⟩
  case round =>
    clear S I
    obtain ⟨x, y, l, p, q, dk, rfl, rfl, rfl, rfl, rfl, hk, hl0, hl1, S1, I1⟩ := hrel
    have hax := I1.ax
    have hxy := I1.xy
    have hyb := I1.yb
    have hsk : dk.size = L := I1.size.trans hdL.out
    replace hsk := Lib.hid hsk
    replace S1 := Lib.hid S1
    replace I1 := Lib.hid I1
    obtain ⟨t, ht⟩ : ∃ t, y = x + t := ⟨y - x, by omega⟩
    have hzt : (y : Int) - x = (t : Int) := by omega
    replace ht := Lib.hid ht
    have zx0 : (0 : Int) ≤ x := by omega
    have zy1 : (y : Int) ≤ 49 := by omega
    have zt0 : (0 : Int) ≤ t := by omega
    have zt1 : (t : Int) ≤ 49 := by omega
    by_cases h12 : t ≤ 12
    · have hd : decide ((t : Int) ≤ 12) = true := decide_eq_true (by omega)
      go_wp2_with fail
      refine (ins_L g cap x y dk w0 _ hsk.out S1.out hxy (by have := hsk.out; omega) (by have := hsk.out; omega)).mono ?_
      rintro e w2 ⟨rfl, d2, S2, h1, h2⟩
      have hP := Lib.hid (I1.out.post hbd h1 h2 S2)
      clear h1 h2 S2
      go_wp2_with fail
      refine bodyPost_ret (results_none rfl _ _ _) rfl ?_
      exact hP.out
    · have hd : decide ((t : Int) ≤ 12) = false := decide_eq_false (by omega)
      have h13 : x + 13 ≤ y := by have := ht.out; omega
      by_cases hl : l = 0
      · subst hl
        go_wp2_with fail
        refine (heap_L g cap x y dk w0 _ hsk.out S1.out (by have := hsk.out; omega) (by omega) (by have := hsk.out; omega)).mono ?_
        rintro e w2 ⟨rfl, d2, S2, h1, h2⟩
        have hP := Lib.hid (I1.out.post hbd h1 h2 S2)
        clear h1 h2 S2
        go_wp2_with fail
        refine bodyPost_ret (results_none rfl _ _ _) rfl ?_
        exact hP.out
      · have hd0 : (l == 0) = false := by simp [hl]
        clear hl
        have hl1' : 1 ≤ l := by have : l ≠ 0 := by simpa using hd0
                                omega
        go_upto_if 39 with (fail)
        go_cut [3, 10] (fun s3 s10 wx => ∃ (l : Int) (p : Bool) (dk : Array ByteArray), s3 = .int .i64 l ∧ s10 = .bool p ∧ 0 ≤ l ∧ l ≤ 64 ∧ RowS w0 wx g dk ∧ QInv a b d dk x y)
        case first =>
          cases p with
          | true =>
            go_wp2_with fail
            go_meet
            exact ⟨l, true, dk, rfl, rfl, hl0, hl1, S1.out, I1.out⟩
          | false =>
            go_wp2_with fail
            refine (break_L g cap x y dk w0 _ _ hsk.out S1.out (by have := hsk.out; omega) h13 (by have := hsk.out; omega)).mono ?_
            rintro e w2 ⟨rfl, d2, S2, h1⟩
            have I2 := Lib.hid (I1.out.shuf hbd h1)
            replace S2 := Lib.hid S2
            clear h1
            go_wp2_with fail
            go_meet
            exact ⟨l - 1, false, d2, by go_num, rfl, by omega, by omega, S2.out, I2.out⟩
        case rest =>
          clear S1 I1 hsk hl0 hl1 hd0 hl1'
          obtain ⟨l, p, dk, rfl, rfl, hl0, hl1, S1, I1⟩ := hcut
          have hsk : dk.size = L := I1.size.trans hdL.out
          replace hsk := Lib.hid hsk
          replace S1 := Lib.hid S1
          replace I1 := Lib.hid I1
          go_wp2_with fail
          refine (piv_L g cap x y dk w0 _ hsk.out S1.out (by have := hsk.out; omega) h13 (by have := hsk.out; omega)).mono ?_
          rintro e w2 ⟨pv, h, rfl, hp1, hp2, hh0, hh1, S2⟩
          replace S2 := Lib.hid S2
          go_upto_if 56 with (fail)
          go_cut [13, 14] (fun s13 s14 wx => ∃ (pv : Nat) (h : Int) (dk : Array ByteArray), s13 = .int .i64 pv ∧ s14 = .int .i64 h ∧ x ≤ pv ∧ pv < y ∧ RowS w0 wx g dk ∧ QInv a b d dk x y)
          case first =>
            clear S1
            have zp0 : (0 : Int) ≤ pv := by omega
            have zp1 : (pv : Int) < y := by omega
            have zp2 : (x : Int) ≤ pv := by omega
            by_cases hh : h = 2
            · subst hh
              go_wp2_with fail
              refine (rev_L g cap x y dk w0 _ _ hsk.out S2.out (by omega) (by have := hsk.out; omega) (by have := hsk.out; omega)).mono ?_
              rintro e w3 ⟨rfl, d2, S3, h1⟩
              have I2 := Lib.hid (I1.out.shuf hbd h1)
              replace S3 := Lib.hid S3
              clear h1
              go_wp2_with fail
              go_meet
              exact ⟨y - 1 - (pv - x), 1, d2, by first | rfl | go_num, rfl, by omega, by omega, S3.out, I2.out⟩
            · have hh2 : (h == 2) = false := by simp [hh]
              clear hh
              go_wp2_with fail
              go_meet
              exact ⟨pv, h, dk, rfl, rfl, hp1, hp2, S2.out, I1.out⟩
          case rest =>
            clear S1 I1 hsk S2 hp1 hp2 hh0 hh1
            obtain ⟨pv, h, dk, rfl, rfl, hp1, hp2, S1, I1⟩ := hcut
            have hsk : dk.size = L := I1.size.trans hdL.out
            replace hsk := Lib.hid hsk
            replace S1 := Lib.hid S1
            replace I1 := Lib.hid I1
            have zp0 : (0 : Int) ≤ pv := by omega
            have zp1 : (pv : Int) < y := by omega
            have zp2 : (x : Int) ≤ pv := by omega
            go_upto_region 15 with (fail)
            go_cut [10, 11, 75] (fun s10 s11 s75 wx => ∃ (p q z : Bool), s10 = .bool p ∧ s11 = .bool q ∧ s75 = .bool z ∧ RowS w0 wx g dk)
            case first =>
              cases p with
              | false =>
                go_wp2_with fail
                go_meet
                exact ⟨_, _, _, rfl, rfl, rfl, S1.out⟩
              | true =>
                cases q with
                | false =>
                  go_wp2_with fail
                  go_meet
                  exact ⟨_, _, _, rfl, rfl, rfl, S1.out⟩
                | true =>
                  go_wp2_with fail
                  go_meet
                  exact ⟨_, _, _, rfl, rfl, rfl, S1.out⟩
            case rest =>
              clear S1
              obtain ⟨p, q, z, rfl, rfl, rfl, S1⟩ := hcut
              replace S1 := Lib.hid S1
              go_upto_if 75 with (fail)
              go_cut [75] (fun s75 wx => RowS w0 wx g dk)
              case first =>
                cases z with
                | false =>
                  go_wp2_with fail
                  go_meet
                  exact S1.out
                | true =>
                  go_wp2_with fail
                  refine (pins_L g cap x y dk w0 _ hsk.out S1.out (by omega) (by have := hsk.out; omega) (by have := hsk.out; omega)).mono ?_
                  rintro e w3 ⟨r, rfl, S3, h1⟩
                  cases r with
                  | true =>
                    have hP := Lib.hid (I1.out.post hbd (permIn_refl _ _ _) (h1 rfl) S3)
                    clear h1 S3
                    go_wp2_with fail
                    refine bodyPost_ret (results_none rfl _ _ _) rfl ?_
                    exact hP.out
                  | false =>
                    clear h1
                    replace S3 := Lib.hid S3
                    go_wp2_with fail
                    go_meet
                    exact S3.out
              case rest =>
                clear S1
                replace S1 := Lib.hid hcut
                clear hcut
                go_upto_region 17 with (fail)
                go_cut [97] (fun s97 wx => ∃ z : Bool, s97 = .bool z ∧ RowS w0 wx g dk ∧ (z = true → 0 < x ∧ ltB dk[x - 1]! dk[pv]! = false))
                case first =>
                  by_cases hx : 0 < x
                  · obtain ⟨xp, rfl⟩ : ∃ q, x = q + 1 := ⟨x - 1, by omega⟩
                    have zX : ((xp + 1 : Nat) : Int) - 1 = (xp : Int) := by omega
                    have zX0 : (0 : Int) < ((xp + 1 : Nat) : Int) := by omega
                    have hd : decide ((0 : Int) < ((xp + 1 : Nat) : Int)) = true := decide_eq_true zX0
                    have hd2 : decide (((xp + 1 : Nat) : Int) > 0) = true := decide_eq_true zX0
                    have c1 := cell_kept (S1.out.cell xp (by have := hsk.out; omega))
                    have c2 := cell_kept (S1.out.cell pv (by have := hsk.out; omega))
                    generalize hx1 : dk[xp]! = x1 at c1
                    generalize hx2 : dk[pv]! = x2 at c2
                    replace hx1 := Lib.hid hx1
                    replace hx2 := Lib.hid hx2
                    have zj0 : (0 : Int) ≤ xp := by omega
                    have zj : (xp : Int) < L := by omega
                    have zv : (pv : Int) < L := by omega
                    by_cases hv : cmpB x1 x2 < 0
                    · have hvd : decide (cmpB x1 x2 < 0) = true := decide_eq_true hv
                      refine wp_region_kept (by kernel_rfl) (by kernel_rfl) ?_
                      repeat (go_big_quiet_step ((go_at_call 57; exact Calls.kept_by (by_any _ _ _))))
                      refine wpQuiet_nil ?_
                      rintro _ ⟨p, rfl⟩
                      replace S1 := Lib.hid (S1.out.below p.kept)
                      generalize p.world = w4 at S1
                      clear c1 c2
                      go_wp2_with fail
                      go_meet
                      exact ⟨false, rfl, S1.out, by simp⟩
                    · have hvd : decide (cmpB x1 x2 < 0) = false := decide_eq_false hv
                      refine wp_region_kept (by kernel_rfl) (by kernel_rfl) ?_
                      repeat (go_big_quiet_step ((go_at_call 57; exact Calls.kept_by (by_any _ _ _))))
                      refine wpQuiet_nil ?_
                      rintro _ ⟨p, rfl⟩
                      replace S1 := Lib.hid (S1.out.below p.kept)
                      generalize p.world = w4 at S1
                      clear c1 c2
                      go_wp2_with fail
                      go_meet
                      exact ⟨true, rfl, S1.out, fun _ => ⟨by omega, by simp only [Nat.add_sub_cancel]; rw [hx1.out, hx2.out, ltB_false]; omega⟩⟩
                  · have hd : decide ((x : Int) > 0) = false := decide_eq_false (by omega)
                    have hd' : decide ((0 : Int) < x) = false := decide_eq_false (by omega)
                    go_quiet (fail)
                    go_wp2_with fail
                    go_meet
                    exact ⟨false, rfl, S1.out.drewN nq, by simp⟩
                case rest =>
                  clear S1
                  obtain ⟨z, rfl, S1, hz⟩ := hcut
                  replace S1 := Lib.hid S1
                  cases z with
                  | true =>
                    obtain ⟨hx, hP⟩ := hz rfl
                    replace hP := Lib.hid hP
                    go_wp2_with fail
                    refine (eq_L g cap x y pv dk w0 _ hsk.out S1.out (by have := hsk.out; omega) hp1 hp2 (by have := hsk.out; omega)).mono ?_
                    rintro e w5 ⟨mid, d2, rfl, S5, E⟩
                    have I5 := Lib.hid (I1.out.equal hbd hx hP.out E)
                    have hm1 := E.ai
                    have hm2 := E.Jb
                    replace S5 := Lib.hid S5
                    clear E
                    go_wp2_with fail
                    go_roundg (y - mid)
                    case measure => omega
                    case rel => exact ⟨mid, y, l, p, q, d2, rfl, rfl, rfl, rfl, rfl, Nat.le_refl _, hl0, hl1, S5.out, I5.out⟩
                  | false =>
                    clear hz
                    go_wp2_with fail
                    refine (part_L g cap x y pv dk w0 _ hsk.out S1.out (by have := hsk.out; omega) hp1 hp2 (by have := hsk.out; omega)).mono ?_
                    rintro e w5 ⟨mid, r, d2, rfl, S5, D⟩
                    have hm1 := D.lo
                    have hm2 := D.hi
                    have hs5 := Lib.hid (D.perm.1.trans hsk.out)
                    replace S5 := Lib.hid S5
                    replace D := Lib.hid D
                    obtain ⟨ml, hml⟩ : ∃ q, mid = x + q := ⟨mid - x, by omega⟩
                    obtain ⟨mr, hmr⟩ : ∃ q, y = mid + q := ⟨y - mid, by omega⟩
                    have zml : (mid : Int) - x = (ml : Int) := by omega
                    have zmr : (y : Int) - mid = (mr : Int) := by omega
                    replace hml := Lib.hid hml
                    replace hmr := Lib.hid hmr
                    have zm0 : (0 : Int) ≤ mid := by omega
                    have zm1 : (mid : Int) ≤ 49 := by omega
                    by_cases hlr : (ml : Int) < mr
                    · have hld : decide ((ml : Int) < mr) = true := decide_eq_true hlr
                      go_wp2_with fail
                      refine (ih (n - 1) (by omega) x mid l d2 _ (by omega) hs5.out S5.out hm1 (by omega) hl0 hl1 (I1.out.belowL hbd D.out)).mono ?_
                      rintro e w6 ⟨rfl, d3, S6, h1, h2⟩
                      have I6 := Lib.hid (I1.out.left hbd D.out h1 h2)
                      replace S6 := Lib.hid S6
                      clear h1 h2
                      go_wp2_with fail
                      go_roundg (y - (mid + 1))
                      case measure => omega
                      case rel => exact ⟨mid + 1, y, l, _, _, d3, by go_num, rfl, rfl, rfl, rfl, Nat.le_refl _, hl0, hl1, S6.out, I6.out⟩
                    · have hld : decide ((ml : Int) < mr) = false := decide_eq_false hlr
                      have zM : (mid : Int) + 1 = ((mid + 1 : Nat) : Int) := by omega
                      replace zM := Lib.hid zM
                      go_wp2_with fail
                      rw [zM.out]
                      refine (ih (n - 1) (by omega) (mid + 1) y l d2 _ (by omega) hs5.out S5.out (by omega) (by omega) hl0 hl1 D.out.belowR).mono ?_
                      rintro e w6 ⟨rfl, d3, S6, h1, h2⟩
                      have I6 := Lib.hid (I1.out.right hbd D.out h1 h2)
                      replace S6 := Lib.hid S6
                      clear h1 h2
                      go_wp2_with fail
                      go_roundg (mid - x)
                      case measure => omega
                      case rel => exact ⟨x, mid, l, _, _, d3, rfl, rfl, rfl, rfl, rfl, Nat.le_refl _, hl0, hl1, S6.out, I6.out⟩
end Go.Proofs.Ytgfnajpmaaomnaa
