/- The sort of strings by a method value: partitionEqual. -/
import Derived.Test.YtgfnajpmaaomnaaSp
import Derived.Deep.DeepCutAuto
import Derived.Deep.CutBlock
namespace Go.Proofs.Ytgfnajpmaaomnaa
open Go.ChangeShapes Go.WideShapes Go.ChangeAt Go.RowKit
open Go.Sort (swp PermIn permIn_refl permIn_trans swp_permIn swp_size swp_get)
set_option linter.unusedVariables false

/-- what partitionEqual keeps: the pivot at a, none greater below i, greater ones from J on -/
structure EInv (P : ByteArray) (a b : Nat) (d dk : Array ByteArray) (i J : Nat) : Prop where
  size : dk.size = d.size
  piv : dk[a]! = P
  perm : PermIn a b d dk
  ai : a < i
  iJ : i ≤ J
  Jb : J ≤ b
  lo : ∀ k, a < k → k < i → ltB dk[a]! dk[k]! = false
  hi : ∀ k, J ≤ k → k < b → ltB dk[a]! dk[k]! = true

theorem EInv.up {P : ByteArray} {a b i J : Nat} {d dk : Array ByteArray} (h : EInv P a b d dk i J) (hl : i < J) (hv : ltB dk[a]! dk[i]! = false) : EInv P a b d dk (i + 1) J :=
  ⟨h.size, h.piv, h.perm, by have := h.ai; omega, hl, h.Jb, fun k h1 h2 => by
    by_cases e : k = i
    · subst e; exact hv
    · exact h.lo k h1 (by omega), h.hi⟩
theorem EInv.down {P : ByteArray} {a b i J : Nat} {d dk : Array ByteArray} (h : EInv P a b d dk i (J + 1)) (hl : i ≤ J) (hv : ltB dk[a]! dk[J]! = true) : EInv P a b d dk i J :=
  ⟨h.size, h.piv, h.perm, h.ai, hl, by have := h.Jb; omega, h.lo, fun k h1 h2 => by
    by_cases e : k = J
    · subst e; exact hv
    · exact h.hi k (by omega) h2⟩
theorem EInv.swap {P : ByteArray} {a b i J : Nat} {d dk : Array ByteArray} (h : EInv P a b d dk i (J + 1)) (hb : b ≤ d.size) (hl : i ≤ J) (hi : ltB dk[a]! dk[i]! = true) (hj : ltB dk[a]! dk[J]! = false) :
    i < J ∧ EInv P a b d (swp dk i J) (i + 1) J := by
  have hne : i ≠ J := by intro e; subst e; rw [hi] at hj; cases hj
  have ha := h.ai
  have hJ := h.Jb
  have hs := h.size
  have g : ∀ k, (swp dk i J)[k]! = if k = i then dk[J]! else if k = J then dk[i]! else dk[k]! := by
    intro k
    by_cases h1 : k = i
    · subst h1; rw [if_pos rfl, Go.Sort.swp_left _ _ _ (by omega) hne]
    · by_cases h2 : k = J
      · subst h2; rw [if_neg h1, if_pos rfl, Go.Sort.swp_right _ _ _ (by omega)]
      · rw [if_neg h1, if_neg h2, Go.Sort.swp_other _ _ _ _ h1 h2]
  have ga : (swp dk i J)[a]! = dk[a]! := by rw [g, if_neg (by omega), if_neg (by omega)]
  refine ⟨by omega, ⟨by rw [swp_size]; exact hs, ga.trans h.piv, permIn_trans d dk _ a b h.perm (swp_permIn _ _ _ _ _ (by omega) (by omega) (by omega) (by omega) (by omega)), by omega, by omega, by omega, ?_, ?_⟩⟩
  · intro k h1 h2
    rw [ga, g]
    by_cases e : k = i
    · rw [if_pos e]; exact hj
    · rw [if_neg e, if_neg (by omega)]; exact h.lo k h1 (by omega)
  · intro k h1 h2
    rw [ga, g, if_neg (by omega)]
    by_cases e : k = J
    · rw [if_pos e]; exact hi
    · rw [if_neg e]; exact h.hi k (by omega) h2

def EqPost (P : ByteArray) (w0 : World) (g : Nat) (d : Array ByteArray) (a b : Nat) (e : Ending) (w' : World) : Prop :=
  ∃ (mid : Nat) (d' : Array ByteArray), e = .returned (.int .i64 mid) ∧ RowS w0 w' g d' ∧ EInv P a b d d' mid mid

set_option maxRecDepth 100000 in
set_option maxHeartbeats 4000000 in
theorem parteq_any (g cap a b pv : Nat) (d : Array ByteArray) (w0 w : World) (S : RowS w0 w g d) (hb : b ≤ d.size) (hap : a ≤ pv) (hpb : pv < b) (hsz : d.size ≤ 1000) (P : ByteArray) (hP : d[pv]! = P) :
    Calls Try.prog 68 #[.slice (some ⟨g, 0, none⟩) d.size cap, .int .i64 a, .int .i64 b, .int .i64 pv, .func (Fn.func 57) #[.agg #[]] #[]] w (EqPost P w0 g d a b) := by
  obtain ⟨d1, d2, f1, f2, u, d3⟩ := S.two a pv (by omega) (by omega)
  have S1 := Lib.hid (S.swp a pv)
  have ga : (swp d a pv)[a]! = P := by
    by_cases e : a = pv
    · rw [← e, Go.Sort.swp_right _ _ _ (by omega), e]; exact hP
    · rw [Go.Sort.swp_left _ _ _ (by omega) e]; exact hP
  clear hP
  have I1 : EInv P a b d (swp d a pv) (a + 1) b := ⟨by rw [swp_size], ga, swp_permIn _ _ _ _ _ (by omega) (by omega) (by omega) (by omega) (by omega), by omega, by omega, Nat.le_refl _, fun k h1 h2 => by omega, fun k h1 h2 => by omega⟩
  generalize d[a]! = x at d1 d2 d3 S1
  generalize d[pv]! = y at d2 d3 S1
  generalize swp d a pv = e1 at S1 I1
  clear ga
  replace I1 := Lib.hid I1
  have za0 : (0 : Int) ≤ a := by omega
  have za : (a : Int) < d.size := by omega
  have zp0 : (0 : Int) ≤ pv := by omega
  have zp : (pv : Int) < d.size := by omega
  clear S
  go_enter Try.func68, Try.ntmps68
  go_wp2_with fail
  go_region
  generalize ((w.setCell ⟨g, a, none⟩ (.string y)).setCell ⟨g, pv, none⟩ (.string x)).drew = w1 at S1
  clear d1 d2 d3 f1 f2
  go_upto_block 0 with (fail)
  go_cut [11] (fun s11 wx => ∃ (i : Nat) (dk : Array ByteArray), s11 = .int .i64 i ∧ RowS w0 wx g dk ∧ EInv P a b d dk i i)
  case first =>
    go_wp2_with fail
    go_loopg [11, 12] b (fun k vi vj wr => ∃ (i J : Nat) (dk : Array ByteArray), vi = .int .i64 i ∧ vj = .int .i64 ((J : Int) - 1) ∧ J - i ≤ k ∧ RowS w0 wr g dk ∧ EInv P a b d dk i J)
    case atStart => exact ⟨a + 1, b, e1, by go_num, by first | rfl | go_num, by omega, S1.out, I1.out⟩
    case round =>
      clear S1 I1
      obtain ⟨i1, J1, dk, rfl, rfl, hik1, S1, I1⟩ := hrel
      have hia1 := I1.ai
      have hiJ1 := I1.iJ
      have hJb1 := I1.Jb
      have hs1 := I1.size
      replace S1 := Lib.hid S1
      replace I1 := Lib.hid I1
      have zi10 : (0 : Int) ≤ i1 := by omega
      go_upto_block 2 with (fail)
      go_cut [11] (fun s11 wx => ∃ i : Nat, s11 = .int .i64 i ∧ i1 ≤ i ∧ RowS w0 wx g dk ∧ EInv P a b d dk i J1 ∧ (i = J1 ∨ ltB dk[a]! dk[i]! = true))
      case first =>
        go_wp2_with fail
        go_loopg [11] J1 (fun k vi wr => ∃ i : Nat, vi = .int .i64 i ∧ i1 ≤ i ∧ J1 - i ≤ k ∧ RowS w0 wr g dk ∧ EInv P a b d dk i J1)
        case atStart => exact ⟨i1, by first | rfl | go_num, Nat.le_refl _, by omega, S1.out, I1.out⟩
        case round =>
          obtain ⟨i, rfl, hi0, hik, S2, I2⟩ := hrel
          have hia := I2.ai
          have hib := I2.iJ
          have hJb := I2.Jb
          have hs := I2.size
          replace S2 := Lib.hid S2
          replace I2 := Lib.hid I2
          have zi0 : (0 : Int) ≤ i := by omega
          by_cases hlt : i < J1
          · have c1 := cell_kept (S2.out.cell i (by omega))
            have c2 := cell_kept (S2.out.cell a (by omega))
            generalize hx : dk[i]! = xi at c1
            generalize hy : dk[a]! = xa at c2
            replace hx := Lib.hid hx
            replace hy := Lib.hid hy
            have zi : (i : Int) < d.size := by omega
            have hz : (i : Int) ≤ (J1 : Int) - 1 := by omega
            have hzd : decide ((i : Int) ≤ (J1 : Int) - 1) = true := decide_eq_true hz
            by_cases hv : cmpB xa xi < 0
            · have hvd : decide (cmpB xa xi < 0) = true := decide_eq_true hv
              go_wp2_with fail
              refine wp_region_kept (by kernel_rfl) (by kernel_rfl) ?_
              repeat (go_big_quiet_step ((go_at_call 57; exact Calls.kept_by (by_any _ _ _))))
              refine wpQuiet_nil ?_
              rintro _ ⟨p, rfl⟩
              replace S2 := Lib.hid (S2.out.below p.kept)
              generalize p.world = w2 at S2
              clear c1 c2
              go_wp2_with fail
              go_meet
              exact ⟨i, rfl, hi0, S2.out, I2.out, .inr (by rw [hx.out, hy.out, ltB_true]; exact hv)⟩
            · have hvd : decide (cmpB xa xi < 0) = false := decide_eq_false hv
              have I3 := Lib.hid (I2.out.up hlt (by rw [hx.out, hy.out, ltB_false]; omega))
              go_wp2_with fail
              refine wp_region_kept (by kernel_rfl) (by kernel_rfl) ?_
              repeat (go_big_quiet_step ((go_at_call 57; exact Calls.kept_by (by_any _ _ _))))
              refine wpQuiet_nil ?_
              rintro _ ⟨p, rfl⟩
              replace S2 := Lib.hid (S2.out.below p.kept)
              generalize p.world = w2 at S2
              clear c1 c2
              go_wp2_with fail
              go_roundg (J1 - (i + 1))
              case measure => omega
              case rel => exact ⟨i + 1, by go_num, by omega, by omega, S2.out, I3.out⟩
          · have hzd : decide ((i : Int) ≤ (J1 : Int) - 1) = false := decide_eq_false (by omega)
            go_wp2_with fail
            go_quiet (fail)
            replace S2 := Lib.hid (S2.out.drewN nq)
            go_wp2_with fail
            go_meet
            exact ⟨i, rfl, hi0, S2.out, I2.out, .inl (by omega)⟩
      case rest =>
        obtain ⟨i, rfl, hi0, S2, I2, hX1⟩ := hcut
        replace S2 := Lib.hid S2
        replace I2 := Lib.hid I2
        replace hX1 := Lib.hid hX1
        clear S1 I1
        go_upto_block 4 with (fail)
        go_cut [12] (fun s12 wx => ∃ J : Nat, s12 = .int .i64 ((J : Int) - 1) ∧ J ≤ J1 ∧ RowS w0 wx g dk ∧ EInv P a b d dk i J ∧ (i = J ∨ i < J ∧ ltB dk[a]! dk[i]! = true ∧ ltB dk[a]! dk[J - 1]! = false))
        case first =>
          go_wp2_with fail
          go_loopg [12] J1 (fun k vj wr => ∃ J : Nat, vj = .int .i64 ((J : Int) - 1) ∧ J ≤ J1 ∧ J ≤ k ∧ RowS w0 wr g dk ∧ EInv P a b d dk i J ∧ (i = J ∨ ltB dk[a]! dk[i]! = true))
          case atStart => exact ⟨J1, by first | rfl | go_num, Nat.le_refl _, Nat.le_refl _, S2.out, I2.out, hX1.out⟩
          case round =>
            obtain ⟨J, rfl, hJ0, hJk, S2, I2, hX2⟩ := hrel
            have hia := I2.ai
            have hiJ := I2.iJ
            have hJb := I2.Jb
            have hs := I2.size
            replace S2 := Lib.hid S2
            replace I2 := Lib.hid I2
            replace hX2 := Lib.hid hX2
            have zi0 : (0 : Int) ≤ i := by omega
            by_cases hlt : i < J
            · obtain ⟨jp, rfl⟩ : ∃ q, J = q + 1 := ⟨J - 1, by omega⟩
              have zJ : ((jp + 1 : Nat) : Int) - 1 = (jp : Int) := by omega
              have c1 := cell_kept (S2.out.cell jp (by omega))
              have c2 := cell_kept (S2.out.cell a (by omega))
              generalize hx : dk[jp]! = xj at c1
              generalize hy : dk[a]! = xa at c2
              replace hx := Lib.hid hx
              replace hy := Lib.hid hy
              have zj0 : (0 : Int) ≤ jp := by omega
              have zj : (jp : Int) < d.size := by omega
              have hz : (i : Int) ≤ jp := by omega
              have hzd : decide ((i : Int) ≤ jp) = true := decide_eq_true hz
              by_cases hv : cmpB xa xj < 0
              · have hvd : decide (cmpB xa xj < 0) = true := decide_eq_true hv
                have I3 := Lib.hid (I2.out.down (by omega) (by rw [hx.out, hy.out, ltB_true]; exact hv))
                have hX3 := Lib.hid (show i = jp ∨ ltB dk[a]! dk[i]! = true from hX2.out.elim (fun h => by omega) .inr)
                go_wp2_with fail
                refine wp_region_kept (by kernel_rfl) (by kernel_rfl) ?_
                repeat (go_big_quiet_step ((go_at_call 57; exact Calls.kept_by (by_any _ _ _))))
                refine wpQuiet_nil ?_
                rintro _ ⟨p, rfl⟩
                replace S2 := Lib.hid (S2.out.below p.kept)
                generalize p.world = w2 at S2
                clear c1 c2
                go_wp2_with fail
                go_roundg jp
                case measure => omega
                case rel => exact ⟨jp, by first | rfl | go_num, by omega, Nat.le_refl _, S2.out, I3.out, hX3.out⟩
              · have hvd : decide (cmpB xa xj < 0) = false := decide_eq_false hv
                go_wp2_with fail
                refine wp_region_kept (by kernel_rfl) (by kernel_rfl) ?_
                repeat (go_big_quiet_step ((go_at_call 57; exact Calls.kept_by (by_any _ _ _))))
                refine wpQuiet_nil ?_
                rintro _ ⟨p, rfl⟩
                replace S2 := Lib.hid (S2.out.below p.kept)
                generalize p.world = w2 at S2
                clear c1 c2
                go_wp2_with fail
                go_meet
                refine ⟨jp + 1, by first | rfl | go_num, hJ0, S2.out, I2.out, .inr ⟨hlt, ?_, by simp only [Nat.add_sub_cancel]; rw [hx.out, hy.out, ltB_false]; omega⟩⟩
                rcases hX2.out with h | h
                · omega
                · exact h
            · have hzd : decide ((i : Int) ≤ (J : Int) - 1) = false := decide_eq_false (by omega)
              go_wp2_with fail
              go_quiet (fail)
              replace S2 := Lib.hid (S2.out.drewN nq)
              go_wp2_with fail
              go_meet
              exact ⟨J, rfl, hJ0, S2.out, I2.out, .inl (by omega)⟩
        case rest =>
          clear S2 I2 hX1
          obtain ⟨J, rfl, hJ0, S2, I2, hX1⟩ := hcut
          have hia := I2.ai
          have hiJ := I2.iJ
          have hJb := I2.Jb
          have hs := I2.size
          replace S2 := Lib.hid S2
          replace I2 := Lib.hid I2
          have zi0 : (0 : Int) ≤ i := by omega
          have zJ0 : (1 : Int) ≤ J := by omega
          have zJ1 : (J : Int) ≤ 1000 := by omega
          rcases hX1 with h | ⟨h1, h2, h3⟩
          · subst h
            obtain ⟨ip, rfl⟩ : ∃ q, i = q + 1 := ⟨i - 1, by omega⟩
            have zI : ((ip + 1 : Nat) : Int) - 1 = (ip : Int) := by omega
            have hgt : (ip : Int) < ((ip + 1 : Nat) : Int) := by omega
            go_wp2_with fail
            go_meet
            exact ⟨ip + 1, dk, by first | rfl | go_num, S2.out, I2.out⟩
          · obtain ⟨jp, rfl⟩ : ∃ q, J = q + 1 := ⟨J - 1, by omega⟩
            simp only [Nat.add_sub_cancel] at h3
            have zI : ((jp + 1 : Nat) : Int) - 1 = (jp : Int) := by omega
            obtain ⟨hij, I4⟩ := I2.out.swap hb (by omega) h2 h3
            replace I4 := Lib.hid I4
            have zj0 : (0 : Int) ≤ jp := by omega
            have zj : (jp : Int) < d.size := by omega
            have zi : (i : Int) < d.size := by omega
            have hgt : ¬ (jp : Int) < (i : Int) := by omega
            obtain ⟨d1, d2, f1, f2, u, d3⟩ := S2.out.two i jp (by omega) (by omega)
            have S3 := Lib.hid (S2.out.swp i jp)
            generalize dk[i]! = x at d1 d2 d3 S3
            generalize dk[jp]! = y at d2 d3 S3
            generalize hE2 : swp dk i jp = e3 at S3 I4
            clear hE2 h2 h3
            go_wp2_with fail
            go_region
            generalize ((wc.setCell ⟨g, i, none⟩ (.string y)).setCell ⟨g, jp, none⟩ (.string x)).drew = w3 at S3
            clear d1 d2 d3 f1 f2
            go_wp2_with fail
            go_roundg (jp - (i + 1))
            case measure => omega
            case rel => exact ⟨i + 1, jp, e3, by go_num, by first | rfl | go_num, Nat.le_refl _, S3.out, I4.out⟩
  case rest =>
    obtain ⟨i1, dk, rfl, S2, I2⟩ := hcut
    replace S2 := Lib.hid S2
    replace I2 := Lib.hid I2
    go_wp2_with fail
    go_ret
    exact ⟨i1, dk, rfl, S2.out, I2.out⟩
end Go.Proofs.Ytgfnajpmaaomnaa
