/- Contracts of layer 3 (name), second part: the reference's Word, Language, Check, Small, Capital, Compare, of the program and of the reference. -/
import Derived.Test.YtgfnajpmaaomnaaWd
namespace Go.Proofs.Ytgfnajpmaaomnaa
open Go.ChangeShapes Go.WideShapes Go.ChangeAt Go.RowKit
set_option linter.unusedVariables false

theorem rlett_any (r : Int) (w : World) : Calls Try.prog 49 #[.int .u8 r] w fun e w' => e = .returned (.bool (letrI r)) ∧ w = w' := by
  by_cases h1 : 97 ≤ r
  · by_cases h2 : r ≤ 122
    · go_enter Try.func49, Try.ntmps49
      go_wp2
      go_ret
      exact ⟨ret_bool (by simp [letrI]; omega), rfl⟩
    · have h3 : 65 ≤ r := by omega
      have h4 : ¬ r ≤ 90 := by omega
      go_enter Try.func49, Try.ntmps49
      go_wp2
      go_ret
      exact ⟨ret_bool (by simp [letrI]; omega), rfl⟩
  · by_cases h3 : 65 ≤ r
    · by_cases h4 : r ≤ 90
      · go_enter Try.func49, Try.ntmps49
        go_wp2
        go_ret
        exact ⟨ret_bool (by simp [letrI]; omega), rfl⟩
      · go_enter Try.func49, Try.ntmps49
        go_wp2
        go_ret
        exact ⟨ret_bool (by simp [letrI]; omega), rfl⟩
    · go_enter Try.func49, Try.ntmps49
      go_wp2
      go_ret
      exact ⟨ret_bool (by simp [letrI]; omega), rfl⟩

theorem rdigt_any (r : Int) (w : World) : Calls Try.prog 50 #[.int .u8 r] w fun e w' => e = .returned (.bool (digiI r)) ∧ w = w' := by
  by_cases h1 : 48 ≤ r
  · by_cases h2 : r ≤ 57
    · go_enter Try.func50, Try.ntmps50
      go_wp2
      go_ret
      exact ⟨ret_bool (by simp [digiI]; omega), rfl⟩
    · go_enter Try.func50, Try.ntmps50
      go_wp2
      go_ret
      exact ⟨ret_bool (by simp [digiI]; omega), rfl⟩
  · go_enter Try.func50, Try.ntmps50
    go_wp2
    go_ret
    exact ⟨ret_bool (by simp [digiI]; omega), rfl⟩

set_option maxHeartbeats 1000000 in
theorem rword_any (s : ByteArray) (w : World) (hs : s.size ≤ maxLen) : Calls Try.prog 23 #[.string s] w fun e w' => e = .returned (.int .i64 (wordE s)) ∧ w = w' := by
  unfold maxLen at hs
  by_cases h0 : s.size = 0
  · have hw := Lib.hid (wordE_empty s h0)
    obtain rfl := empty_of s h0
    clear h0 hs
    go_enter Try.func23, Try.ntmps23
    go_wp2
    go_ret
    exact ⟨ret_int hw.out.symm, rfl⟩
  · have hne := not_empty s h0
    go_enter Try.func23, Try.ntmps23
    go_wp2
    go_loopg [3] s.size (fun k i wr => ∃ pos : Nat, wr = w ∧ i = .int .i64 pos ∧ pos + k = s.size ∧ ∀ j, j < pos → badI j (byteAt s j) = false)
    case atStart => exact ⟨0, rfl, rfl, by omega, fun j hj => absurd hj (Nat.not_lt_zero _)⟩
    case round =>
      obtain ⟨pos, rfl, rfl, hk, hg⟩ := hrel
      have hG := Lib.hid hg
      clear hg
      by_cases hp : pos < s.size
      · have hbt := (byteAt_get s pos hp).symm
        have HS0 := Lib.hid (goods_succ s pos hG.out)
        have HW0 := Lib.hid (wordE_bad s pos hp)
        generalize byteAt s pos = r at hbt HS0 HW0
        have hpz : 0 ≤ (pos : Int) := by omega
        cases hl : letrI r
        · by_cases hz : pos = 0
          · have hB := badI_first pos r hl hz
            have hzb : ((pos : Int) == 0) = true := by simp [hz]
            have hW := Lib.hid (HW0.out hB)
            clear hz hB HS0 HW0
            go_wp2_with fail
            refine (rlett_any r _).mono ?_
            rintro e w' ⟨rfl, rfl⟩
            go_wp2_with fail
            go_ret
            exact ⟨ret_int hW.out.symm, rfl⟩
          · have hzb : ((pos : Int) == 0) = false := by simp; omega
            cases hd : digiI r
            · by_cases h9 : r = 95
              · have hB := badI_dash pos r hl hz hd h9
                have h9b : (r != 95) = false := by simp [h9]
                have HS := Lib.hid (HS0.out hB)
                clear h9 hB HS0 HW0
                go_wp2_with fail
                refine (rlett_any r _).mono ?_
                rintro e w' ⟨rfl, rfl⟩
                go_wp2_with fail
                refine (rdigt_any r _).mono ?_
                rintro e w' ⟨rfl, rfl⟩
                go_wp2_with fail
                go_roundg (s.size - (pos + 1))
                case measure => omega
                case rel => exact ⟨pos + 1, rfl, by go_num, by omega, HS.out⟩
              · have hB := badI_else pos r hl hz hd h9
                have h9b : (r != 95) = true := by simp [h9]
                have hW := Lib.hid (HW0.out hB)
                clear h9 hB HS0 HW0
                go_wp2_with fail
                refine (rlett_any r _).mono ?_
                rintro e w' ⟨rfl, rfl⟩
                go_wp2_with fail
                refine (rdigt_any r _).mono ?_
                rintro e w' ⟨rfl, rfl⟩
                go_wp2_with fail
                go_ret
                exact ⟨ret_int hW.out.symm, rfl⟩
            · have hB := badI_digt pos r hl hz hd
              have HS := Lib.hid (HS0.out hB)
              clear hB HS0 HW0
              go_wp2_with fail
              refine (rlett_any r _).mono ?_
              rintro e w' ⟨rfl, rfl⟩
              go_wp2_with fail
              refine (rdigt_any r _).mono ?_
              rintro e w' ⟨rfl, rfl⟩
              go_wp2_with fail
              go_roundg (s.size - (pos + 1))
              case measure => omega
              case rel => exact ⟨pos + 1, rfl, by go_num, by omega, HS.out⟩
        · have hB := badI_lett pos r hl
          have HS := Lib.hid (HS0.out hB)
          clear hB HS0 HW0
          go_wp2_with fail
          refine (rlett_any r _).mono ?_
          rintro e w' ⟨rfl, rfl⟩
          go_wp2_with fail
          go_roundg (s.size - (pos + 1))
          case measure => omega
          case rel => exact ⟨pos + 1, rfl, by go_num, by omega, HS.out⟩
      · have hps : pos = s.size := by omega
        have hg2 : ∀ j, j < s.size → badI j (byteAt s j) = false := by intro j hj; exact hG.out j (by omega)
        clear hG hk
        by_cases hl : 12 < s.size
        · have hW := Lib.hid (wordE_long s hg2 hl)
          clear hg2 hps
          go_wp2
          go_ret
          exact ⟨ret_int hW.out.symm, rfl⟩
        · have hW := Lib.hid (wordE_ok s hg2 (by omega) hl)
          clear hg2 hps
          go_wp2
          go_ret
          exact ⟨ret_int hW.out.symm, rfl⟩
end Go.Proofs.Ytgfnajpmaaomnaa
