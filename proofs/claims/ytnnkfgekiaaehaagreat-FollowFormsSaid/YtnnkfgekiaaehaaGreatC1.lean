/- Walks and plain laws, part 1 of 10: Plain functions of layer 3 (name) on byte strings: what is a word, a name, small, capital, and how two strings are ordered. No program in sight; Contracts of layer 3 (name): Make, Word, Language, Check, Small, Capital, Compare, of the program and of the reference; Contracts of layer 3 (name), second part: the reference's Word, Language, Check, Small, Capital, Compare, of the program and of the reference; Contracts of slices.Index and slices.Contains at []string, and of layer 3's Language, Check, Small, Capital, Compare; Contracts of layer 3 (name): Small, Capital, Compare, of the program and of the reference; awake; Looks as values, their equality, and the law of the map keyed by them; A range over a map of looks; Equality of looks; Looks of the reference 13: what is a right look, and its contracts; Looks as lists of terminals: right looks, their order, their sum. Plain; What a call that makes memory keeps; what a slice reads; Contracts of the reference 13: both, Order, Plus, Join, Compare; of the reference 14: compare, join, range8, ranged; Contracts: the sum of two looks; Contracts: Join of the reference 13, join, range8, ranged of the reference 14; Slices of looks: what reads as a list of looks, what is owned, how it is cut; The reference 14: merge; Ascending lists of looks. Plain; The reference 14: sorted, cut, Check, Cut; The reference 14: Cut; the statements' own helpers on looks: has, SameLooks. Conditions: none beyond those that each theorem states. -/
import Derived.WalkKit
import Derived.ProofKit
import Derived.Lib.Hide
import Derived.Test.YtnnkfgekiaaehaaGreatRows
import Derived.OpenShut
import Derived.ShutString
import Derived.WalkLawsBesides
import Derived.WalkSpells
import Derived.Below
import Derived.Outline
import Derived.Deep.QuietTactic
import Derived.BigQuiet
import Derived.IntWalk
import Derived.Deep.LoopGhost
import Derived.Lib.Strings
import Derived.DeepKeys5
import Derived.Maps.Keyed
import Derived.Maps.OwnSet
import Derived.Maps.Range
import Derived.LoopTactic
import Derived.RegionTactic
import Derived.ChangeAlike
import Derived.Laws.OwnMore
import Derived.Deep.Draws
import Derived.Laws.Rows
import Derived.OwnWalk
import Derived.Laws.NewBlocks
import Derived.Laws.AppendOwn
import Derived.Maps.AppendAt
import Derived.Deep.AppendLies
import Derived.Deep.RegionHeld3
/- Plain functions of layer 3 (name) on byte strings: what is a word, a name, small, capital, and how two strings are ordered. No program in sight. -/
namespace Go.Proofs.YtnnkfgekiaaehaaGreat
set_option linter.unusedVariables false
def letrI (r : Int) : Bool := decide ((97 ≤ r ∧ r ≤ 122) ∨ (65 ≤ r ∧ r ≤ 90))
def digiI (r : Int) : Bool := decide (48 ≤ r ∧ r ≤ 57)
def badI (i : Nat) (r : Int) : Bool := !letrI r && (decide (i = 0) || (!digiI r && decide (r ≠ 95)))
def byteAt (s : ByteArray) (i : Nat) : Int := ((s.data.toList.getD i 0).toNat : Int)
def goodB (s : ByteArray) (n : Nat) : Bool := (List.range n).all fun i => !badI i (byteAt s i)
def wordE (s : ByteArray) : Int := if s.size = 0 then 5 else if goodB s s.size = true then (if 12 < s.size then 4 else 0) else 3
def langB (s : ByteArray) : Bool := decide (s = ⟨#[108, 111, 111, 107, 97, 104, 101, 97, 100]⟩) || (decide (s = ⟨#[116, 111, 107, 101, 110]⟩) || (decide (s = ⟨#[115, 101, 112, 97, 114, 97, 116, 111, 114]⟩) || decide (s = ⟨#[115, 116, 97, 114, 116]⟩)))
def checkE (s : ByteArray) : Int := if wordE s = 0 ∧ langB s = true then 12 else wordE s
def smallB (s : ByteArray) : Bool := decide (checkE s = 0) && decide (97 ≤ byteAt s 0)
def capB (s : ByteArray) : Bool := decide (checkE s = 0) && decide (byteAt s 0 < 97)
theorem byteAt_get (s : ByteArray) (i : Nat) (h : i < s.size) : byteAt s i = ((s[i]'h).toNat : Int) := by
  have h' : i < s.data.toList.length := by simpa using h
  unfold byteAt
  rw [List.getD_eq_getElem?_getD, List.getElem?_eq_getElem h']
  rfl
theorem goodB_iff (s : ByteArray) (n : Nat) : goodB s n = true ↔ ∀ i, i < n → badI i (byteAt s i) = false := by
  simp [goodB, List.all_eq_true]
theorem wordE_empty (s : ByteArray) (h : s.size = 0) : wordE s = 5 := by simp [wordE, h]
theorem wordE_bad (s : ByteArray) (i : Nat) (h : i < s.size) (hb : badI i (byteAt s i) = true) : wordE s = 3 := by
  have hg : ¬ goodB s s.size = true := by
    rw [goodB_iff]; intro hh; rw [hh i h] at hb; cases hb
  have h0 : ¬ s.size = 0 := by omega
  unfold wordE
  rw [if_neg h0, if_neg hg]
theorem wordE_long (s : ByteArray) (hg : ∀ i, i < s.size → badI i (byteAt s i) = false) (h : 12 < s.size) : wordE s = 4 := by
  have h0 : ¬ s.size = 0 := by omega
  have hg := (goodB_iff s s.size).2 hg
  simp only [wordE, h0, hg, h, if_false, if_true]
theorem wordE_ok (s : ByteArray) (hg : ∀ i, i < s.size → badI i (byteAt s i) = false) (h0 : 0 < s.size) (h : ¬ 12 < s.size) : wordE s = 0 := by
  have h0 : ¬ s.size = 0 := by omega
  have hg := (goodB_iff s s.size).2 hg
  simp only [wordE, h0, hg, h, if_false, if_true]
theorem wordE_zero (s : ByteArray) (h : wordE s = 0) : 0 < s.size ∧ s.size ≤ 12 ∧ ∀ i, i < s.size → badI i (byteAt s i) = false := by
  unfold wordE at h
  split at h
  · cases h
  · split at h
    · rename_i h0 hg
      split at h
      · cases h
      · exact ⟨by omega, by omega, (goodB_iff _ _).1 hg⟩
    · cases h
theorem word_first (s : ByteArray) (h : wordE s = 0) : letrI (byteAt s 0) = true := by
  obtain ⟨h0, _, hg⟩ := wordE_zero s h
  have := hg 0 h0
  simp only [badI, decide_true, Bool.true_or, Bool.and_true, Bool.not_eq_false'] at this
  exact this
theorem checkE_zero (s : ByteArray) (h : checkE s = 0) : wordE s = 0 ∧ langB s = false := by
  unfold checkE at h
  split at h
  · cases h
  · rename_i hn
    refine ⟨h, ?_⟩
    cases hl : langB s with
    | false => rfl
    | true => exact absurd ⟨h, hl⟩ hn
end Go.Proofs.YtnnkfgekiaaehaaGreat

/- Contracts of layer 3 (name): Make, Word, Language, Check, Small, Capital, Compare, of the program and of the reference. -/
namespace Go.Proofs.YtnnkfgekiaaehaaGreat
open Go.ChangeShapes Go.WideShapes Go.ChangeAt Go.RowKit
set_option linter.unusedVariables false
theorem ret_bool {a b : Bool} (h : a = b) : Ending.returned (.bool a) = .returned (.bool b) := by rw [h]
theorem ret_int {k : IntKind} {a b : Int} (h : a = b) : Ending.returned (.int k a) = .returned (.int k b) := by rw [h]
theorem lett_any (r : Int) (w : World) : Calls Tryz.prog 175 #[.int .i32 r] w fun e w' => e = .returned (.bool (letrI r)) ∧ w = w' := by
  by_cases h1 : 97 ≤ r
  · by_cases h2 : r ≤ 122
    · go_enter Tryz.func175, Tryz.ntmps175
      go_wp2
      go_ret
      exact ⟨ret_bool (by simp [letrI]; omega), rfl⟩
    · have h3 : 65 ≤ r := by omega
      have h4 : ¬ r ≤ 90 := by omega
      go_enter Tryz.func175, Tryz.ntmps175
      go_wp2
      go_ret
      exact ⟨ret_bool (by simp [letrI]; omega), rfl⟩
  · by_cases h3 : 65 ≤ r
    · by_cases h4 : r ≤ 90
      · go_enter Tryz.func175, Tryz.ntmps175
        go_wp2
        go_ret
        exact ⟨ret_bool (by simp [letrI]; omega), rfl⟩
      · go_enter Tryz.func175, Tryz.ntmps175
        go_wp2
        go_ret
        exact ⟨ret_bool (by simp [letrI]; omega), rfl⟩
    · go_enter Tryz.func175, Tryz.ntmps175
      go_wp2
      go_ret
      exact ⟨ret_bool (by simp [letrI]; omega), rfl⟩
theorem digt_any (r : Int) (w : World) : Calls Tryz.prog 176 #[.int .i32 r] w fun e w' => e = .returned (.bool (digiI r)) ∧ w = w' := by
  by_cases h1 : 48 ≤ r
  · by_cases h2 : r ≤ 57
    · go_enter Tryz.func176, Tryz.ntmps176
      go_wp2
      go_ret
      exact ⟨ret_bool (by simp [digiI]; omega), rfl⟩
    · go_enter Tryz.func176, Tryz.ntmps176
      go_wp2
      go_ret
      exact ⟨ret_bool (by simp [digiI]; omega), rfl⟩
  · go_enter Tryz.func176, Tryz.ntmps176
    go_wp2
    go_ret
    exact ⟨ret_bool (by simp [digiI]; omega), rfl⟩
theorem decode_bad (s : ByteArray) (pos i : Nat) (h : pos < s.size) (hb : badI i (Utf8.decode s pos).1 = false) :
    (Utf8.decode s pos).2 = 1 ∧ ((Utf8.decode s pos).1 : Int) = byteAt s pos := by
  by_cases ha : (s[pos]'h).toNat < 128
  · rw [decode_ascii s pos h ha]
    exact ⟨rfl, (byteAt_get s pos h).symm⟩
  · have := (decode_high s pos h (by omega)).1
    exfalso
    have h1 : letrI ((Utf8.decode s pos).1 : Int) = false := by simp [letrI]; omega
    have h2 : digiI ((Utf8.decode s pos).1 : Int) = false := by simp [digiI]; omega
    have h3 : ¬ ((Utf8.decode s pos).1 : Int) = 95 := by omega
    simp [badI, h1, h2, h3] at hb
theorem decode_good (s : ByteArray) (pos i : Nat) (h : pos < s.size) (hb : badI i (Utf8.decode s pos).1 = true) : badI i (byteAt s pos) = true := by
  by_cases ha : (s[pos]'h).toNat < 128
  · rw [decode_ascii s pos h ha] at hb
    rw [byteAt_get s pos h]; exact hb
  · rw [byteAt_get s pos h]
    generalize ((s[pos]'h).toNat) = b at *
    have h1 : letrI (b : Int) = false := by simp [letrI]; omega
    have h2 : digiI (b : Int) = false := by simp [digiI]; omega
    have h3 : ¬ (b : Int) = 95 := by omega
    simp [badI, h1, h2, h3]
theorem empty_of (s : ByteArray) (h : s.size = 0) : s = ⟨#[]⟩ := by
  obtain ⟨⟨l⟩⟩ := s
  have : l = [] := by simpa [ByteArray.size] using h
  rw [this]
theorem not_empty (s : ByteArray) (h : ¬ s.size = 0) : s.toList.isEmpty = false := by
  rw [ByteArray.toList_eq]
  cases hl : s.data.toList with
  | nil => exfalso; apply h; have := congrArg List.length hl; simpa using this
  | cons a l => rfl
theorem below_iter (w : World) (s : ByteArray) (p : Nat) : Below w.heap.size w (w.iter s p) := (Below.refl _ _).alloc (Nat.le_refl _) _
theorem badI_lett (i : Nat) (r : Int) (h : letrI r = true) : badI i r = false := by simp [badI, h]
theorem badI_first (i : Nat) (r : Int) (h : letrI r = false) (h0 : i = 0) : badI i r = true := by simp [badI, h, h0]
theorem badI_digt (i : Nat) (r : Int) (h : letrI r = false) (h0 : ¬ i = 0) (hd : digiI r = true) : badI i r = false := by simp [badI, h, h0, hd]
theorem badI_dash (i : Nat) (r : Int) (h : letrI r = false) (h0 : ¬ i = 0) (hd : digiI r = false) (h9 : r = 95) : badI i r = false := by simp [badI, h0, h9]
theorem badI_else (i : Nat) (r : Int) (h : letrI r = false) (h0 : ¬ i = 0) (hd : digiI r = false) (h9 : ¬ r = 95) : badI i r = true := by simp [badI, h, h0, hd, h9]
theorem goods_succ (s : ByteArray) (pos : Nat) (hg : ∀ j, j < pos → badI j (byteAt s j) = false) (h : badI pos (byteAt s pos) = false) :
    ∀ j, j < pos + 1 → badI j (byteAt s j) = false := by
  intro j hj
  by_cases h' : j < pos
  · exact hg j h'
  · obtain rfl : j = pos := by omega
    exact h
set_option maxHeartbeats 1000000 in
theorem word_any (s : ByteArray) (w : World) (hs : s.size ≤ maxLen) : Calls Tryz.prog 161 #[.string s] w fun e w' => e = .returned (.int .i64 (wordE s)) ∧ Below w.heap.size w w' := by
  unfold maxLen at hs
  by_cases h0 : s.size = 0
  · have hw := Lib.hid (wordE_empty s h0)
    obtain rfl := empty_of s h0
    clear h0 hs
    go_enter Tryz.func161, Tryz.ntmps161
    go_wp2
    go_ret
    exact ⟨ret_int hw.out.symm, Below.refl _ _⟩
  · have hne := not_empty s h0
    go_enter Tryz.func161, Tryz.ntmps161
    go_wp2
    go_loopg [3] s.size (fun k i wr => ∃ pos : Nat, wr = w.iter s pos ∧ pos + k = s.size ∧ ∀ j, j < pos → badI j (byteAt s j) = false)
    case atStart => exact ⟨0, rfl, by omega, fun j hj => absurd hj (Nat.not_lt_zero _)⟩
    case round =>
      obtain ⟨pos, rfl, hk, hg⟩ := hrel
      have hg := Lib.hid hg
      by_cases hp : pos < s.size
      · have hnx : ∀ ty, (Instr.next (.pointer (some ⟨w.heap.size, 0, none⟩)) true ty).run Tryz.prog (w.iter s pos) = _ := fun ty => run_next_any w s pos ty hp
        have HB := Lib.hid (decode_bad s pos pos hp)
        have HG := Lib.hid (decode_good s pos pos hp)
        generalize hr : (((Utf8.decode s pos).1 : Nat) : Int) = r at hnx HB HG
        generalize hv : (Utf8.decode s pos).2 = v at hnx HB HG
        clear hr hv
        have hpz : 0 ≤ (pos : Int) := by omega
        cases hl : letrI r
        · by_cases hz : pos = 0
          · have hB := Lib.hid (badI_first pos r hl hz)
            have hzb : ((pos : Int) == 0) = true := by simp [hz]
            have hW := Lib.hid (wordE_bad s pos hp (HG.out hB.out))
            clear hz
            go_wp2_with fail
            refine (lett_any r _).mono ?_
            rintro e w' ⟨rfl, rfl⟩
            go_wp2_with fail
            go_ret
            exact ⟨ret_int hW.out.symm, below_iter _ _ _⟩
          · have hzb : ((pos : Int) == 0) = false := by simp; omega
            cases hd : digiI r
            · by_cases h9 : r = 95
              · have hB := badI_dash pos r hl hz hd h9
                have h9b : (r != 95) = false := by simp [h9]
                have hB := Lib.hid hB
                clear h9
                go_wp2_with fail
                refine (lett_any r _).mono ?_
                rintro e w' ⟨rfl, rfl⟩
                go_wp2_with fail
                refine (digt_any r _).mono ?_
                rintro e w' ⟨rfl, rfl⟩
                go_wp2_with fail
                obtain ⟨hv, hrb⟩ := HB.out hB.out
                have hB2 := hB.out
                rw [hrb] at hB2
                subst hv
                go_roundg (s.size - (pos + 1))
                case measure => omega
                case rel => exact ⟨pos + 1, rfl, by omega, goods_succ s pos hg.out hB2⟩
              · have hB := Lib.hid (badI_else pos r hl hz hd h9)
                have h9b : (r != 95) = true := by simp [h9]
                have hW := Lib.hid (wordE_bad s pos hp (HG.out hB.out))
                clear h9
                go_wp2_with fail
                refine (lett_any r _).mono ?_
                rintro e w' ⟨rfl, rfl⟩
                go_wp2_with fail
                refine (digt_any r _).mono ?_
                rintro e w' ⟨rfl, rfl⟩
                go_wp2_with fail
                go_ret
                exact ⟨ret_int hW.out.symm, below_iter _ _ _⟩
            · have hB := Lib.hid (badI_digt pos r hl hz hd)
              go_wp2_with fail
              refine (lett_any r _).mono ?_
              rintro e w' ⟨rfl, rfl⟩
              go_wp2_with fail
              refine (digt_any r _).mono ?_
              rintro e w' ⟨rfl, rfl⟩
              go_wp2_with fail
              obtain ⟨hv, hrb⟩ := HB.out hB.out
              have hB2 := hB.out
              rw [hrb] at hB2
              subst hv
              go_roundg (s.size - (pos + 1))
              case measure => omega
              case rel => exact ⟨pos + 1, rfl, by omega, goods_succ s pos hg.out hB2⟩
        · have hB := Lib.hid (badI_lett pos r hl)
          go_wp2_with fail
          refine (lett_any r _).mono ?_
          rintro e w' ⟨rfl, rfl⟩
          go_wp2_with fail
          obtain ⟨hv, hrb⟩ := HB.out hB.out
          have hB2 := hB.out
          rw [hrb] at hB2
          subst hv
          go_roundg (s.size - (pos + 1))
          case measure => omega
          case rel => exact ⟨pos + 1, rfl, by omega, goods_succ s pos hg.out hB2⟩
      · have hnx : ∀ ty, (Instr.next (.pointer (some ⟨w.heap.size, 0, none⟩)) true ty).run Tryz.prog (w.iter s pos) = _ := fun ty => run_next_end w s pos ty hp
        have hps : pos = s.size := by omega
        have hg2 : ∀ j, j < s.size → badI j (byteAt s j) = false := by intro j hj; exact hg.out j (by omega)
        clear hg hk
        by_cases hl : 12 < s.size
        · have hW := Lib.hid (wordE_long s hg2 hl)
          clear hg2 hps
          go_wp2
          go_ret
          exact ⟨ret_int hW.out.symm, below_iter _ _ _⟩
        · have hW := Lib.hid (wordE_ok s hg2 (by omega) hl)
          clear hg2 hps
          go_wp2
          go_ret
          exact ⟨ret_int hW.out.symm, below_iter _ _ _⟩
end Go.Proofs.YtnnkfgekiaaehaaGreat

/- Contracts of layer 3 (name), second part: the reference's Word, Language, Check, Small, Capital, Compare, of the program and of the reference. -/
namespace Go.Proofs.YtnnkfgekiaaehaaGreat
open Go.ChangeShapes Go.WideShapes Go.ChangeAt Go.RowKit
set_option linter.unusedVariables false
theorem rlett_any (r : Int) (w : World) : Calls Tryz.prog 179 #[.int .u8 r] w fun e w' => e = .returned (.bool (letrI r)) ∧ w = w' := by
  by_cases h1 : 97 ≤ r
  · by_cases h2 : r ≤ 122
    · go_enter Tryz.func179, Tryz.ntmps179
      go_wp2
      go_ret
      exact ⟨ret_bool (by simp [letrI]; omega), rfl⟩
    · have h3 : 65 ≤ r := by omega
      have h4 : ¬ r ≤ 90 := by omega
      go_enter Tryz.func179, Tryz.ntmps179
      go_wp2
      go_ret
      exact ⟨ret_bool (by simp [letrI]; omega), rfl⟩
  · by_cases h3 : 65 ≤ r
    · by_cases h4 : r ≤ 90
      · go_enter Tryz.func179, Tryz.ntmps179
        go_wp2
        go_ret
        exact ⟨ret_bool (by simp [letrI]; omega), rfl⟩
      · go_enter Tryz.func179, Tryz.ntmps179
        go_wp2
        go_ret
        exact ⟨ret_bool (by simp [letrI]; omega), rfl⟩
    · go_enter Tryz.func179, Tryz.ntmps179
      go_wp2
      go_ret
      exact ⟨ret_bool (by simp [letrI]; omega), rfl⟩
theorem rdigt_any (r : Int) (w : World) : Calls Tryz.prog 180 #[.int .u8 r] w fun e w' => e = .returned (.bool (digiI r)) ∧ w = w' := by
  by_cases h1 : 48 ≤ r
  · by_cases h2 : r ≤ 57
    · go_enter Tryz.func180, Tryz.ntmps180
      go_wp2
      go_ret
      exact ⟨ret_bool (by simp [digiI]; omega), rfl⟩
    · go_enter Tryz.func180, Tryz.ntmps180
      go_wp2
      go_ret
      exact ⟨ret_bool (by simp [digiI]; omega), rfl⟩
  · go_enter Tryz.func180, Tryz.ntmps180
    go_wp2
    go_ret
    exact ⟨ret_bool (by simp [digiI]; omega), rfl⟩
set_option maxHeartbeats 1000000 in
theorem rword_any (s : ByteArray) (w : World) (hs : s.size ≤ maxLen) : Calls Tryz.prog 168 #[.string s] w fun e w' => e = .returned (.int .i64 (wordE s)) ∧ w = w' := by
  unfold maxLen at hs
  by_cases h0 : s.size = 0
  · have hw := Lib.hid (wordE_empty s h0)
    obtain rfl := empty_of s h0
    clear h0 hs
    go_enter Tryz.func168, Tryz.ntmps168
    go_wp2
    go_ret
    exact ⟨ret_int hw.out.symm, rfl⟩
  · have hne := not_empty s h0
    go_enter Tryz.func168, Tryz.ntmps168
    go_wp2
    go_loopg [3] s.size (fun k i wr => ∃ pos : Nat, wr = w ∧ i = .int .i64 pos ∧ pos + k = s.size ∧ ∀ j, j < pos → badI j (byteAt s j) = false)
    case atStart => exact ⟨0, rfl, rfl, by omega, fun j hj => absurd hj (Nat.not_lt_zero _)⟩
    case round =>
      obtain ⟨pos, rfl, rfl, hk, hg⟩ := hrel
      have hG := Lib.hid hg
      clear hg
      by_cases hp : pos < s.size
      · have hbt := (byteAt_get s pos hp).symm
        have HS0 := Lib.hid (goods_succ s pos hG.out)
        have HW0 := Lib.hid (wordE_bad s pos hp)
        generalize byteAt s pos = r at hbt HS0 HW0
        have hpz : 0 ≤ (pos : Int) := by omega
        cases hl : letrI r
        · by_cases hz : pos = 0
          · have hB := badI_first pos r hl hz
            have hzb : ((pos : Int) == 0) = true := by simp [hz]
            have hW := Lib.hid (HW0.out hB)
            clear hz hB HS0 HW0
            go_wp2_with fail
            refine (rlett_any r _).mono ?_
            rintro e w' ⟨rfl, rfl⟩
            go_wp2_with fail
            go_ret
            exact ⟨ret_int hW.out.symm, rfl⟩
          · have hzb : ((pos : Int) == 0) = false := by simp; omega
            cases hd : digiI r
            · by_cases h9 : r = 95
              · have hB := badI_dash pos r hl hz hd h9
                have h9b : (r != 95) = false := by simp [h9]
                have HS := Lib.hid (HS0.out hB)
                clear h9 hB HS0 HW0
                go_wp2_with fail
                refine (rlett_any r _).mono ?_
                rintro e w' ⟨rfl, rfl⟩
                go_wp2_with fail
                refine (rdigt_any r _).mono ?_
                rintro e w' ⟨rfl, rfl⟩
                go_wp2_with fail
                go_roundg (s.size - (pos + 1))
                case measure => omega
                case rel => exact ⟨pos + 1, rfl, by go_num, by omega, HS.out⟩
              · have hB := badI_else pos r hl hz hd h9
                have h9b : (r != 95) = true := by simp [h9]
                have hW := Lib.hid (HW0.out hB)
                clear h9 hB HS0 HW0
                go_wp2_with fail
                refine (rlett_any r _).mono ?_
                rintro e w' ⟨rfl, rfl⟩
                go_wp2_with fail
                refine (rdigt_any r _).mono ?_
                rintro e w' ⟨rfl, rfl⟩
                go_wp2_with fail
                go_ret
                exact ⟨ret_int hW.out.symm, rfl⟩
            · have hB := badI_digt pos r hl hz hd
              have HS := Lib.hid (HS0.out hB)
              clear hB HS0 HW0
              go_wp2_with fail
              refine (rlett_any r _).mono ?_
              rintro e w' ⟨rfl, rfl⟩
              go_wp2_with fail
              refine (rdigt_any r _).mono ?_
              rintro e w' ⟨rfl, rfl⟩
              go_wp2_with fail
              go_roundg (s.size - (pos + 1))
              case measure => omega
              case rel => exact ⟨pos + 1, rfl, by go_num, by omega, HS.out⟩
        · have hB := badI_lett pos r hl
          have HS := Lib.hid (HS0.out hB)
          clear hB HS0 HW0
          go_wp2_with fail
          refine (rlett_any r _).mono ?_
          rintro e w' ⟨rfl, rfl⟩
          go_wp2_with fail
          go_roundg (s.size - (pos + 1))
          case measure => omega
          case rel => exact ⟨pos + 1, rfl, by go_num, by omega, HS.out⟩
      · have hps : pos = s.size := by omega
        have hg2 : ∀ j, j < s.size → badI j (byteAt s j) = false := by intro j hj; exact hG.out j (by omega)
        clear hG hk
        by_cases hl : 12 < s.size
        · have hW := Lib.hid (wordE_long s hg2 hl)
          clear hg2 hps
          go_wp2
          go_ret
          exact ⟨ret_int hW.out.symm, rfl⟩
        · have hW := Lib.hid (wordE_ok s hg2 (by omega) hl)
          clear hg2 hps
          go_wp2
          go_ret
          exact ⟨ret_int hW.out.symm, rfl⟩
end Go.Proofs.YtnnkfgekiaaehaaGreat

/- Contracts of slices.Index and slices.Contains at []string, and of layer 3's Language, Check, Small, Capital, Compare. -/
namespace Go.Proofs.YtnnkfgekiaaehaaGreat
open Go.ChangeShapes Go.WideShapes Go.ChangeAt Go.RowKit
set_option linter.unusedVariables false
def Strs (w : World) (b off : Nat) (l : List ByteArray) : Prop := ∀ i, i < l.length → w.cell? ⟨b, off + i, none⟩ = some (.string (l.getD i ByteArray.empty))
def Reads (w : World) (a : Option Addr) (n : Nat) (l : List ByteArray) : Prop := n = l.length ∧ (n = 0 ∨ ∃ b off, a = some ⟨b, off, none⟩ ∧ Strs w b off l)
def idxF (s : ByteArray) : List ByteArray → Nat → Int
  | [], _ => -1
  | x :: l, k => if s = x then (k : Int) else idxF s l (k + 1)
theorem drop_cons (l : List ByteArray) (k : Nat) (h : k < l.length) : l.drop k = l.getD k ByteArray.empty :: l.drop (k + 1) := by
  rw [List.drop_eq_getElem_cons h]; simp [List.getD_eq_getElem?_getD, h]
theorem eqT (a b : ByteArray) (h : a = b) : (a.toList == b.toList) = true := by rw [h]; simp
theorem eqF (a b : ByteArray) (h : ¬ a = b) : (a.toList == b.toList) = false := by
  rw [beq_eq_false_iff_ne]
  intro h2
  apply h
  rw [ByteArray.toList_eq, ByteArray.toList_eq] at h2
  exact ByteArray.ext (Array.toList_inj.1 h2)
set_option maxHeartbeats 400000 in
theorem index_any (a : Option Addr) (n cap : Nat) (l : List ByteArray) (s : ByteArray) (w : World) (hr : Reads w a n l) (hn : n ≤ 1000000) :
    Calls Tryz.prog 181 #[.slice a n cap, .string s] w fun e w' => e = .returned (.int .i64 (idxF s l 0)) ∧ w = w' := by
  obtain ⟨rfl, hc⟩ := hr
  have hc := Lib.hid hc
  go_enter Tryz.func181, Tryz.ntmps181
  go_wp2
  go_loopg [8] l.length (fun k i wr => ∃ pos : Nat, wr = w ∧ i = .int .i64 pos ∧ pos + k = l.length ∧ idxF s (l.drop pos) pos = idxF s l 0)
  case atStart => exact ⟨0, rfl, rfl, by omega, rfl⟩
  case round =>
    obtain ⟨pos, rfl, rfl, hk, hg⟩ := hrel
    by_cases hp : pos < l.length
    · rcases hc.out with hz | ⟨b, off, rfl, hst⟩
      · omega
      · have hcell := hst pos (by omega)
        have hd := drop_cons l pos (by omega)
        generalize l.getD pos ByteArray.empty = x at hcell hd
        rw [hd] at hg
        have hpz : 0 ≤ (pos : Int) := by omega
        by_cases hx : s = x
        · have hxb := eqT s x hx
          have hG := Lib.hid (hg.symm.trans (by simp [idxF, hx]) : idxF s l 0 = pos)
          clear hg hd hc hx hst
          go_wp2_with fail
          go_ret
          exact ⟨ret_int hG.out.symm, rfl⟩
        · have hxb := eqF s x hx
          have hG := Lib.hid ((show idxF s (x :: List.drop (pos + 1) l) pos = idxF s (List.drop (pos + 1) l) (pos + 1) by simp [idxF, hx]).symm.trans hg)
          clear hg hd hc hx hst
          go_wp2_with fail
          go_roundg (l.length - (pos + 1))
          case measure => omega
          case rel => exact ⟨pos + 1, rfl, by go_num, by omega, hG.out⟩
    · have hps : pos = l.length := by omega
      have hG := Lib.hid hg
      clear hg hc
      have hf := hG.out
      rw [List.drop_of_length_le (by omega)] at hf
      have hF := Lib.hid hf
      clear hf hps hk hG
      go_wp2
      go_ret
      exact ⟨ret_int hF.out, rfl⟩
def hasB (s : ByteArray) (l : List ByteArray) : Bool := l.any fun x => decide (s = x)
theorem idxF_ge (s : ByteArray) : ∀ l k, (idxF s l k = -1 ∧ hasB s l = false) ∨ ((k : Int) ≤ idxF s l k ∧ idxF s l k < k + l.length ∧ hasB s l = true)
  | [], k => by simp [idxF, hasB]
  | x :: l, k => by
    by_cases h : s = x
    · right
      refine ⟨by simp [idxF, h], by simp [idxF, h]; omega, by simp [hasB, h]⟩
    · have := idxF_ge s l (k + 1)
      simp only [idxF, h, if_false, hasB, List.any_cons, decide_false, Bool.false_or]
      rcases this with ⟨h1, h2⟩ | ⟨h1, h2, h3⟩
      · exact .inl ⟨h1, h2⟩
      · right; refine ⟨by omega, by simp only [List.length_cons]; omega, h3⟩
theorem contains_any (a : Option Addr) (n cap : Nat) (l : List ByteArray) (s : ByteArray) (w : World) (hr : Reads w a n l) (hn : n ≤ 1000000) :
    Calls Tryz.prog 177 #[.slice a n cap, .string s] w fun e w' => e = .returned (.bool (hasB s l)) ∧ w = w' := by
  have hi : decide (0 ≤ idxF s l 0) = hasB s l := by
    rcases idxF_ge s l 0 with ⟨h1, h2⟩ | ⟨h1, _, h2⟩
    · rw [h1, h2]; decide
    · rw [h2]; simpa using h1
  have hI := Lib.hid (index_any a n cap l s w hr hn)
  rw [← hi]
  clear hr hi
  generalize idxF s l 0 = k at *
  go_enter Tryz.func177, Tryz.ntmps177
  go_wp2_with fail
  refine (hI.out).mono ?_
  rintro e w' ⟨rfl, rfl⟩
  go_wp2_with fail
  go_ret
  exact ⟨ret_bool rfl, rfl⟩
def words : List ByteArray := [⟨#[108, 111, 111, 107, 97, 104, 101, 97, 100]⟩, ⟨#[116, 111, 107, 101, 110]⟩, ⟨#[115, 101, 112, 97, 114, 97, 116, 111, 114]⟩, ⟨#[115, 116, 97, 114, 116]⟩]
theorem lang_words (s : ByteArray) : hasB s words = langB s := by simp [hasB, words, langB]
set_option maxHeartbeats 400000 in
theorem lang_any (s : ByteArray) (w : World) : Calls Tryz.prog 162 #[.string s] w fun e w' => e = .returned (.bool (langB s)) ∧ Below w.heap.size w w' := by
  go_enter Tryz.func162, Tryz.ntmps162
  go_wp2_with fail
  refine (contains_any _ 4 4 words s _ ⟨rfl, .inr ⟨w.heap.size, 0, rfl, ?_⟩⟩ (by omega)).mono ?_
  · intro i hi
    have : i = 0 ∨ i = 1 ∨ i = 2 ∨ i = 3 := by simp [words] at hi; omega
    rcases this with rfl | rfl | rfl | rfl <;> simp [words]
  · rintro e w' ⟨rfl, rfl⟩
    rw [lang_words]
    go_wp2_with fail
    go_ret
    exact ⟨rfl, (Below.refl _ _).alloc (Nat.le_refl _) _⟩
theorem dec_tl (s : ByteArray) (l : List UInt8) : decide (s = ⟨l.toArray⟩) = (s.toList == l) := by
  by_cases h : s = ⟨l.toArray⟩
  · rw [decide_eq_true h, h]; simp
  · have h2 := eqF s _ h
    have h3 : (⟨l.toArray⟩ : ByteArray).toList = l := ByteArray.toList_mk l
    rw [h3] at h2
    rw [h2, decide_eq_false h]
theorem langB_tl (s : ByteArray) : langB s = (s.toList == [108, 111, 111, 107, 97, 104, 101, 97, 100] || (s.toList == [116, 111, 107, 101, 110] || (s.toList == [115, 101, 112, 97, 114, 97, 116, 111, 114] || s.toList == [115, 116, 97, 114, 116]))) := by
  unfold langB
  rw [← dec_tl, ← dec_tl, ← dec_tl, ← dec_tl]
set_option maxHeartbeats 400000 in
theorem rlang_any (s : ByteArray) (w : World) : Calls Tryz.prog 169 #[.string s] w fun e w' => e = .returned (.bool (langB s)) ∧ w = w' := by
  have hL := Lib.hid (langB_tl s)
  generalize langB s = x at *
  go_enter Tryz.func169, Tryz.ntmps169
  go_wp2
  all_goals
    go_ret
    exact ⟨ret_bool (by rw [hL.out]; first | (simp only [Bool.or_assoc]; done) | (simp [*]; done)), rfl⟩
theorem check_any (s : ByteArray) (w : World) (hs : s.size ≤ maxLen) : Calls Tryz.prog 139 #[.string s] w fun e w' => e = .returned (.int .i64 (checkE s)) ∧ Below w.heap.size w w' := by
  by_cases h0 : wordE s = 0
  · cases hl : langB s
    · have hC : checkE s = 0 := by simp [checkE, h0, hl]
      rw [hC]
      go_enter Tryz.func139, Tryz.ntmps139
      go_wp2_with fail
      refine (word_any s _ hs).mono ?_
      rintro e w1 ⟨rfl, hb1⟩
      rw [h0]
      go_wp2_with fail
      refine (lang_any s _).mono ?_
      rintro e w2 ⟨rfl, hb2⟩
      rw [hl]
      go_wp2_with fail
      go_ret
      exact ⟨rfl, hb1.trans (hb2.mono hb1.size)⟩
    · have hC : checkE s = 12 := by simp [checkE, h0, hl]
      rw [hC]
      go_enter Tryz.func139, Tryz.ntmps139
      go_wp2_with fail
      refine (word_any s _ hs).mono ?_
      rintro e w1 ⟨rfl, hb1⟩
      rw [h0]
      go_wp2_with fail
      refine (lang_any s _).mono ?_
      rintro e w2 ⟨rfl, hb2⟩
      rw [hl]
      go_wp2_with fail
      go_ret
      exact ⟨rfl, hb1.trans (hb2.mono hb1.size)⟩
  · have hC : checkE s = wordE s := by simp [checkE, h0]
    have h0b : (wordE s == 0) = false := by simpa using h0
    rw [hC]
    clear hC h0
    go_enter Tryz.func139, Tryz.ntmps139
    go_wp2_with fail
    refine (word_any s _ hs).mono ?_
    rintro e w1 ⟨rfl, hb1⟩
    go_wp2_with fail
    go_ret
    exact ⟨rfl, hb1⟩
theorem rcheck_any (s : ByteArray) (w : World) (hs : s.size ≤ maxLen) : Calls Tryz.prog 152 #[.string s] w fun e w' => e = .returned (.int .i64 (checkE s)) ∧ w = w' := by
  by_cases h0 : wordE s = 0
  · cases hl : langB s
    · have hC : checkE s = 0 := by simp [checkE, h0, hl]
      rw [hC]
      go_enter Tryz.func152, Tryz.ntmps152
      go_wp2_with fail
      refine (rword_any s _ hs).mono ?_
      rintro e w1 ⟨rfl, rfl⟩
      rw [h0]
      go_wp2_with fail
      refine (rlang_any s _).mono ?_
      rintro e w2 ⟨rfl, rfl⟩
      rw [hl]
      go_wp2_with fail
      go_ret
      exact ⟨rfl, rfl⟩
    · have hC : checkE s = 12 := by simp [checkE, h0, hl]
      rw [hC]
      go_enter Tryz.func152, Tryz.ntmps152
      go_wp2_with fail
      refine (rword_any s _ hs).mono ?_
      rintro e w1 ⟨rfl, rfl⟩
      rw [h0]
      go_wp2_with fail
      refine (rlang_any s _).mono ?_
      rintro e w2 ⟨rfl, rfl⟩
      rw [hl]
      go_wp2_with fail
      go_ret
      exact ⟨rfl, rfl⟩
  · have hC : checkE s = wordE s := by simp [checkE, h0]
    have h0b : (wordE s == 0) = false := by simpa using h0
    rw [hC]
    clear hC h0
    go_enter Tryz.func152, Tryz.ntmps152
    go_wp2_with fail
    refine (rword_any s _ hs).mono ?_
    rintro e w1 ⟨rfl, rfl⟩
    go_wp2_with fail
    go_ret
    exact ⟨rfl, rfl⟩
end Go.Proofs.YtnnkfgekiaaehaaGreat

/- Contracts of layer 3 (name): Small, Capital, Compare, of the program and of the reference; awake. -/
namespace Go.Proofs.YtnnkfgekiaaehaaGreat
open Go.ChangeShapes Go.WideShapes Go.ChangeAt Go.RowKit
set_option linter.unusedVariables false
theorem check_pos (s : ByteArray) (h : checkE s = 0) : 0 < s.size := (wordE_zero s (checkE_zero s h).1).1
theorem small_any (s : ByteArray) (w : World) (hs : s.size ≤ maxLen) : Calls Tryz.prog 101 #[.string s] w fun e w' => e = .returned (.bool (smallB s)) ∧ Below w.heap.size w w' := by
  have hs' := Lib.hid hs
  unfold maxLen at hs
  by_cases h0 : checkE s = 0
  · have hp := check_pos s h0
    have hbt := (byteAt_get s 0 hp).symm
    have hC : smallB s = decide (97 ≤ byteAt s 0) := by simp [smallB, h0]
    rw [hC]
    generalize byteAt s 0 = r at hbt hC
    clear hC
    go_enter Tryz.func101, Tryz.ntmps101
    go_wp2_with fail
    refine (check_any s _ hs'.out).mono ?_
    rintro e w1 ⟨rfl, hb1⟩
    rw [h0]
    go_wp2_with fail
    go_ret
    exact ⟨ret_bool rfl, hb1⟩
  · have hC : smallB s = false := by simp [smallB, h0]
    rw [hC]
    have h0b : (checkE s == 0) = false := by simpa using h0
    clear h0 hC
    go_enter Tryz.func101, Tryz.ntmps101
    go_wp2_with fail
    refine (check_any s _ hs'.out).mono ?_
    rintro e w1 ⟨rfl, hb1⟩
    go_wp2_with fail
    go_ret
    exact ⟨rfl, hb1⟩
theorem cap_any (s : ByteArray) (w : World) (hs : s.size ≤ maxLen) : Calls Tryz.prog 102 #[.string s] w fun e w' => e = .returned (.bool (capB s)) ∧ Below w.heap.size w w' := by
  have hs' := Lib.hid hs
  unfold maxLen at hs
  by_cases h0 : checkE s = 0
  · have hp := check_pos s h0
    have hbt := (byteAt_get s 0 hp).symm
    have hC : capB s = decide (byteAt s 0 < 97) := by simp [capB, h0]
    rw [hC]
    generalize byteAt s 0 = r at hbt hC
    clear hC
    go_enter Tryz.func102, Tryz.ntmps102
    go_wp2_with fail
    refine (check_any s _ hs'.out).mono ?_
    rintro e w1 ⟨rfl, hb1⟩
    rw [h0]
    go_wp2_with fail
    go_ret
    exact ⟨ret_bool rfl, hb1⟩
  · have hC : capB s = false := by simp [capB, h0]
    rw [hC]
    have h0b : (checkE s == 0) = false := by simpa using h0
    clear h0 hC
    go_enter Tryz.func102, Tryz.ntmps102
    go_wp2_with fail
    refine (check_any s _ hs'.out).mono ?_
    rintro e w1 ⟨rfl, hb1⟩
    go_wp2_with fail
    go_ret
    exact ⟨rfl, hb1⟩
theorem rsmall_any (s : ByteArray) (w : World) (hs : s.size ≤ maxLen) : Calls Tryz.prog 112 #[.string s] w fun e w' => e = .returned (.bool (smallB s)) ∧ w = w' := by
  have hs' := Lib.hid hs
  unfold maxLen at hs
  by_cases h0 : checkE s = 0
  · have hp := check_pos s h0
    have hbt := (byteAt_get s 0 hp).symm
    have hf := word_first s (checkE_zero s h0).1
    have hC : smallB s = decide (97 ≤ byteAt s 0) := by simp [smallB, h0]
    rw [hC]
    generalize byteAt s 0 = r at hbt hC hf
    simp only [letrI, decide_eq_true_eq] at hf
    clear hC
    by_cases h1 : 97 ≤ r
    · have h2 : r ≤ 122 := by omega
      rw [decide_eq_true h1]
      clear hf
      go_enter Tryz.func112, Tryz.ntmps112
      go_wp2_with fail
      refine (rcheck_any s _ hs'.out).mono ?_
      rintro e w1 ⟨rfl, rfl⟩
      rw [h0]
      go_wp2_with fail
      go_ret
      exact ⟨rfl, rfl⟩
    · rw [decide_eq_false h1]
      clear hf
      go_enter Tryz.func112, Tryz.ntmps112
      go_wp2_with fail
      refine (rcheck_any s _ hs'.out).mono ?_
      rintro e w1 ⟨rfl, rfl⟩
      rw [h0]
      go_wp2_with fail
      go_ret
      exact ⟨rfl, rfl⟩
  · have hC : smallB s = false := by simp [smallB, h0]
    rw [hC]
    have h0b : (checkE s == 0) = false := by simpa using h0
    clear h0 hC
    go_enter Tryz.func112, Tryz.ntmps112
    go_wp2_with fail
    refine (rcheck_any s _ hs'.out).mono ?_
    rintro e w1 ⟨rfl, rfl⟩
    go_wp2_with fail
    go_ret
    exact ⟨rfl, rfl⟩
theorem rcap_any (s : ByteArray) (w : World) (hs : s.size ≤ maxLen) : Calls Tryz.prog 113 #[.string s] w fun e w' => e = .returned (.bool (capB s)) ∧ w = w' := by
  have hs' := Lib.hid hs
  unfold maxLen at hs
  by_cases h0 : checkE s = 0
  · have hp := check_pos s h0
    have hbt := (byteAt_get s 0 hp).symm
    have hf := word_first s (checkE_zero s h0).1
    have hC : capB s = decide (byteAt s 0 < 97) := by simp [capB, h0]
    rw [hC]
    generalize byteAt s 0 = r at hbt hC hf
    simp only [letrI, decide_eq_true_eq] at hf
    clear hC
    have h0 := Lib.hid h0
    by_cases h1 : r < 97
    · have h2 : 65 ≤ r := by omega
      have h3 : r ≤ 90 := by omega
      rw [decide_eq_true h1]
      clear hf
      go_enter Tryz.func113, Tryz.ntmps113
      go_wp2_with fail
      refine (rcheck_any s _ hs'.out).mono ?_
      rintro e w1 ⟨rfl, rfl⟩
      rw [h0.out]
      go_wp2_with fail
      go_ret
      exact ⟨rfl, rfl⟩
    · rw [decide_eq_false h1]
      have h2 : 65 ≤ r := by omega
      have h3 : ¬ r ≤ 90 := by omega
      clear hf
      go_enter Tryz.func113, Tryz.ntmps113
      go_wp2_with fail
      refine (rcheck_any s _ hs'.out).mono ?_
      rintro e w1 ⟨rfl, rfl⟩
      rw [h0.out]
      go_wp2_with fail
      go_ret
      exact ⟨ret_bool (decide_eq_false (by omega)), rfl⟩
  · have hC : capB s = false := by simp [capB, h0]
    rw [hC]
    have h0b : (checkE s == 0) = false := by simpa using h0
    clear h0 hC
    go_enter Tryz.func113, Tryz.ntmps113
    go_wp2_with fail
    refine (rcheck_any s _ hs'.out).mono ?_
    rintro e w1 ⟨rfl, rfl⟩
    go_wp2_with fail
    go_ret
    exact ⟨rfl, rfl⟩
end Go.Proofs.YtnnkfgekiaaehaaGreat

/- Looks as values, their equality, and the law of the map keyed by them. -/
namespace Go.Proofs.YtnnkfgekiaaehaaGreat
open Go.ChangeShapes Go.WideShapes Go.ChangeAt Go.RowKit
open Go.ChangeMaps (heap_setBlock_same setBlock)
open Go.MapKept (Stamped stamped_push)
set_option linter.unusedVariables false
structure Lk where
  n : Int
  a : Int
  b : Int
  c : Int
  d : Int
  deriving DecidableEq, Inhabited
def Lk.v (x : Lk) : Value := .agg #[.int .i64 x.n, .int .i64 x.a, .int .i64 x.b, .int .i64 x.c, .int .i64 x.d]
def Lk.wf (x : Lk) : Prop := (Lit.int .i64 x.n).wf = true ∧ (Lit.int .i64 x.a).wf = true ∧ (Lit.int .i64 x.b).wf = true ∧ (Lit.int .i64 x.c).wf = true ∧ (Lit.int .i64 x.d).wf = true
theorem Lk.v_inj {x y : Lk} (h : x.v = y.v) : x = y := by
  cases x; cases y; simp [Lk.v] at h; simp [h]
theorem under42 : Tryz.prog.underlying 41 = some (.struct (Tryz.prog.fieldsOf 41)) := by kernel_rfl
theorem under40 : Tryz.prog.underlying 39 = some (.array 4 3) := by kernel_rfl
theorem lookKeyed : Maps.Keyed Tryz.prog 41 := Maps.Keyed.of_law (deep_law_gate (P := Tryz.prog) (k := 41) (by kernel_rfl) (of_decide_eq_true (by kernel_rfl)) (of_decide_eq_true (by kernel_rfl)) (by kernel_rfl) (by kernel_rfl))
theorem under3 : Tryz.prog.underlying 3 = some (.int .i64) := by kernel_rfl
theorem fields42 : ∃ f0 f1 : Field, Tryz.prog.fieldsOf 41 = #[f0, f1] ∧ f0.name = "N" ∧ f0.type = 3 ∧ f0.offset = 0 ∧ f1.name = "S" ∧ f1.type = 39 ∧ f1.offset = 1 := by
  refine ⟨(Tryz.prog.fieldsOf 41)[0]!, (Tryz.prog.fieldsOf 41)[1]!, by kernel_rfl, by kernel_rfl, by kernel_rfl, by kernel_rfl, by kernel_rfl, by kernel_rfl, by kernel_rfl⟩
theorem cells42 : Tryz.prog.cellsOf 41 = 5 := by kernel_rfl
theorem cells40 : Tryz.prog.cellsOf 39 = 4 := by kernel_rfl
theorem cells3 : Tryz.prog.cellsOf 3 = 1 := by kernel_rfl
theorem size_types : ∃ d, Tryz.prog.types.size + 1 = d + 3 := ⟨Tryz.prog.types.size - 2, by have : 2 ≤ Tryz.prog.types.size := of_decide_eq_true (by kernel_rfl); omega⟩
theorem keyT42 : Tryz.prog.keyType 41 = true := by kernel_rfl
theorem lits_int (d : Nat) (n : Int) (h : (Lit.int .i64 n).wf = true) : Tryz.prog.keyLits (d + 1) 3 [.int .i64 n] = some [.int .i64 n] := by
  unfold Program.keyLits; rw [under3]; simp [h]
theorem lits_arr (d : Nat) (a b c e : Int) (ha : (Lit.int .i64 a).wf = true) (hb : (Lit.int .i64 b).wf = true) (hc : (Lit.int .i64 c).wf = true) (he : (Lit.int .i64 e).wf = true) :
    Tryz.prog.keyLits (d + 2) 39 [.int .i64 a, .int .i64 b, .int .i64 c, .int .i64 e] = some [.int .i64 a, .int .i64 b, .int .i64 c, .int .i64 e] := by
  unfold Program.keyLits; rw [under40]
  simp [cells40, cells3, List.range_succ, lits_int, ha, hb, hc, he]
theorem look_key (x : Lk) (h : x.wf) : ∃ l, keyOf Tryz.prog 41 x.v = some l := by
  obtain ⟨h0, h1, h2, h3, h4⟩ := h
  obtain ⟨d, hd⟩ := size_types
  obtain ⟨f0, f1, hf, n0, t0, o0, n1, t1, o1⟩ := fields42
  have hk : Tryz.prog.keyLits (Tryz.prog.types.size + 1) 41 x.v.cells.toList = some [.int .i64 x.n, .int .i64 x.a, .int .i64 x.b, .int .i64 x.c, .int .i64 x.d] := by
    rw [hd]; unfold Program.keyLits; rw [under42, hf]
    simp [Lk.v, Value.cells, cells42, cells40, cells3, n0, t0, o0, n1, t1, o1, lits_int, lits_arr, h0, h1, h2, h3, h4]
  have hfo : Value.formed Tryz.prog 41 x.v = true := by
    simp [Value.formed, Lk.v, cells42]
  unfold keyOf
  rw [under42]
  show ∃ l, (if (Tryz.prog.keyType 41 && Value.formed Tryz.prog 41 x.v) = true then (Tryz.prog.keyLits (Tryz.prog.types.size + 1) 41 x.v.cells.toList).map (fun ls => Lit.string (keyBytes ls)) else none) = some l
  rw [if_pos (by rw [keyT42, hfo]; rfl), hk]
  exact ⟨_, rfl⟩
theorem under66 : Tryz.prog.underlying 68 = some (.map 41 4) := by kernel_rfl
theorem under67 : Tryz.prog.underlying 69 = some (.map 41 4) := by kernel_rfl
def MapL (w : World) (b : Nat) (s : List Lk) : Prop :=
  ∃ (es : Array MapEntry) (clock : Nat), w.heap[b]? = some (.map es clock) ∧ es.toList.map (·.key) = s.map Lk.v ∧ (∀ e ∈ es.toList, e.val = .bool true) ∧ (∀ x ∈ s, x.wf) ∧ s.Nodup ∧ Stamped es clock
theorem info4 : (Tryz.prog.info? 4).map (·.zero) = some (some (.bool false)) := by kernel_rfl
theorem zero_bool (w : World) : (zeroValue 4).run Tryz.prog w = .ok (.bool false) w := by
  have h := info4
  cases hi : Tryz.prog.info? 4 with
  | none => rw [hi] at h; cases h
  | some i =>
    rw [hi] at h
    simp at h
    simp [zeroValue, typeInfo, hi, h]
section
variable (w : World) {ops : Array Oper} {rest : List Oper} {o : Oper} {a : Act} {Q : Exit → Act → World → Prop}
end
end Go.Proofs.YtnnkfgekiaaehaaGreat

/- A range over a map of looks. -/
namespace Go.Proofs.YtnnkfgekiaaehaaGreat
open Go.ChangeShapes Go.WideShapes Go.ChangeAt Go.RowKit
open Go.ChangeMaps (heap_setBlock_same setBlock)
open Go.MapKept
set_option linter.unusedVariables false
def IterL (w : World) (b r : Nat) (s out : List Lk) : Prop :=
  ∃ (es : Array MapEntry) (clock since : Nat) (seen : Array Nat) (c0 : Nat), w.heap[b]? = some (.map es clock) ∧ (es.toList.map (·.key) = s.map Lk.v ∧ (∀ e ∈ es.toList, e.val = .bool true) ∧ (∀ x ∈ s, x.wf) ∧ s.Nodup ∧ Stamped es clock) ∧
    w.heap[r]? = some (.mapIter (some b) since seen c0) ∧ (∀ x ∈ es.toList, x.born < since) ∧ since ≤ c0 ∧ since ≤ clock ∧ (∀ e ∈ es.toList, ∀ x : Lk, e.key = x.v → (seen.contains e.born = true ↔ x ∈ out)) ∧ out.Nodup ∧ (∀ x ∈ out, x ∈ s)
theorem IterL.map {w : World} {b r : Nat} {s out : List Lk} (h : IterL w b r s out) : MapL w b s := by
  obtain ⟨es, clock, since, seen, c0, hb, h1, _⟩ := h
  exact ⟨es, clock, hb, h1⟩
theorem mapl_range {t : TypeId} (ht : Tryz.prog.underlying t = some (.map 41 4)) {w : World} {b : Nat} {s : List Lk} (h : MapL w b s) :
    ∃ w', (Instr.range t (.map (some b))).run Tryz.prog w = .ok (.pointer (some ⟨w.heap.size, 0, none⟩)) w' ∧ IterL w' b w.heap.size s [] ∧ Below w.heap.size w w' := by
  obtain ⟨es, clock, hb, h1⟩ := h
  have hlt : b < w.heap.size := (Array.getElem?_eq_some_iff.1 hb).1
  refine ⟨_, run_range_map w t 41 4 b es clock ht hb, ⟨es, clock, clock, #[], clock, ((MapKept.heap_alloc w _).2 b hlt).trans hb, h1, (MapKept.heap_alloc w _).1, h1.2.2.2.2.1, Nat.le_refl _, Nat.le_refl _, ?_, by simp, by simp⟩, (Below.refl _ _).alloc (Nat.le_refl _) _⟩
  intro e he x hx
  simp
theorem iterl_next {w : World} {b r : Nat} {s out : List Lk} (h : IterL w b r s out) (ty : TypeId) :
    ((∀ x ∈ s, x ∈ out) ∧ (Instr.next (.pointer (some ⟨r, 0, none⟩)) false ty).run Tryz.prog w = .ok (.tuple #[.bool false]) w) ∨
    ∃ x ∈ s, x ∉ out ∧ ∃ w' : World, (Instr.next (.pointer (some ⟨r, 0, none⟩)) false ty).run Tryz.prog w = .ok (.tuple #[.bool true, x.v, .bool true]) w' ∧ IterL w' b r s (out ++ [x]) ∧
      (Instr.entry (.pointer (some ⟨r, 0, none⟩))).run Tryz.prog w' = .ok (.tuple #[x.v, .bool true]) w' ∧ w.grownBy w' (some r) ∧ w'.heap.size = w.heap.size := by
  obtain ⟨es, clock, since, seen, c0, hb, ⟨hk, hv, hw, hn, hst⟩, hr, hold, hsc, hsk, hin, hno, hsub⟩ := h
  rcases run_next_at (P := Tryz.prog) w ty r b since c0 seen es clock hr hb hold hsc with ⟨h0, hrun⟩ | ⟨e, he, w1, hal, hrun⟩
  · left
    refine ⟨fun x hx => ?_, hrun⟩
    have : x.v ∈ es.toList.map (·.key) := by rw [hk]; exact List.mem_map_of_mem hx
    obtain ⟨e, he, hee⟩ := List.mem_map.mp this
    exact (hin e he x hee).mp (all_seen es seen h0 e he)
  · right
    obtain ⟨hem, hes⟩ := mem_left he
    have : e.key ∈ s.map Lk.v := by rw [← hk]; exact List.mem_map_of_mem hem
    obtain ⟨x, hx, hxe⟩ := List.mem_map.mp this
    have hxo : x ∉ out := fun hm => by
      have := (hin e hem x hxe.symm).mpr hm
      rw [hes] at this; cases this
    have hr1 : w1.heap[r]? = some (.mapIter (some b) since seen c0) := by rcases hal with rfl | rfl <;> exact hr
    have hb1 : w1.heap[b]? = some (.map es clock) := by rcases hal with rfl | rfl <;> exact hb
    have hset := heap_set (o' := .mapIter (some b) since (seen.push e.born) clock) hr1
    have hne : b ≠ r := fun h => by rw [h, hr] at hb; cases hb
    have hb' := (hset.2 b hne).trans hb1
    have hS := (stamped_iff es clock).1 hst
    refine ⟨x, hx, hxo, _, by rw [hrun, ← hxe, hv e hem], ⟨es, clock, since, seen.push e.born, clock, hb', ⟨hk, hv, hw, hn, hst⟩, hset.1, hold, hsk, hsk, ?_, ?_, ?_⟩, ?_, ?_, ?_⟩
    · intro e' he' y hy
      rw [contains_push, Bool.or_eq_true, hin e' he' y hy, List.mem_append]
      constructor
      · rintro (h | h)
        · exact .inl h
        · right
          have hbe : e'.born = e.born := by simpa using h
          have := born_inj hS.2.1 he' hem hbe
          rw [this] at hy
          rw [hy] at hxe
          simp [Lk.v_inj hxe]
      · rintro (h | h)
        · exact .inl h
        · right
          have hyx : y = x := by simpa using h
          subst hyx
          have := entry_eq_of_key hS.2.2 he' hem (hy.trans hxe)
          simp [this]
    · rw [List.nodup_append]
      refine ⟨hno, by simp, ?_⟩
      intro a ha c hc
      have : c = x := by simpa using hc
      rw [this]; intro e; exact hxo (e ▸ ha)
    · intro y hy
      rcases List.mem_append.mp hy with hy | hy
      · exact hsub y hy
      · have : y = x := by simpa using hy
        rw [this]; exact hx
    · rw [run_entry_at _ r b since seen es clock e hset.1 hb' hem hS.2.1, ← hxe, hv e hem]
    · rcases hal with rfl | rfl <;> exact ⟨rfl, rfl, rfl, by simp [setBlock], fun i _ hi => hset.2 i (fun e1 => hi (by rw [e1]))⟩
    · rcases hal with rfl | rfl <;> simp [setBlock]
theorem MapL.grown {w w' : World} {b : Nat} {s : List Lk} {row : Option Nat} (h : MapL w b s) (hg : w.grownBy w' row) (hb : some b ≠ row) : MapL w' b s := by
  obtain ⟨es, clock, h1, h2⟩ := h
  exact ⟨es, clock, (hg.block b (Array.getElem?_eq_some_iff.1 h1).1 hb).trans h1, h2⟩
theorem IterL.grown {w w' : World} {b r : Nat} {s out : List Lk} {row : Option Nat} (h : IterL w b r s out) (hg : w.grownBy w' row) (hb : some b ≠ row) (hr : some r ≠ row) : IterL w' b r s out := by
  obtain ⟨es, clock, since, seen, c0, h1, h2, h3, h4⟩ := h
  exact ⟨es, clock, since, seen, c0, (hg.block b (Array.getElem?_eq_some_iff.1 h1).1 hb).trans h1, h2, (hg.block r (Array.getElem?_eq_some_iff.1 h3).1 hr).trans h3, h4⟩
section
variable (w : World) {ops : Array Oper} {rest : List Oper} {o : Oper} {a : Act} {Q : Exit → Act → World → Prop}
theorem wpList_range_look {t : TypeId} (ht : Tryz.prog.underlying t = some (.map 41 4)) (hg : o.guard = none) (m : Operand) (hop : o.op = Op.range t m) (b : Nat) (s : List Lk) (hm : a.eval m = .map (some b)) (h : MapL w b s)
    (hK : ∀ w', IterL w' b w.heap.size s [] → Below w.heap.size w w' → wpList Tryz.prog ops Q rest (a.put o.dst (.pointer (some ⟨w.heap.size, 0, none⟩))) w') : wpList Tryz.prog ops Q (o :: rest) a w := by
  refine wpList_plain hg fun K' hK' => ?_
  obtain ⟨w', hrun, r1, r2⟩ := mapl_range ht h
  unfold Oper.wp
  simp [execOp, hop, hm, hrun, Result.andThen]
  exact hK' _ _ (hK w' r1 r2)
theorem wpList_next_look (hg : o.guard = none) (it : Operand) (hop : o.op = Op.next it false) (b r : Nat) (s out : List Lk) (hit : a.eval it = .pointer (some ⟨r, 0, none⟩)) (h : IterL w b r s out)
    (hDone : (∀ x ∈ s, x ∈ out) → wpList Tryz.prog ops Q rest (a.put o.dst (.tuple #[.bool false])) w)
    (hMore : ∀ (x : Lk) (w' : World), x ∈ s → x ∉ out → IterL w' b r s (out ++ [x]) → (Instr.entry (.pointer (some ⟨r, 0, none⟩))).run Tryz.prog w' = .ok (.tuple #[x.v, .bool true]) w' → w.grownBy w' (some r) → w'.heap.size = w.heap.size →
      wpList Tryz.prog ops Q rest (a.put o.dst (.tuple #[.bool true, x.v, .bool true])) w') : wpList Tryz.prog ops Q (o :: rest) a w := by
  refine wpList_plain hg fun K' hK' => ?_
  unfold Oper.wp
  rcases iterl_next h o.type with ⟨h0, hrun⟩ | ⟨x, hx, hxo, w', hrun, r1, r2, r3, r4⟩
  · simp [execOp, hop, hit, hrun, Result.andThen]
    exact hK' _ _ (hDone h0)
  · simp [execOp, hop, hit, hrun, Result.andThen]
    exact hK' _ _ (hMore x w' hx hxo r1 r2 r3 r4)
end
end Go.Proofs.YtnnkfgekiaaehaaGreat

/- Equality of looks. -/
namespace Go.Proofs.YtnnkfgekiaaehaaGreat
open Go.ChangeShapes Go.WideShapes Go.ChangeAt Go.RowKit
set_option linter.unusedVariables false
theorem look_same (x y : Lk) (hx : x.wf) (hy : y.wf) (w : World) : (Op.equal 41 x.v y.v).run Tryz.prog w = .ok (decide (x = y)) w := by
  obtain ⟨lx, h1⟩ := look_key x hx
  obtain ⟨ly, h2⟩ := look_key y hy
  have hm : ∃ m, m ≤ 10000 ∧ Tryz.prog.keyTypeAt m 41 = true := ⟨3, by omega, by kernel_rfl⟩
  obtain ⟨m, hm1, hm2⟩ := hm
  obtain ⟨r, hr, hiff⟩ := run_equal_deep (P := Tryz.prog) w hm1 hm2 (by kernel_rfl) h1 h2
  rw [hr]
  have : r = decide (x = y) := by
    by_cases e : x = y
    · subst e
      rw [h1] at h2
      cases h2
      simp [hiff]
    · have : r ≠ true := fun h => e (by
        have hl := hiff.mp h
        rw [← hl] at h2
        exact Lk.v_inj (lookKeyed.inj h1 h2))
      cases r
      · simp [e]
      · exact absurd rfl this
  rw [this]
theorem look_neq (x y : Lk) (hx : x.wf) (hy : y.wf) (w : World) : (binOp .neq 41 x.v y.v).run Tryz.prog w = .ok (.bool (!decide (x = y))) w := by
  have h := look_same x y hx hy w
  simp only [Lk.v] at h ⊢
  simp only [binOp]
  simp [h, Result.andThen]
end Go.Proofs.YtnnkfgekiaaehaaGreat

/- Looks of the reference 13: what is a right look, and its contracts. -/
namespace Go.Proofs.YtnnkfgekiaaehaaGreat
open Go.ChangeShapes Go.WideShapes Go.ChangeAt Go.RowKit
set_option linter.unusedVariables false
def Lk.s (x : Lk) (i : Nat) : Int := match i with | 0 => x.a | 1 => x.b | 2 => x.c | 3 => x.d | _ => 0
theorem Lk.cellAt (x : Lk) (i : Nat) (h : i < 4) : (#[Value.int .i64 x.n, Value.int .i64 x.a, Value.int .i64 x.b, Value.int .i64 x.c, Value.int .i64 x.d] : Array Value)[1 + i]? = some (.int .i64 (x.s i)) := by
  rcases i with _ | _ | _ | _ | i <;> first | rfl | omega
def padB (x : Lk) : Bool := (List.range 4).all fun i => decide ((i : Int) < x.n) || decide (x.s i = 0)
def inB (x : Lk) (m : Int) : Bool := (List.range 4).all fun i => decide (x.n ≤ i) || (decide (0 ≤ x.s i) && decide (x.s i < m))
def lchk (x : Lk) (m : Int) : Int := if m < 1 ∨ 8 < m then 2 else if x.n < 0 ∨ 4 < x.n then 3 else if padB x = false then 3 else if inB x m = false then 14 else 0
theorem padB_iff (x : Lk) : padB x = true ↔ ∀ i : Nat, i < 4 → x.n ≤ i → x.s i = 0 := by
  simp [padB, List.all_eq_true]
  constructor
  · intro h i h4 hn; rcases h i h4 with h | h
    · omega
    · exact h
  · intro h i h4
    by_cases hn : (i : Int) < x.n
    · exact .inl hn
    · exact .inr (h i h4 (by omega))
theorem inB_iff (x : Lk) (m : Int) : inB x m = true ↔ ∀ i : Nat, i < 4 → (i : Int) < x.n → 0 ≤ x.s i ∧ x.s i < m := by
  simp [inB, List.all_eq_true]
  constructor
  · intro h i h4 hn; rcases h i h4 with h | h
    · omega
    · exact h
  · intro h i h4
    by_cases hn : x.n ≤ (i : Int)
    · exact .inl hn
    · exact .inr (h i h4 (by omega))
set_option maxHeartbeats 1000000 in
theorem lcheck_any (x : Lk) (m : Int) (w : World) : Calls Tryz.prog 55 #[x.v, .int .i64 m] w fun e w' => e = .returned (.int .i64 (lchk x m)) ∧ Below w.heap.size w w' := by
  unfold Lk.v
  by_cases h1 : m < 1
  · have hE : lchk x m = 2 := by unfold lchk; rw [if_pos (by omega)]
    rw [hE]; clear hE
    go_enter Tryz.func55, Tryz.ntmps55
    go_wp2_with fail
    go_ret
    exact ⟨rfl, (Below.refl _ _).alloc (Nat.le_refl _) _⟩
  by_cases h2 : 8 < m
  · have hE : lchk x m = 2 := by unfold lchk; rw [if_pos (by omega)]
    rw [hE]; clear hE
    go_enter Tryz.func55, Tryz.ntmps55
    go_wp2_with fail
    go_ret
    exact ⟨rfl, (Below.refl _ _).alloc (Nat.le_refl _) _⟩
  by_cases h3 : x.n < 0
  · have hE : lchk x m = 3 := by unfold lchk; rw [if_neg (by omega), if_pos (by omega)]
    rw [hE]; clear hE
    go_enter Tryz.func55, Tryz.ntmps55
    go_wp2_with fail
    go_ret
    exact ⟨rfl, (Below.refl _ _).alloc (Nat.le_refl _) _⟩
  by_cases h4 : 4 < x.n
  · have hE : lchk x m = 3 := by unfold lchk; rw [if_neg (by omega), if_pos (by omega)]
    rw [hE]; clear hE
    go_enter Tryz.func55, Tryz.ntmps55
    go_wp2_with fail
    go_ret
    exact ⟨rfl, (Below.refl _ _).alloc (Nat.le_refl _) _⟩
  have hE : lchk x m = if padB x = false then 3 else if inB x m = false then 14 else 0 := by unfold lchk; rw [if_neg (by omega), if_neg (by omega)]
  rw [hE]; clear hE
  obtain ⟨n, hn⟩ := Int.eq_ofNat_of_zero_le (show 0 ≤ x.n by omega)
  have hP := Lib.hid (padB_iff x)
  have hI := Lib.hid (inB_iff x m)
  have hC := Lib.hid (Lk.cellAt x)
  have hN := Lib.hid hn
  generalize padB x = p at hP ⊢
  generalize inB x m = q at hI ⊢
  generalize hs : x.s = s at *
  clear hs
  generalize hxn : x.n = xn at *
  clear hxn
  subst hn
  go_enter Tryz.func55, Tryz.ntmps55
  go_wp2_with fail
  go_loopg [5] 4 (fun k i wr => ∃ j : Nat, wr = w.alloc (.cells #[.int .i64 n, .int .i64 x.a, .int .i64 x.b, .int .i64 x.c, .int .i64 x.d] 41) ∧ i = .int .i64 j ∧ n ≤ j ∧ j ≤ 4 ∧ j + k = 4 + n ∧ ∀ i : Nat, n ≤ i → i < j → s i = 0)
  case atStart => exact ⟨n, rfl, rfl, by omega, by omega, by omega, by intros; omega⟩
  case round =>
    obtain ⟨j, rfl, rfl, hj1, hj2, hj3, hg⟩ := hrel
    replace hg := Lib.hid hg
    replace hj3 := Lib.hid hj3
    by_cases hj : j < 4
    · have hc := hC.out j hj
      by_cases hz : s j = 0
      · have hzb : (s j != 0) = false := by simp [hz]
        have hG := Lib.hid (show ∀ i : Nat, n ≤ i → i < j + 1 → s i = 0 by
          intro i h1 h2
          by_cases e : i = j
          · rw [e]; exact hz
          · exact hg.out i h1 (by omega))
        clear hz
        go_wp2_with fail
        go_roundg (4 + n - (j + 1))
        case measure => have := hj3.out; omega
        case rel => exact ⟨j + 1, rfl, by go_num, by omega, by omega, by have := hj3.out; omega, hG.out⟩
      · have hzb : (s j != 0) = true := by simp [hz]
        have hpF : p = false := by
          cases p
          · rfl
          · exact absurd (hP.out.1 rfl j hj (by omega)) hz
        subst hpF
        clear hz
        go_wp2_with fail
        go_ret
        exact ⟨rfl, (Below.refl _ _).alloc (Nat.le_refl _) _⟩
    · have hpT : p = true := hP.out.2 fun i h4 hn => hg.out i (by omega) (by omega)
      subst hpT
      go_wp2_with fail
      go_loopg [6] n (fun k i wr => ∃ j : Nat, wr = w.alloc (.cells #[.int .i64 n, .int .i64 x.a, .int .i64 x.b, .int .i64 x.c, .int .i64 x.d] 41) ∧ i = .int .i64 j ∧ j + k = n ∧ ∀ i : Nat, i < j → 0 ≤ s i ∧ s i < m)
      case atStart => exact ⟨0, rfl, rfl, by omega, by intros; omega⟩
      case round =>
        obtain ⟨j, rfl, rfl, hj3, hg⟩ := hrel
        replace hg := Lib.hid hg
        replace hj3 := Lib.hid hj3
        by_cases hj : j < n
        · have hj4 : j < 4 := by omega
          have hc := hC.out j hj4
          by_cases hz : s j < 0
          · have hqF : q = false := by
              cases q
              · rfl
              · exact absurd (hI.out.1 rfl j hj4 (by omega)).1 (by omega)
            subst hqF
            go_wp2_with fail
            go_ret
            exact ⟨rfl, (Below.refl _ _).alloc (Nat.le_refl _) _⟩
          · by_cases hz2 : s j < m
            · have hG := Lib.hid (show ∀ i : Nat, i < j + 1 → 0 ≤ s i ∧ s i < m by
                intro i h1
                by_cases e : i = j
                · rw [e]; exact ⟨by omega, hz2⟩
                · exact hg.out i (by omega))
              go_wp2_with fail
              go_roundg (n - (j + 1))
              case measure => have := hj3.out; omega
              case rel => exact ⟨j + 1, rfl, by go_num, by have := hj3.out; omega, hG.out⟩
            · have hqF : q = false := by
                cases q
                · rfl
                · exact absurd (hI.out.1 rfl j hj4 (by omega)).2 hz2
              subst hqF
              go_wp2_with fail
              go_ret
              exact ⟨rfl, (Below.refl _ _).alloc (Nat.le_refl _) _⟩
        · have hqT : q = true := hI.out.2 fun i h4 hn => hg.out i (by omega)
          subst hqT
          go_wp2_with fail
          go_ret
          exact ⟨rfl, (Below.refl _ _).alloc (Nat.le_refl _) _⟩
end Go.Proofs.YtnnkfgekiaaehaaGreat

/- Looks as lists of terminals: right looks, their order, their sum. Plain. -/
namespace Go.Proofs.YtnnkfgekiaaehaaGreat
set_option linter.unusedVariables false
def Lk.l (x : Lk) : List Int := [x.a, x.b, x.c, x.d].take x.n.toNat
def Lk.of (t : List Int) : Lk := ⟨t.length, t.getD 0 0, t.getD 1 0, t.getD 2 0, t.getD 3 0⟩
def Lk.right (x : Lk) (m : Int) : Prop := lchk x m = 0
theorem of_s (t : List Int) (i : Nat) (h : t.length ≤ 4) : (Lk.of t).s i = t.getD i 0 := by
  rcases i with _ | _ | _ | _ | i <;> first | rfl | (simp [Lk.of, Lk.s]; rw [List.getElem?_eq_none (by omega)]; rfl)
theorem of_n (t : List Int) : (Lk.of t).n = t.length := rfl
theorem right_iff (x : Lk) (m : Int) : x.right m ↔ (1 ≤ m ∧ m ≤ 8) ∧ (0 ≤ x.n ∧ x.n ≤ 4) ∧ (∀ i : Nat, i < 4 → x.n ≤ i → x.s i = 0) ∧ (∀ i : Nat, i < 4 → (i : Int) < x.n → 0 ≤ x.s i ∧ x.s i < m) := by
  rw [← padB_iff, ← inB_iff]
  unfold Lk.right lchk
  constructor
  · intro h
    split at h
    · cases h
    · split at h
      · cases h
      · split at h
        · cases h
        · split at h
          · cases h
          · rename_i h1 h2 h3 h4
            exact ⟨by omega, by omega, by simpa using h3, by simpa using h4⟩
  · rintro ⟨h1, h2, h3, h4⟩
    rw [if_neg (by omega), if_neg (by omega), if_neg (by simp [h3]), if_neg (by simp [h4])]
theorem l_of (t : List Int) (h : t.length ≤ 4) : (Lk.of t).l = t := by
  rcases t with _ | ⟨a, _ | ⟨b, _ | ⟨c, _ | ⟨d, _ | ⟨e, t⟩⟩⟩⟩⟩ <;> first | rfl | (exfalso; simp at h)
theorem right_l {x : Lk} {m : Int} (h : x.right m) : (x.l.length : Int) = x.n ∧ x.l.length ≤ 4 ∧ Lk.of x.l = x ∧ (∀ v ∈ x.l, 0 ≤ v ∧ v < m) := by
  obtain ⟨hm, hn, hp, hi⟩ := (right_iff x m).1 h
  obtain ⟨n, a, b, c, d⟩ := x
  have hp0 := hp 0 (by omega)
  have hp1 := hp 1 (by omega)
  have hp2 := hp 2 (by omega)
  have hp3 := hp 3 (by omega)
  have hi0 := hi 0 (by omega)
  have hi1 := hi 1 (by omega)
  have hi2 := hi 2 (by omega)
  have hi3 := hi 3 (by omega)
  simp only [Lk.s] at *
  obtain ⟨k, rfl⟩ := Int.eq_ofNat_of_zero_le hn.1
  have : k = 0 ∨ k = 1 ∨ k = 2 ∨ k = 3 ∨ k = 4 := by omega
  rcases this with rfl | rfl | rfl | rfl | rfl
  · have h0 := hp0 (by omega); have h1 := hp1 (by omega); have h2 := hp2 (by omega); have h3 := hp3 (by omega)
    subst h0 h1 h2 h3; refine ⟨rfl, ?_, rfl, ?_⟩ <;> simp [Lk.l]
  · have h1 := hp1 (by omega); have h2 := hp2 (by omega); have h3 := hp3 (by omega)
    subst h1 h2 h3; simp [Lk.l, Lk.of]; exact hi0 (by omega)
  · have h2 := hp2 (by omega); have h3 := hp3 (by omega)
    subst h2 h3; simp [Lk.l, Lk.of]; exact ⟨hi0 (by omega), hi1 (by omega)⟩
  · have h3 := hp3 (by omega)
    subst h3; simp [Lk.l, Lk.of]; exact ⟨hi0 (by omega), hi1 (by omega), hi2 (by omega)⟩
  · simp [Lk.l, Lk.of]; exact ⟨hi0 (by omega), hi1 (by omega), hi2 (by omega), hi3 (by omega)⟩
theorem of_right {t : List Int} {m : Int} (hm : 1 ≤ m ∧ m ≤ 8) (h : t.length ≤ 4) (hv : ∀ v ∈ t, 0 ≤ v ∧ v < m) : (Lk.of t).right m := by
  rw [right_iff]
  refine ⟨hm, by rw [of_n]; omega, ?_, ?_⟩
  · intro i h4 hn
    rw [of_n] at hn
    rw [of_s t i h, List.getD_eq_getElem?_getD, List.getElem?_eq_none (by omega)]; rfl
  · intro i h4 hn
    rw [of_n] at hn
    have hlt : i < t.length := by omega
    rw [of_s t i h, List.getD_eq_getElem?_getD, List.getElem?_eq_getElem hlt]
    exact hv _ (List.getElem_mem hlt)
theorem s_getD {x : Lk} {m : Int} (h : x.right m) (i : Nat) : x.s i = x.l.getD i 0 := by
  obtain ⟨h1, h2, h3, h4⟩ := right_l h
  have h5 := of_s x.l i h2
  rw [h3] at h5
  exact h5
theorem right_ext {x y : Lk} {m k : Int} (hx : x.right m) (hy : y.right k) (h : x.l = y.l) : x = y := by
  rw [← (right_l hx).2.2.1, ← (right_l hy).2.2.1, h]
theorem right_mono {x : Lk} {m k : Int} (hx : x.right m) (h1 : m ≤ k) (h2 : k ≤ 8) : x.right k := by
  have hm := ((right_iff x m).1 hx).1
  obtain ⟨_, h4, h5, h6⟩ := right_l hx
  rw [← h5]
  exact of_right (by omega) h4 fun v hv => ⟨(h6 v hv).1, by have := (h6 v hv).2; omega⟩
theorem right_wf {x : Lk} {m : Int} (h : x.right m) : x.wf := by
  obtain ⟨⟨h1, h2⟩, ⟨h3, h4⟩, h5, h6⟩ := (right_iff x m).1 h
  have hs : ∀ i : Nat, i < 4 → 0 ≤ x.s i ∧ x.s i < 8 := by
    intro i hi
    by_cases hn : x.n ≤ i
    · rw [h5 i hi hn]; omega
    · have := h6 i hi (by omega); omega
  have w : ∀ n : Int, 0 ≤ n → n < 8 → (Lit.int .i64 n).wf = true := by
    intro n h0 h8
    have e1 : IntKind.i64.min = -9223372036854775808 := by decide
    have e2 : IntKind.i64.max = 9223372036854775807 := by decide
    simp [Lit.wf, e1, e2]
    omega
  exact ⟨w _ h3 (by omega), w _ (hs 0 (by omega)).1 (hs 0 (by omega)).2, w _ (hs 1 (by omega)).1 (hs 1 (by omega)).2, w _ (hs 2 (by omega)).1 (hs 2 (by omega)).2, w _ (hs 3 (by omega)).1 (hs 3 (by omega)).2⟩
def cmpI : List Int → List Int → Int
  | [], [] => 0
  | [], _ :: _ => -1
  | _ :: _, [] => 1
  | a :: l, b :: m => if a < b then -1 else if b < a then 1 else cmpI l m
def lcmp (x y : Lk) : Int := cmpI x.l y.l
theorem cmpI_refl : ∀ l, cmpI l l = 0
  | [] => rfl
  | a :: l => by simp [cmpI, cmpI_refl l]
theorem cmpI_eq : ∀ l m, cmpI l m = 0 → l = m
  | [], [], _ => rfl
  | [], _ :: _, h => by simp [cmpI] at h
  | _ :: _, [], h => by simp [cmpI] at h
  | a :: l, b :: m, h => by
    simp only [cmpI] at h
    split at h
    · cases h
    · split at h
      · cases h
      · rw [show a = b by omega, cmpI_eq l m h]
theorem cmpI_anti : ∀ l m, cmpI m l = - cmpI l m
  | [], [] => rfl
  | [], _ :: _ => rfl
  | _ :: _, [] => rfl
  | a :: l, b :: m => by
    simp only [cmpI]
    by_cases h1 : a < b
    · simp [h1, show ¬ b < a by omega]
    · by_cases h2 : b < a
      · simp [h1, h2]
      · simp [h1, h2, cmpI_anti l m]
theorem cmpI_vals : ∀ l m, cmpI l m = -1 ∨ cmpI l m = 0 ∨ cmpI l m = 1
  | [], [] => by simp [cmpI]
  | [], _ :: _ => by simp [cmpI]
  | _ :: _, [] => by simp [cmpI]
  | a :: l, b :: m => by
    simp only [cmpI]
    split
    · simp
    · split
      · simp
      · exact cmpI_vals l m
theorem cmpI_trans : ∀ l m n, cmpI l m = -1 → cmpI m n = -1 → cmpI l n = -1
  | [], _, [], h1, h2 => by
    rename_i m; cases m <;> simp [cmpI] at h1 h2
  | [], _, _ :: _, _, _ => rfl
  | _ :: _, [], _, h1, _ => by simp [cmpI] at h1
  | _ :: _, _ :: _, [], _, h2 => by simp [cmpI] at h2
  | a :: l, b :: m, c :: n, h1, h2 => by
    simp only [cmpI] at *
    by_cases ab : a < b
    · by_cases bc : b < c
      · simp [show a < c by omega]
      · by_cases cb : c < b
        · simp [bc, cb] at h2
        · have : b = c := by omega
          subst this; simp [ab]
    · by_cases ba : b < a
      · simp [ab, ba] at h1
      · have : a = b := by omega
        subst this
        simp only [ab, if_false] at h1
        by_cases bc : a < c
        · simp [bc]
        · by_cases cb : c < a
          · simp [bc, cb] at h2
          · simp only [bc, cb, if_false] at h2 ⊢
            exact cmpI_trans l m n h1 h2
theorem cmpI_part : ∀ (l m : List Int) (j : Nat), j < l.length → j < m.length → (∀ i, i < j → l.getD i 0 = m.getD i 0) → l.getD j 0 ≠ m.getD j 0 → cmpI l m = if l.getD j 0 < m.getD j 0 then -1 else 1
  | [], _, _, h, _, _, _ => by simp at h
  | _ :: _, [], _, _, h, _, _ => by simp at h
  | a :: l, b :: m, 0, _, _, _, h => by
    simp at h
    simp only [cmpI, List.getD_cons_zero]
    by_cases h1 : a < b
    · simp [h1]
    · simp [h1, show b < a by omega]
  | a :: l, b :: m, j + 1, h1, h2, h3, h4 => by
    have h0 := h3 0 (by omega)
    simp only [List.getD_cons_zero] at h0
    subst h0
    simp only [cmpI, List.getD_cons_succ, Int.lt_irrefl, if_false] at h4 ⊢
    exact cmpI_part l m j (by simpa using h1) (by simpa using h2) (fun i hi => by have := h3 (i + 1) (by omega); simpa using this) h4
theorem cmpI_all : ∀ (l m : List Int), (∀ i, i < l.length → i < m.length → l.getD i 0 = m.getD i 0) → cmpI l m = if l.length < m.length then -1 else if m.length < l.length then 1 else 0
  | [], [], _ => rfl
  | [], _ :: _, _ => by simp [cmpI]
  | _ :: _, [], _ => by simp [cmpI]
  | a :: l, b :: m, h => by
    have h0 := h 0 (by simp) (by simp)
    simp only [List.getD_cons_zero] at h0
    subst h0
    simp only [cmpI, Int.lt_irrefl, if_false, List.length_cons]
    rw [cmpI_all l m fun i h1 h2 => by have := h (i + 1) (by simpa using h1) (by simpa using h2); simpa using this]
    simp
def lplus (k : Nat) (x y : Lk) : Lk := Lk.of ((x.l ++ y.l).take k)
theorem lplus_right {x y : Lk} {m : Int} {k : Nat} (hk : k ≤ 4) (hx : x.right m) (hy : y.right m) : (lplus k x y).right m := by
  have hm := ((right_iff x m).1 hx).1
  refine of_right hm (by rw [List.length_take]; omega) fun v hv => ?_
  rcases List.mem_append.1 (List.mem_of_mem_take hv) with h | h
  · exact (right_l hx).2.2.2 v h
  · exact (right_l hy).2.2.2 v h
theorem lplus_l {x y : Lk} {k : Nat} (hk : k ≤ 4) : (lplus k x y).l = (x.l ++ y.l).take k := l_of _ (by rw [List.length_take]; omega)
end Go.Proofs.YtnnkfgekiaaehaaGreat

/- What a call that makes memory keeps; what a slice reads. -/
namespace Go.Proofs.YtnnkfgekiaaehaaGreat
open Go.ChangeShapes Go.WideShapes Go.ChangeAt Go.RowKit
set_option linter.unusedVariables false
theorem bcell {B : Nat} {W W1 : World} (hb : Below B W W1) : (∀ b o, b < B → W1.cell? ⟨b, o, none⟩ = W.cell? ⟨b, o, none⟩) ∧ (∀ b o, b < B → W1.frozen? ⟨b, o, none⟩ = W.frozen? ⟨b, o, none⟩) :=
  ⟨fun b o h => hb.cell (p := ⟨b, o, none⟩) h, fun b o h => hb.frozen (p := ⟨b, o, none⟩) h⟩
theorem bAlc {W0 W : World} (h : Below W0.heap.size W0 W) (o : Obj) : Below W0.heap.size W0 (W.alloc o) := h.alloc h.size o
theorem bStep {W0 W W1 : World} (h : Below W0.heap.size W0 W) (h1 : Below W.heap.size W W1) : Below W0.heap.size W0 W1 := h.trans (h1.mono h.size)
theorem bSet {W0 W : World} (h : Below W0.heap.size W0 W) (p : Addr) (v : Value) (hp : W0.heap.size ≤ p.block) : Below W0.heap.size W0 (W.setCell p v) := h.setCell hp v
theorem bDrw {W0 W : World} (h : Below W0.heap.size W0 W) : Below W0.heap.size W0 W.drew := h.drew
theorem bDrwN {W0 W : World} (h : Below W0.heap.size W0 W) (n : Nat) : Below W0.heap.size W0 (W.drewN n) := by
  induction n with
  | zero => exact h
  | succ n ih => exact ih.drew
theorem bDrwN' {B : Nat} (W : World) (n : Nat) : Below B W (W.drewN n) := by
  induction n with
  | zero => exact Below.refl _ _
  | succ n ih => exact ih.drew
def Blk (w : World) (g : Nat) (t : TypeId) (cs : Array Value) : Prop := w.heap[g]? = some (.cells cs t (0, 0))
section
variable {w w' : World} {g : Nat} {t : TypeId} {cs : Array Value}
theorem Blk.lt (h : Blk w g t cs) : g < w.heap.size := (Array.getElem?_eq_some_iff.1 h).1
theorem Blk.cell (h : Blk w g t cs) (i : Nat) : w.cell? ⟨g, i, none⟩ = cs[i]? := cell_of_row w g i cs t (0, 0) h
theorem Blk.frozen (h : Blk w g t cs) (i : Nat) : w.frozen? ⟨g, i, none⟩ = false := by
  unfold Blk at h
  simp [World.frozen?, h]
theorem Blk.new (w : World) (t : TypeId) (cs : Array Value) : Blk (w.alloc (.cells cs t)) w.heap.size t cs := heap_alloc_new w _
theorem Blk.newAt (w : World) (t : TypeId) (cs : Array Value) (g : Nat) (h : g = w.heap.size) : Blk (w.alloc (.cells cs t)) g t cs := by subst h; exact Blk.new w t cs
theorem Blk.drew (h : Blk w g t cs) : Blk w.drew g t cs := h
theorem Blk.drewN (h : Blk w g t cs) (n : Nat) : Blk (w.drewN n) g t cs := h
theorem Blk.alloc (h : Blk w g t cs) (o : Obj) : Blk (w.alloc o) g t cs := (Below.heap_alloc w o g h.lt).trans h
theorem Blk.put (h : Blk w g t cs) (i : Nat) (u : Value) : Blk (w.setCell ⟨g, i, none⟩ u) g t (cs.setIfInBounds i u) := by
  unfold Blk at h ⊢
  simp [World.setCell, Array.getElem?_modify, h]
theorem Blk.far (h : Blk w g t cs) {p : Addr} (hp : g ≠ p.block) (u : Value) : Blk (w.setCell p u) g t cs := (Below.heap_setCell w p u g hp).trans h
theorem Blk.below {B : Nat} (h : Blk w g t cs) (hb : Below B w w') (hg : g < B) : Blk w' g t cs := (hb.block g hg).trans h
theorem Blk.step (h : Blk w g t cs) (hb : Below w.heap.size w w') : Blk w' g t cs := h.below hb h.lt
theorem Blk.grown {row : Option Nat} (h : Blk w g t cs) (hb : w.grownBy w' row) (hg : some g ≠ row) : Blk w' g t cs := (hb.block g h.lt hg).trans h
end
theorem cell_later {w w' : World} (hb : Below w.heap.size w w') {a : Addr} {v : Value} (h : w.cell? a = some v) : w'.cell? a = some v :=
  (hb.cell (block_lt_of_cell h)).trans h
structure KeptBy (w : World) where
  world : World
  kept : Below w.heap.size w world
def KeptBy.self (w : World) : KeptBy w := ⟨w, Below.refl _ _⟩
instance (w : World) : Inhabited (KeptBy w) := ⟨KeptBy.self w⟩
def KeptBy.next {w : World} (p : KeptBy w) {w' : World} (h : Below p.world.heap.size p.world w') : KeptBy w := ⟨w', p.kept.trans (h.mono p.kept.size)⟩
theorem wp_region_kept {P : Program} {id : Nat} {Q : Exit → Act → World → Prop} {a : Act} {w : World} {l : List Oper} (hm : P.follows .mixedOrders = true) (hB : Region.lexB .any l.toArray = true)
    (h : wpQuiet P l.toArray (fun w' => ∃ p : KeptBy w, w' = p.world) (fun a' => ∀ w', (∃ p : KeptBy w, w' = p.world) → Q .normal a' w') l a) : (Code.region id l.toArray true).wp P Q a w :=
  wp_region_quiet (C := fun w' => ∃ p : KeptBy w, w' = p.world) hm hB ⟨⟨w.drew, (Below.refl _ _).drew⟩, rfl⟩ (by simpa using h)
theorem Calls.kept_by {P : Program} {f : FuncId} {args : Array Value} {w : World} {p : KeptBy w} {v : Value}
    (h : Calls P f args p.world fun e w' => e = .returned v ∧ Below p.world.heap.size p.world w') : Calls P f args p.world fun e w'' => e = .returned v ∧ ∃ q : KeptBy w, w'' = q.world :=
  h.mono fun _ _ ⟨he, hb⟩ => ⟨he, p.next hb, rfl⟩
theorem Calls.kept_same {P : Program} {f : FuncId} {args : Array Value} {w : World} {p : KeptBy w} {v : Value}
    (h : Calls P f args p.world fun e w' => e = .returned v ∧ p.world = w') : Calls P f args p.world fun e w'' => e = .returned v ∧ ∃ q : KeptBy w, w'' = q.world :=
  h.mono fun _ _ ⟨he, hb⟩ => ⟨he, p, hb.symm⟩
theorem cell_kept {w : World} {a : Addr} {v : Value} (h : w.cell? a = some v) (p : KeptBy w) : p.world.cell? a = some v := cell_later p.kept h
end Go.Proofs.YtnnkfgekiaaehaaGreat

/- Contracts of the reference 13: both, Order, Plus, Join, Compare; of the reference 14: compare, join, range8, ranged. -/
namespace Go.Proofs.YtnnkfgekiaaehaaGreat
open Go.ChangeShapes Go.WideShapes Go.ChangeAt Go.RowKit
set_option linter.unusedVariables false
theorem both_right (x y : Lk) (w : World) (hx : x.right 8) (hy : y.right 8) : Calls Tryz.prog 154 #[x.v, y.v] w fun e w' => e = .returned (.int .i64 0) ∧ Below w.heap.size w w' := by
  have hx' := Lib.hid hx
  have hy' := Lib.hid hy
  clear hx hy
  unfold Lk.v
  go_enter Tryz.func154, Tryz.ntmps154
  go_wp2_with fail
  refine (lcheck_any x 8 _).mono ?_
  rintro e w1 ⟨rfl, hb1⟩
  rw [show lchk x 8 = 0 from hx'.out]
  obtain ⟨hc, hf⟩ := bcell hb1
  go_wp2_with fail
  refine (lcheck_any y 8 _).mono ?_
  rintro e w2 ⟨rfl, hb2⟩
  rw [show lchk y 8 = 0 from hy'.out]
  go_wp2_with fail
  go_ret
  exact ⟨rfl, bStep (bStep (bAlc (bAlc (Below.refl _ _) _) _) hb1) hb2⟩
theorem lcmp_part {x y : Lk} (hx : x.right 8) (hy : y.right 8) (j : Nat) (h1 : (j : Int) < x.n) (h2 : (j : Int) < y.n) (h : ∀ i, i < j → x.s i = y.s i) (hd : x.s j ≠ y.s j) : lcmp x y = if x.s j < y.s j then -1 else 1 := by
  have e1 := (right_l hx).1
  have e2 := (right_l hy).1
  rw [s_getD hx, s_getD hy] at hd ⊢
  exact cmpI_part _ _ j (by omega) (by omega) (fun i hi => by rw [← s_getD hx, ← s_getD hy]; exact h i hi) hd
theorem lcmp_all {x y : Lk} (hx : x.right 8) (hy : y.right 8) (h : ∀ i : Nat, (i : Int) < x.n → (i : Int) < y.n → x.s i = y.s i) : lcmp x y = if x.n < y.n then -1 else if y.n < x.n then 1 else 0 := by
  have e1 := (right_l hx).1
  have e2 := (right_l hy).1
  have := cmpI_all x.l y.l fun i h1 h2 => by rw [← s_getD hx, ← s_getD hy]; exact h i (by omega) (by omega)
  unfold lcmp
  rw [this]
  by_cases h1 : x.n < y.n
  · rw [if_pos (by omega), if_pos h1]
  · rw [if_neg (by omega), if_neg h1]
    by_cases h2 : y.n < x.n
    · rw [if_pos (by omega), if_pos h2]
    · rw [if_neg (by omega), if_neg h2]
set_option maxHeartbeats 1000000 in
theorem order_any (x y : Lk) (w : World) (hx : x.right 8) (hy : y.right 8) : Calls Tryz.prog 170 #[x.v, y.v] w fun e w' => e = .returned (.int .i64 (lcmp x y)) ∧ Below w.heap.size w w' := by
  have hP := Lib.hid (fun j => lcmp_part hx hy j)
  have hA := Lib.hid (lcmp_all hx hy)
  have hC := Lib.hid (Lk.cellAt x)
  have hD := Lib.hid (Lk.cellAt y)
  have h1 := ((right_iff x 8).1 hx).2.1
  have h2 := ((right_iff y 8).1 hy).2.1
  obtain ⟨n, hn⟩ := Int.eq_ofNat_of_zero_le h1.1
  obtain ⟨m, hm⟩ := Int.eq_ofNat_of_zero_le h2.1
  clear hx hy
  unfold Lk.v
  generalize lcmp x y = R at *
  generalize hs : x.s = s at *
  generalize ht : y.s = t at *
  clear hs ht
  generalize x.n = xn at *
  generalize y.n = yn at *
  subst hn hm
  go_enter Tryz.func170, Tryz.ntmps170
  go_wp2_with fail
  go_loopg [5] 4 (fun k i wr => ∃ j q : Nat, wr = ((w.alloc (.cells #[.int .i64 n, .int .i64 x.a, .int .i64 x.b, .int .i64 x.c, .int .i64 x.d] 41)).alloc (.cells #[.int .i64 m, .int .i64 y.a, .int .i64 y.b, .int .i64 y.c, .int .i64 y.d] 41)).drewN q ∧ i = .int .i64 j ∧ j ≤ n ∧ j ≤ m ∧ j + k = 4 ∧ ∀ i : Nat, i < j → s i = t i)
  case atStart => exact ⟨0, 0, rfl, rfl, by omega, by omega, by omega, by intros; omega⟩
  case round =>
    obtain ⟨j, q, rfl, rfl, hj1, hj2, hj3, hg⟩ := hrel
    replace hg := Lib.hid hg
    replace hj3 := Lib.hid hj3
    by_cases ha : j < n
    · by_cases hb : j < m
      · have hj4 : j < 4 := by omega
        have hc := hC.out j hj4
        have hd := hD.out j hj4
        by_cases he : s j = t j
        · have hzb : (s j != t j) = false := by simp [he]
          have hG := Lib.hid (show ∀ i : Nat, i < j + 1 → s i = t i by
            intro i h1
            by_cases e : i = j
            · rw [e]; exact he
            · exact hg.out i (by omega))
          clear he
          go_wp2_with fail
          go_quiet (fail)
          go_wp2_with fail
          go_roundg (4 - (j + 1))
          case measure => have := hj3.out; omega
          case rel => exact ⟨j + 1, _, rfl, by go_num, by omega, by omega, by have := hj3.out; omega, hG.out⟩
        · have hzb : (s j != t j) = true := by simp [he]
          have hR := hP.out j (by omega) (by omega) hg.out he
          by_cases hl : s j < t j
          · rw [if_pos hl] at hR
            subst hR
            clear he
            go_wp2_with fail
            go_quiet (fail)
            go_wp2_with fail
            go_quiet (fail)
            go_wp2_with fail
            go_ret
            exact ⟨rfl, bDrwN (bDrwN (bDrwN (bAlc (bAlc (Below.refl _ _) _) _) _) _) _⟩
          · rw [if_neg hl] at hR
            subst hR
            clear he
            go_wp2_with fail
            go_quiet (fail)
            go_wp2_with fail
            go_quiet (fail)
            go_wp2_with fail
            go_ret
            exact ⟨rfl, bDrwN (bDrwN (bDrwN (bAlc (bAlc (Below.refl _ _) _) _) _) _) _⟩
      · have hR := hA.out fun i _ _ => hg.out i (by omega)
        rw [if_neg (by omega)] at hR
        have hlt : m < n := by omega
        rw [if_pos (by omega)] at hR
        subst hR
        go_wp2_with fail
        go_ret
        exact ⟨rfl, bDrwN (bAlc (bAlc (Below.refl _ _) _) _) _⟩
    · have hR := hA.out fun i _ _ => hg.out i (by omega)
      by_cases hlt : n < m
      · rw [if_pos (by omega)] at hR
        subst hR
        go_wp2_with fail
        go_ret
        exact ⟨rfl, bDrwN (bAlc (bAlc (Below.refl _ _) _) _) _⟩
      · rw [if_neg (by omega)] at hR
        by_cases hgt : m < n
        · omega
        · rw [if_neg (by omega)] at hR
          subst hR
          go_wp2_with fail
          go_ret
          exact ⟨rfl, bDrwN (bAlc (bAlc (Below.refl _ _) _) _) _⟩
theorem compare_right (x y : Lk) (w : World) (hx : x.right 8) (hy : y.right 8) : Calls Tryz.prog 153 #[x.v, y.v] w fun e w' => e = .returned (.tuple #[.int .i64 (lcmp x y), .int .i64 0]) ∧ Below w.heap.size w w' := by
  have hx' := Lib.hid hx
  have hy' := Lib.hid hy
  clear hx hy
  have hO := Lib.hid (fun w => order_any x y w hx'.out hy'.out)
  have hB := Lib.hid (fun w => both_right x y w hx'.out hy'.out)
  unfold Lk.v at *
  go_enter Tryz.func153, Tryz.ntmps153
  go_wp2_with fail
  refine (hB.out _).mono ?_
  rintro e w1 ⟨rfl, hb1⟩
  obtain ⟨hc, hf⟩ := bcell hb1
  go_wp2_with fail
  refine (hO.out _).mono ?_
  rintro e w2 ⟨rfl, hb2⟩
  go_wp2_with fail
  go_ret2
  exact ⟨rfl, bStep (bStep (bAlc (bAlc (Below.refl _ _) _) _) hb1) hb2⟩
theorem cmp14_right (x y : Lk) (w : World) (hx : x.right 8) (hy : y.right 8) : Calls Tryz.prog 117 #[x.v, y.v] w fun e w' => e = .returned (.int .i64 (lcmp x y)) ∧ Below w.heap.size w w' := by
  have hO := Lib.hid (fun w => compare_right x y w hx hy)
  clear hx hy
  unfold Lk.v at *
  go_enter Tryz.func117, Tryz.ntmps117
  go_wp2_with fail
  refine (hO.out _).mono ?_
  rintro e w2 ⟨rfl, hb2⟩
  go_wp2_with fail
  go_ret
  exact ⟨rfl, bStep (bAlc (bAlc (Below.refl _ _) _) _) hb2⟩
end Go.Proofs.YtnnkfgekiaaehaaGreat

/- Contracts: the sum of two looks. -/
namespace Go.Proofs.YtnnkfgekiaaehaaGreat
open Go.ChangeShapes Go.WideShapes Go.ChangeAt Go.RowKit
set_option linter.unusedVariables false
def Lk.cells (x : Lk) : Array Value := #[.int .i64 x.n, .int .i64 x.a, .int .i64 x.b, .int .i64 x.c, .int .i64 x.d]
theorem of_cell0 (t : List Int) : (Lk.of t).cells[0]? = some (.int .i64 t.length) := rfl
theorem of_set (t : List Int) (v : Int) (h : t.length < 4) : ((Lk.of t).cells.setIfInBounds (1 + t.length) (.int .i64 v)).setIfInBounds 0 (.int .i64 (t.length + 1)) = (Lk.of (t ++ [v])).cells := by
  rcases t with _ | ⟨a, _ | ⟨b, _ | ⟨c, _ | ⟨d, t⟩⟩⟩⟩ <;> first | rfl | (exfalso; simp at h; omega)
theorem size42 : (Tryz.prog.info? 41).map (·.size) = some 5 := by kernel_rfl
theorem results_look {fn : Func} {p : Tmp} (h : fn.results = #[.cell p 41]) (tmps : Array Value) (w : World) (g : Nat) (x : Lk) (hp : tmps.getD p undef = .pointer (some ⟨g, 0, none⟩)) (hg : Blk w g 41 x.cells) :
    (results fn tmps).run Tryz.prog w = .ok x.v w :=
  results_cell_row h tmps w g 41 x.cells (0, 0) _ hp hg under42 rfl size42
theorem put5 {w : World} {g : Nat} {y : Lk} (h : Blk w g 41 y.cells) (x : Lk) :
    Blk (((((w.setCell ⟨g, 0, none⟩ (.int .i64 x.n)).setCell ⟨g, 1, none⟩ (.int .i64 x.a)).setCell ⟨g, 2, none⟩ (.int .i64 x.b)).setCell ⟨g, 3, none⟩ (.int .i64 x.c)).setCell ⟨g, 4, none⟩ (.int .i64 x.d)) g 41 x.cells :=
  ((((h.put 0 (.int .i64 x.n)).put 1 (.int .i64 x.a)).put 2 (.int .i64 x.b)).put 3 (.int .i64 x.c)).put 4 (.int .i64 x.d)
theorem bSet5 {W0 W : World} {g : Nat} (h : Below W0.heap.size W0 W) (hg : W0.heap.size ≤ g) (a b c d e : Value) :
    Below W0.heap.size W0 (((((W.setCell ⟨g, 0, none⟩ a).setCell ⟨g, 1, none⟩ b).setCell ⟨g, 2, none⟩ c).setCell ⟨g, 3, none⟩ d).setCell ⟨g, 4, none⟩ e) :=
  bSet (bSet (bSet (bSet (bSet h _ _ hg) _ _ hg) _ _ hg) _ _ hg) _ _ hg
theorem plus_put {wr : World} {b : Nat} {t : List Int} {v : Int} {j : Nat} (q : Blk wr b 41 (Lk.of t).cells) (hj : t.length = j) (h : j < 4) :
    Blk ((wr.setCell ⟨b, 1 + j, none⟩ (.int .i64 v)).setCell ⟨b, 0, none⟩ (.int .i64 (j + 1))) b 41 (Lk.of (t ++ [v])).cells := by
  subst hj
  have := (q.put (1 + t.length) (.int .i64 v)).put 0 (.int .i64 (t.length + 1))
  rw [of_set t v h] at this
  exact this
theorem take_snocI (t : List Int) (j : Nat) (h : j < t.length) : t.take (j + 1) = t.take j ++ [t.getD j 0] := by
  rw [List.take_succ_eq_append_getElem h]; simp [List.getD_eq_getElem?_getD, h]
set_option maxHeartbeats 1000000 in
theorem plus_right (k : Nat) (x y : Lk) (w : World) (hk : k ≤ 4) (hx : x.right 8) (hy : y.right 8) : Calls Tryz.prog 155 #[.int .i64 k, x.v, y.v] w fun e w' => e = .returned (lplus k x y).v ∧ Below w.heap.size w w' := by
  have hC := Lib.hid (Lk.cellAt x)
  have hD := Lib.hid (Lk.cellAt y)
  have h1 := ((right_iff x 8).1 hx).2.1
  have h2 := ((right_iff y 8).1 hy).2.1
  have hX := Lib.hid (fun i => s_getD hx i)
  have hY := Lib.hid (fun i => s_getD hy i)
  have hlx := (right_l hx).1
  have hly := (right_l hy).1
  obtain ⟨n, hn⟩ := Int.eq_ofNat_of_zero_le h1.1
  obtain ⟨m, hm⟩ := Int.eq_ofNat_of_zero_le h2.1
  clear hx hy
  have hR : lplus k x y = Lk.of ((x.l ++ y.l).take k) := rfl
  rw [hR]
  clear hR
  unfold Lk.v
  generalize x.l = t at *
  generalize y.l = u at *
  rw [hn] at hlx
  rw [hm] at hly
  obtain rfl : n = t.length := by omega
  obtain rfl : m = u.length := by omega
  clear hlx hly
  generalize x.s = s at *
  generalize y.s = s' at *
  generalize x.n = xn at *
  generalize y.n = yn at *
  subst hn hm
  go_enter Tryz.func155, Tryz.ntmps155
  go_wp2_with fail
  have q0 : Blk ((((w.alloc (.cells #[.int .i64 t.length, .int .i64 x.a, .int .i64 x.b, .int .i64 x.c, .int .i64 x.d] 41)).alloc (.cells #[.int .i64 u.length, .int .i64 y.a, .int .i64 y.b, .int .i64 y.c, .int .i64 y.d] 41)).alloc (.cells #[.int .i64 0, .int .i64 0, .int .i64 0, .int .i64 0, .int .i64 0] 41)).alloc (.cells #[.int .i64 0, .int .i64 0, .int .i64 0, .int .i64 0, .int .i64 0] 41)) w.heap.size 41 #[.int .i64 t.length, .int .i64 x.a, .int .i64 x.b, .int .i64 x.c, .int .i64 x.d] := (((Blk.new _ _ _).alloc _).alloc _).alloc _
  have q1 : Blk ((((w.alloc (.cells #[.int .i64 t.length, .int .i64 x.a, .int .i64 x.b, .int .i64 x.c, .int .i64 x.d] 41)).alloc (.cells #[.int .i64 u.length, .int .i64 y.a, .int .i64 y.b, .int .i64 y.c, .int .i64 y.d] 41)).alloc (.cells #[.int .i64 0, .int .i64 0, .int .i64 0, .int .i64 0, .int .i64 0] 41)).alloc (.cells #[.int .i64 0, .int .i64 0, .int .i64 0, .int .i64 0, .int .i64 0] 41)) (w.heap.size + 1) 41 #[.int .i64 u.length, .int .i64 y.a, .int .i64 y.b, .int .i64 y.c, .int .i64 y.d] := ((Blk.newAt _ _ _ _ (by simp)).alloc _).alloc _
  have q2 : Blk ((((w.alloc (.cells #[.int .i64 t.length, .int .i64 x.a, .int .i64 x.b, .int .i64 x.c, .int .i64 x.d] 41)).alloc (.cells #[.int .i64 u.length, .int .i64 y.a, .int .i64 y.b, .int .i64 y.c, .int .i64 y.d] 41)).alloc (.cells #[.int .i64 0, .int .i64 0, .int .i64 0, .int .i64 0, .int .i64 0] 41)).alloc (.cells #[.int .i64 0, .int .i64 0, .int .i64 0, .int .i64 0, .int .i64 0] 41)) (w.heap.size + 1 + 1) 41 (Lk.of []).cells := (Blk.newAt _ _ _ _ (by simp)).alloc _
  have q3 : Blk ((((w.alloc (.cells #[.int .i64 t.length, .int .i64 x.a, .int .i64 x.b, .int .i64 x.c, .int .i64 x.d] 41)).alloc (.cells #[.int .i64 u.length, .int .i64 y.a, .int .i64 y.b, .int .i64 y.c, .int .i64 y.d] 41)).alloc (.cells #[.int .i64 0, .int .i64 0, .int .i64 0, .int .i64 0, .int .i64 0] 41)).alloc (.cells #[.int .i64 0, .int .i64 0, .int .i64 0, .int .i64 0, .int .i64 0] 41)) (w.heap.size + 1 + 1 + 1) 41 (Lk.of (t.take (min 0 k))).cells := (Blk.newAt _ _ _ _ (by simp))
  have q4 := bAlc (bAlc (bAlc (bAlc (Below.refl w.heap.size w) (.cells #[.int .i64 t.length, .int .i64 x.a, .int .i64 x.b, .int .i64 x.c, .int .i64 x.d] 41)) (.cells #[.int .i64 u.length, .int .i64 y.a, .int .i64 y.b, .int .i64 y.c, .int .i64 y.d] 41)) (.cells #[.int .i64 0, .int .i64 0, .int .i64 0, .int .i64 0, .int .i64 0] 41)) (.cells #[.int .i64 0, .int .i64 0, .int .i64 0, .int .i64 0, .int .i64 0] 41)
  go_loopg [8] t.length (fun gk i wr => ∃ j : Nat, i = .int .i64 j ∧ j ≤ k ∧ j + gk = t.length ∧
    Blk wr w.heap.size 41 #[.int .i64 t.length, .int .i64 x.a, .int .i64 x.b, .int .i64 x.c, .int .i64 x.d] ∧ Blk wr (w.heap.size + 1) 41 #[.int .i64 u.length, .int .i64 y.a, .int .i64 y.b, .int .i64 y.c, .int .i64 y.d] ∧
    Blk wr (w.heap.size + 1 + 1) 41 (Lk.of []).cells ∧ Blk wr (w.heap.size + 1 + 1 + 1) 41 (Lk.of (t.take j)).cells ∧ Below w.heap.size w wr)
  case atStart => exact ⟨0, rfl, by omega, by omega, q0, q1, q2, by simpa using q3, q4⟩
  case round =>
    clear q0 q1 q2 q3 q4
    obtain ⟨j, rfl, hk1, hj, q0, q1, q2, q3, q4⟩ := hrel
    have c00 := q0.cell 0
    have c30 := q3.cell 0
    have hj' := Lib.hid hj
    clear hj
    by_cases hjk : j < t.length ∧ j < k
    · obtain ⟨hj1, hk2⟩ := hjk
      have c0j := q0.cell (1 + j)
      have hjl : (t.take j).length = j := by rw [List.length_take]; omega
      have c3j := q3.cell (1 + j)
      rw [hC.out j (by have := h1; omega)] at c0j
      have f3j := q3.frozen (1 + j)
      have f30 := q3.frozen 0
      rw [of_cell0, hjl] at c30
      have e3 : (Lk.of (t.take j)).cells[1 + j]? = some (.int .i64 ((Lk.of (t.take j)).s j)) := Lk.cellAt _ j (by omega)
      rw [e3] at c3j
      replace hjl := Lib.hid hjl
      clear e3
      go_wp2_with fail
      go_region
      all_goals go_wp2_with fail
      have hq := plus_put (v := s j) q3.drew hjl.out (by omega)
      have hts := take_snocI t j hj1
      rw [← hX.out j] at hts
      rw [← hts] at hq
      go_roundg (t.length - (j + 1))
      case measure => have := hj'.out; omega
      case rel =>
        exact ⟨j + 1, by go_num, by omega, by have := hj'.out; omega, (q0.drew.far (by simp <;> omega) _).far (by simp <;> omega) _, (q1.drew.far (by simp <;> omega) _).far (by simp <;> omega) _, (q2.drew.far (by simp <;> omega) _).far (by simp <;> omega) _, hq, bSet (bSet (bDrw q4) _ _ (by simp <;> omega)) _ _ (by simp <;> omega)⟩
    · have hpl : (t.take j).length = j := by rw [List.length_take]; have := hj'.out; omega
      have hpk : t.take j = t.take k := by
        have := hj'.out
        by_cases e : j < t.length
        · rw [show j = k by omega]
        · rw [List.take_of_length_le (by omega), List.take_of_length_le (by omega)]
      have hpk2 : j < k → j = t.length := by have := hj'.out; omega
      have hjt : j ≤ t.length := by have := hj'.out; omega
      replace hpk := Lib.hid hpk
      replace hpk2 := Lib.hid hpk2
      have q3' : Blk wr (w.heap.size + 1 + 1 + 1) 41 (Lk.of (t.take j ++ u.take 0)).cells := by simpa using q3
      replace q3 := q3'
      clear q3'
      have c30' := q3.cell 0
      generalize t.take j = p at *
      replace hpl := Lib.hid hpl
      rw [of_cell0, show p.length = j from hpl.out] at c30
      clear c30'
      by_cases hj1 : j < t.length
      all_goals
        have hk2 : j < t.length → ¬ j < k := fun h1 h2 => hjk ⟨h1, h2⟩
        have hk3 : ¬ (j < t.length ∧ j < k) := hjk
        clear hjk
        first
          | (have hk4 : ¬ j < k := hk2 hj1
             clear hk2 hk3
             go_wp2_with fail)
          | (clear hk2 hk3
             go_wp2_with fail)
        go_loopg [9] u.length (fun gk i wr => ∃ r : Nat, i = .int .i64 r ∧ j + r ≤ k ∧ r + gk = u.length ∧
          Blk wr w.heap.size 41 #[.int .i64 t.length, .int .i64 x.a, .int .i64 x.b, .int .i64 x.c, .int .i64 x.d] ∧ Blk wr (w.heap.size + 1) 41 #[.int .i64 u.length, .int .i64 y.a, .int .i64 y.b, .int .i64 y.c, .int .i64 y.d] ∧
          Blk wr (w.heap.size + 1 + 1) 41 (Lk.of []).cells ∧ Blk wr (w.heap.size + 1 + 1 + 1) 41 (Lk.of (p ++ u.take r)).cells ∧ Below w.heap.size w wr)
        case atStart => exact ⟨0, rfl, by omega, by omega, q0, q1, q2, q3, q4⟩
        case round =>
          clear q0 q1 q2 q3 q4 c00 c30
          obtain ⟨r, rfl, hk1, hr, q0, q1, q2, q3, q4⟩ := hrel
          have c10 := q1.cell 0
          have c30 := q3.cell 0
          have hr' := Lib.hid hr
          clear hr
          have hul : (u.take r).length = r := by rw [List.length_take]; have := hr'.out; omega
          have hpr : (p ++ u.take r).length = j + r := by rw [List.length_append, hul, hpl.out]
          rw [of_cell0, hpr] at c30
          replace hul := Lib.hid hul
          by_cases hrk : r < u.length ∧ j + r < k
          · obtain ⟨hr1, hr2⟩ := hrk
            try (exfalso; omega)
            all_goals
              have hr4 : r < 4 := by omega
              have c1r := q1.cell (1 + r)
              rw [hD.out r hr4] at c1r
              have c3r := q3.cell (1 + (j + r))
              have e3 : (Lk.of (p ++ u.take r)).cells[1 + (j + r)]? = some (.int .i64 ((Lk.of (p ++ u.take r)).s (j + r))) := Lk.cellAt _ (j + r) (by omega)
              rw [e3] at c3r
              have f3j := q3.frozen (1 + (j + r))
              have f30 := q3.frozen 0
              replace hpr := Lib.hid hpr
              clear e3
              go_wp2_with fail
              go_region
              all_goals go_wp2_with fail
              have hq := plus_put (v := s' r) q3.drew hpr.out (by omega)
              have hts := take_snocI u r hr1
              rw [← hY.out r] at hts
              rw [List.append_assoc, ← hts] at hq
              go_roundg (u.length - (r + 1))
              case measure => have := hr'.out; omega
              case rel =>
                exact ⟨r + 1, by go_num, by omega, by have := hr'.out; omega, (q0.drew.far (by simp <;> omega) _).far (by simp <;> omega) _, (q1.drew.far (by simp <;> omega) _).far (by simp <;> omega) _, (q2.drew.far (by simp <;> omega) _).far (by simp <;> omega) _, hq, bSet (bSet (bDrw q4) _ _ (by simp <;> omega)) _ _ (by simp <;> omega)⟩
          · have hend : p ++ u.take r = (t ++ u).take k := by
              have := hr'.out
              have := hpl.out
              have e1 := hpk.out
              rw [List.take_append, ← e1]
              congr 1
              have e2 : p.length = min k t.length := by rw [e1, List.length_take]
              by_cases hru : r < u.length
              · rw [show k - t.length = r by omega]
              · rw [List.take_of_length_le (by omega), List.take_of_length_le]
                have := hpk2.out
                omega
            replace hend := Lib.hid hend
            have d0 := q3.cell 0
            have d1 := q3.cell 1
            have d2 := q3.cell 2
            have d3 := q3.cell 3
            have d4 := q3.cell 4
            have z0 := q2.frozen 0
            have z1 := q2.frozen 1
            have z2 := q2.frozen 2
            have z3 := q2.frozen 3
            have z4 := q2.frozen 4
            have y0 := q2.cell 0
            have y1 := q2.cell 1
            have y2 := q2.cell 2
            have y3 := q2.cell 3
            have y4 := q2.cell 4
            clear c30
            have hfn : (Lk.of (p ++ u.take r)).n = ((j + r : Nat) : Int) := by rw [of_n, hpr]
            replace hfn := Lib.hid hfn
            generalize p ++ u.take r = f at *
            simp only [Lk.cells, List.getElem?_toArray, List.getElem?_cons_zero, List.getElem?_cons_succ] at d0 d1 d2 d3 d4 y0 y1 y2 y3 y4
            by_cases hr1 : r < u.length
            · have hk4 : ¬ (Lk.of f).n < (k : Int) := by rw [hfn.out]; intro h; exact hrk ⟨hr1, by omega⟩
              clear hrk
              go_wp2_with fail
              exact bodyPost_ret (results_look rfl _ _ _ (Lk.of f) rfl (put5 q2 (Lk.of f))) rfl ⟨by rw [← hend.out]; rfl, bSet5 q4 (by omega) _ _ _ _ _⟩
            · clear hrk
              go_wp2_with fail
              exact bodyPost_ret (results_look rfl _ _ _ (Lk.of f) rfl (put5 q2 (Lk.of f))) rfl ⟨by rw [← hend.out]; rfl, bSet5 q4 (by omega) _ _ _ _ _⟩
end Go.Proofs.YtnnkfgekiaaehaaGreat

/- Contracts: Join of the reference 13, join, range8, ranged of the reference 14. -/
namespace Go.Proofs.YtnnkfgekiaaehaaGreat
open Go.ChangeShapes Go.WideShapes Go.ChangeAt Go.RowKit
set_option linter.unusedVariables false
theorem results_look_int {fn : Func} {p u : Tmp} (h : fn.results = #[.cell p 41, .tmp u]) (tmps : Array Value) (w : World) (g : Nat) (x : Lk) (hp : tmps.getD p undef = .pointer (some ⟨g, 0, none⟩)) (hg : Blk w g 41 x.cells) :
    (results fn tmps).run Tryz.prog w = .ok (.tuple #[x.v, tmps.getD u undef]) w := by
  rw [results_cell_tmp h, hp]
  have := run_loadVar_row (P := Tryz.prog) w g 41 41 x.cells (0, 0) _ hg under42 rfl size42
  simp [asAddr, this, Lk.v, Lk.cells]
theorem join_right (k : Nat) (x y : Lk) (w : World) (h1 : 1 ≤ k) (hk : k ≤ 4) (hx : x.right 8) (hy : y.right 8) : Calls Tryz.prog 118 #[.int .i64 k, x.v, y.v] w fun e w' => e = .returned (.tuple #[(lplus k x y).v, .int .i64 0]) ∧ Below w.heap.size w w' := by
  have hP := Lib.hid (fun w => plus_right k x y w hk hx hy)
  have hB := Lib.hid (fun w => both_right x y w hx hy)
  clear hx hy
  generalize hz : lplus k x y = z at *
  clear hz
  have hzv := Lib.hid (rfl : z.v = z.v)
  unfold Lk.v at *
  go_enter Tryz.func118, Tryz.ntmps118
  go_wp2_with fail
  refine (hB.out _).mono ?_
  rintro e w1 ⟨rfl, hb1⟩
  obtain ⟨hc, hf⟩ := bcell hb1
  have hz := hb1.size
  simp only [World.size_alloc] at hz
  have q2 : Blk w1 (w.heap.size + 1 + 1) 41 (Lk.of []).cells := (Blk.newAt _ _ _ _ (by simp)).step hb1
  go_wp2_with fail
  refine (hP.out _).mono ?_
  rintro e w2 ⟨rfl, hb2⟩
  have q3 := q2.step hb2
  clear q2
  have d0 := q3.cell 0
  have d1 := q3.cell 1
  have d2 := q3.cell 2
  have d3 := q3.cell 3
  have d4 := q3.cell 4
  have z0 := q3.frozen 0
  have z1 := q3.frozen 1
  have z2 := q3.frozen 2
  have z3 := q3.frozen 3
  have z4 := q3.frozen 4
  simp only [Lk.cells, List.getElem?_toArray, List.getElem?_cons_zero, List.getElem?_cons_succ] at d0 d1 d2 d3 d4
  go_wp2_with fail
  exact bodyPost_ret (results_look_int rfl _ _ _ z rfl (put5 q3 z)) rfl ⟨rfl, bSet5 (bStep (bStep (bAlc (bAlc (bAlc (Below.refl _ _) _) _) _) hb1) hb2) (by omega) _ _ _ _ _⟩
theorem join14_right (k : Nat) (x y : Lk) (w : World) (h1 : 1 ≤ k) (hk : k ≤ 4) (hx : x.right 8) (hy : y.right 8) : Calls Tryz.prog 83 #[.int .i64 k, x.v, y.v] w fun e w' => e = .returned (lplus k x y).v ∧ Below w.heap.size w w' := by
  have hB := Lib.hid (fun w => join_right k x y w h1 hk hx hy)
  clear hx hy
  generalize hz : lplus k x y = z at *
  clear hz
  unfold Lk.v at *
  go_enter Tryz.func83, Tryz.ntmps83
  go_wp2_with fail
  refine (hB.out _).mono ?_
  rintro e w1 ⟨rfl, hb1⟩
  have hz : w.heap.size + 1 + 1 < w1.heap.size := by have := hb1.size; simp only [World.size_alloc] at this; omega
  have q3 : Blk w1 (w.heap.size + 1 + 1) 41 (Lk.of []).cells := (Blk.newAt _ _ _ _ (by simp)).step hb1
  have d0 := q3.cell 0
  have d1 := q3.cell 1
  have d2 := q3.cell 2
  have d3 := q3.cell 3
  have d4 := q3.cell 4
  have z0 := q3.frozen 0
  have z1 := q3.frozen 1
  have z2 := q3.frozen 2
  have z3 := q3.frozen 3
  have z4 := q3.frozen 4
  simp only [Lk.cells, List.getElem?_toArray, List.getElem?_cons_zero, List.getElem?_cons_succ] at d0 d1 d2 d3 d4
  go_wp2_with fail
  exact bodyPost_ret (results_look rfl _ _ _ z rfl ((put5 q3 z).alloc _)) rfl ⟨rfl, bAlc (bSet5 (bStep (bAlc (bAlc (bAlc (Below.refl _ _) _) _) _) hb1) (by omega) _ _ _ _ _) _⟩
theorem ranged_ok (k : Nat) (w : World) (h1 : 1 ≤ k) (hk : k ≤ 4) : Calls Tryz.prog 79 #[.int .i64 0, .int .i64 k] w fun e w' => e = .returned (.int .i64 0) ∧ w = w' := by
  go_enter Tryz.func79, Tryz.ntmps79
  go_wp2_with fail
  go_ret
  exact ⟨rfl, rfl⟩
theorem range8_any (n : Int) (w : World) : Calls Tryz.prog 119 #[.int .i64 n] w fun e w' => e = .returned (.int .i64 (if n < 1 ∨ 8 < n then 2 else 0)) ∧ w = w' := by
  by_cases h1 : n < 1
  · rw [if_pos (.inl h1)]
    go_enter Tryz.func119, Tryz.ntmps119
    go_wp2_with fail
    go_ret
    exact ⟨rfl, rfl⟩
  · by_cases h2 : 8 < n
    · rw [if_pos (.inr h2)]
      go_enter Tryz.func119, Tryz.ntmps119
      go_wp2_with fail
      go_ret
      exact ⟨rfl, rfl⟩
    · rw [if_neg (by omega)]
      go_enter Tryz.func119, Tryz.ntmps119
      go_wp2_with fail
      go_ret
      exact ⟨rfl, rfl⟩
end Go.Proofs.YtnnkfgekiaaehaaGreat

/- Slices of looks: what reads as a list of looks, what is owned, how it is cut. -/
namespace Go.Proofs.YtnnkfgekiaaehaaGreat
open Go.ChangeShapes Go.WideShapes Go.ChangeAt Go.RowKit
set_option linter.unusedVariables false
def cellsL (l : List Lk) : List Value := l.flatMap fun x => x.cells.toList
theorem cellsL_cons (x : Lk) (l : List Lk) : cellsL (x :: l) = x.cells.toList ++ cellsL l := by simp [cellsL]
theorem cellsL_append (l m : List Lk) : cellsL (l ++ m) = cellsL l ++ cellsL m := by simp [cellsL]
theorem cellsL_len : ∀ l : List Lk, (cellsL l).length = l.length * 5
  | [] => rfl
  | x :: l => by
    rw [cellsL_cons, List.length_append, cellsL_len l]
    show 5 + _ = _
    rw [List.length_cons]; omega
theorem cellsL_get : ∀ (l : List Lk) (i : Nat) (x : Lk), l[i]? = some x → ∀ j, j < 5 → (cellsL l)[i * 5 + j]? = x.cells[j]?
  | [], i, x, h, _, _ => by simp at h
  | y :: l, 0, x, h, j, hj => by
    have : y = x := by simpa using h
    subst this
    rw [cellsL_cons, Nat.zero_mul, Nat.zero_add, List.getElem?_append_left (by show j < 5; omega)]
    simp
  | y :: l, i + 1, x, h, j, hj => by
    rw [cellsL_cons, List.getElem?_append_right (by show 5 ≤ _; omega)]
    have := cellsL_get l i x (by simpa using h) j hj
    rw [← this]
    congr 1
    show (i + 1) * 5 + j - 5 = _
    omega
def RdL (w : World) (B : Nat) (A : Option Addr) (n : Nat) (l : List Lk) : Prop :=
  l.length = n ∧ (n = 0 ∨ ∃ b off, A = some ⟨b, off, none⟩ ∧ b < B ∧ ∀ (i : Nat) (x : Lk), l[i]? = some x → ∀ j, j < 5 → w.cell? ⟨b, off + i * 5 + j, none⟩ = x.cells[j]?)
theorem RdL.below {w w' : World} {B : Nat} {A : Option Addr} {n : Nat} {l : List Lk} (h : RdL w B A n l) (hb : Below B w w') : RdL w' B A n l := by
  refine ⟨h.1, ?_⟩
  rcases h.2 with h0 | ⟨b, off, rfl, hlt, hc⟩
  · exact .inl h0
  · exact .inr ⟨b, off, rfl, hlt, fun i x hx j hj => by rw [hb.cell (p := ⟨b, off + i * 5 + j, none⟩) hlt]; exact hc i x hx j hj⟩
theorem RdL.mono {w : World} {B B' : Nat} {A : Option Addr} {n : Nat} {l : List Lk} (h : RdL w B A n l) (hb : B ≤ B') : RdL w B' A n l := by
  refine ⟨h.1, ?_⟩
  rcases h.2 with h0 | ⟨b, off, rfl, hlt, hc⟩
  · exact .inl h0
  · exact .inr ⟨b, off, rfl, by omega, hc⟩
theorem RdL.nil (w : World) (B : Nat) (A : Option Addr) : RdL w B A 0 [] := ⟨rfl, .inl rfl⟩
theorem RdL.get {w : World} {B : Nat} {A : Option Addr} {n : Nat} {l : List Lk} (h : RdL w B A n l) {i : Nat} {x : Lk} (hi : l[i]? = some x) :
    ∃ b off, A = some ⟨b, off, none⟩ ∧ b < B ∧ w.cell? ⟨b, off + i * 5, none⟩ = some (.int .i64 x.n) ∧ w.cell? ⟨b, off + i * 5 + 1, none⟩ = some (.int .i64 x.a) ∧ w.cell? ⟨b, off + i * 5 + 2, none⟩ = some (.int .i64 x.b) ∧
      w.cell? ⟨b, off + i * 5 + 3, none⟩ = some (.int .i64 x.c) ∧ w.cell? ⟨b, off + i * 5 + 4, none⟩ = some (.int .i64 x.d) := by
  have hlt := (List.getElem?_eq_some_iff.1 hi).1
  rcases h.2 with h0 | ⟨b, off, rfl, hb, hc⟩
  · have := h.1; omega
  · exact ⟨b, off, rfl, hb, hc i x hi 0 (by omega), hc i x hi 1 (by omega), hc i x hi 2 (by omega), hc i x hi 3 (by omega), hc i x hi 4 (by omega)⟩
theorem info42 : (Tryz.prog.info? 41).map (fun i => (i.zero, i.size, i.bytes)) = some (some (Lk.of []).v, 5, 40) := by kernel_rfl
theorem RdL.drop {w : World} {B : Nat} {A : Option Addr} {n : Nat} {l : List Lk} (h : RdL w B A n l) (k c : Nat) (hk : k ≤ n) (hc : n ≤ c) : RdL w B (if c = k then A else A.map (·.add (k * 5))) (n - k) (l.drop k) := by
  refine ⟨by rw [List.length_drop, h.1], ?_⟩
  rcases h.2 with h0 | ⟨b, off, rfl, hlt, hcell⟩
  · left; omega
  · by_cases e : n - k = 0
    · exact .inl e
    · right
      rw [if_neg (by omega)]
      refine ⟨b, off + k * 5, by simp [Addr.add], hlt, fun i x hx j hj => ?_⟩
      have := hcell (k + i) x (by rw [List.getElem?_drop] at hx; exact hx) j hj
      rw [← this]
      congr 2
      omega
theorem RdL.take {w : World} {B : Nat} {A : Option Addr} {n : Nat} {l : List Lk} (h : RdL w B A n l) (k : Nat) (hk : k ≤ n) : RdL w B A k (l.take k) := by
  refine ⟨by rw [List.length_take, h.1]; omega, ?_⟩
  rcases h.2 with h0 | ⟨b, off, rfl, hlt, hcell⟩
  · left; omega
  · refine .inr ⟨b, off, rfl, hlt, fun i x hx j hj => hcell i x ?_ j hj⟩
    rw [List.getElem?_take] at hx
    split at hx
    · exact hx
    · cases hx
def OwnL (w : World) (base : Nat) (v : Value) (l : List Lk) : Prop := w.ownsRow base 41 5 v l.length (cellsL l)
theorem OwnL.reads {w : World} {base : Nat} {v : Value} {l : List Lk} (h : OwnL w base v l) : ∃ A c, v = .slice A l.length c ∧ RdL w w.heap.size A l.length l ∧ l.length ≤ c ∧ c ≤ maxLen ∧ (∀ a, A = some a → base ≤ a.block) := by
  rcases h.2 with ⟨rfl, h0⟩ | ⟨g, cap, cur, rfl, hb, hg, hnc, hcm, hcs, ht⟩
  · refine ⟨none, 0, by rw [h0], ⟨rfl, .inl h0⟩, by omega, by simp [maxLen], by simp⟩
  · refine ⟨some ⟨g, 0, none⟩, cap, rfl, ⟨rfl, ?_⟩, hnc, hcm, by simp; exact hb⟩
    refine .inr ⟨g, 0, rfl, (Array.getElem?_eq_some_iff.1 hg).1, fun i x hx j hj => ?_⟩
    have hlt := (List.getElem?_eq_some_iff.1 hx).1
    rw [cell_of_row w g _ cur 41 (0, 0) hg, ← cellsL_get l i x hx j hj, ← ht, List.getElem?_take, if_pos (by omega), Nat.zero_add]
    simp
theorem OwnL.nil (w : World) (base : Nat) : OwnL w base (.slice none 0 0) [] := World.ownsRow_nil w base 41 5
theorem OwnL.alloc {w : World} {base : Nat} {v : Value} {l : List Lk} (h : OwnL w base v l) (o : Obj) : OwnL (w.alloc o) base v l := World.ownsRow.alloc h o
theorem OwnL.step {w w' : World} {base : Nat} {v : Value} {l : List Lk} (h : OwnL w base v l) (hb : Below w.heap.size w w') : OwnL w' base v l := by
  refine ⟨h.1, ?_⟩
  rcases h.2 with hn | ⟨g, cap, cur, rfl, hg0, hg, rest⟩
  · exact .inl hn
  · exact .inr ⟨g, cap, cur, rfl, hg0, (hb.block g (Array.getElem?_eq_some_iff.1 hg).1).trans hg, rest⟩
theorem OwnL.mono {w : World} {base b' : Nat} {v : Value} {l : List Lk} (h : OwnL w base v l) (hb : b' ≤ base) : OwnL w b' v l := by
  refine ⟨h.1, ?_⟩
  rcases h.2 with hn | ⟨g, cap, cur, rfl, hg0, hg, rest⟩
  · exact .inl hn
  · exact .inr ⟨g, cap, cur, rfl, by omega, hg, rest⟩
theorem own_in {w : World} {base : Nat} {e : TypeId} {size : Nat} {v : Value} {n : Nat} {xs : List Value} (h : w.ownsRow base e size v n xs) : ∀ k, v.ownBlock = some k → base ≤ k ∧ k < w.heap.size := h.lt
section
variable (w : World) {P : Program} {ops : Array Oper} {rest : List Oper} {o : Oper} {a : Act} {Q : Exit → Act → World → Prop}
theorem wpList_push (hgd : o.guard = none) (s x : Operand) (t : TypeId) (ho : o.op = .call { callee := .builtin .append, args := #[s, x], argTypes := #[t, t] })
    (base : Nat) (e : TypeId) (z : Value) (size bytes : Nat) (ht : P.underlying t = some (.slice e)) (hi : (P.info? e).map (fun i => (i.zero, i.size, i.bytes)) = some (some z, size, bytes)) (hzs : z.cells.size = size) (hsz : 0 < size)
    (v : Value) (n : Nat) (xs : List Value) (hs : a.eval s = v) (hown : w.ownsRow base e size v n xs) (g : Nat) (cs : Array Value) (hx : a.eval x = .slice (some ⟨g, 0, none⟩) 1 1) (hb : Blk w g e cs) (hc : cs.size = size)
    (h1 : ∀ u ∈ cs.toList, u.oneCell' = true) (h63 : n < 1000000) (hbytes : bytes ≤ 1000000) (hbase : base ≤ w.heap.size)
    (h : ∀ v' w', w'.ownsRow base e size v' (n + 1) (xs ++ cs.toList) → w.grownBy w' v.ownBlock → (v'.ownBlock = v.ownBlock ∨ v'.ownBlock = some w.heap.size) → (∀ W0, Below base W0 w → Below base W0 w') → wpList P ops Q rest (a.put o.dst v') w') : wpList P ops Q (o :: rest) a w := by
  obtain ⟨i0, hi0, hz0, hz1, hz2⟩ := info_parts hi
  refine wpList_append_own_at w hgd s x t ho base e i0 z size bytes ht hi0 hz0 hz1 hz2 hzs hsz v n xs hs hown ⟨g, 0, none⟩ 1 1 cs.toList hx (by simp [hc]) ?_ h1 (by unfold maxLen; omega) ?_ hbase ?_
  · intro j u hu
    have : (⟨g, 0, none⟩ : Addr).add j = ⟨g, j, none⟩ := by unfold Addr.add; split <;> simp_all
    rw [this, hb.cell]
    simpa using hu
  · have := Nat.mul_le_mul (show n + 1 ≤ 1000000 by omega) hbytes
    omega
  · intro v' w' h2 h3 h4 h5
    exact h v' w' h2 h3 h5 fun W0 hB => hB.grown h3 hbase (fun k hk => (own_in hown k hk).1)
theorem wpList_pushL (hgd : o.guard = none) (s x : Operand) (ho : o.op = .call { callee := .builtin .append, args := #[s, x], argTypes := #[28, 28] })
    (base : Nat) (v : Value) (l : List Lk) (hs : a.eval s = v) (hown : OwnL w base v l) (g : Nat) (k : Lk) (hx : a.eval x = .slice (some ⟨g, 0, none⟩) 1 1) (hb : Blk w g 41 k.cells) (h63 : l.length < 1000000) (hbase : base ≤ w.heap.size)
    (h : ∀ v' w', OwnL w' base v' (l ++ [k]) → w.grownBy w' v.ownBlock → (v'.ownBlock = v.ownBlock ∨ v'.ownBlock = some w.heap.size) → (∀ W0, Below base W0 w → Below base W0 w') → wpList Tryz.prog ops Q rest (a.put o.dst v') w') : wpList Tryz.prog ops Q (o :: rest) a w := by
  refine wpList_push w hgd s x 28 ho base 41 _ 5 40 (by kernel_rfl) info42 rfl (by omega) v l.length (cellsL l) hs hown g k.cells hx hb rfl (by simp [Lk.cells, Value.oneCell']) h63 (by omega) hbase ?_
  intro v' w' h2 h3 h4 h5
  refine h v' w' ?_ h3 h4 h5
  unfold OwnL
  rw [cellsL_append, List.length_append]
  have : cellsL [k] = k.cells.toList := by simp [cellsL]
  rw [this]
  exact h2
theorem wpList_joinL (hgd : o.guard = none) (s x : Operand) (ho : o.op = .call { callee := .builtin .append, args := #[s, x], argTypes := #[28, 28] })
    (base : Nat) (v : Value) (l : List Lk) (hs : a.eval s = v) (hown : OwnL w base v l) (B : Nat) (A : Option Addr) (m c : Nat) (k : List Lk) (hx : a.eval x = .slice A m c) (hr : RdL w B A m k) (h63 : l.length + m ≤ 1000000) (hbase : base ≤ w.heap.size)
    (h : ∀ v' w', OwnL w' base v' (l ++ k) → w.grownBy w' v.ownBlock → (v'.ownBlock = v.ownBlock ∨ v'.ownBlock = some w.heap.size) → (∀ W0, Below base W0 w → Below base W0 w') → wpList Tryz.prog ops Q rest (a.put o.dst v') w') : wpList Tryz.prog ops Q (o :: rest) a w := by
  obtain ⟨i0, hi0, hz0, hz1, hz2⟩ := info_parts info42
  have ht : Tryz.prog.underlying 28 = some (.slice 41) := by kernel_rfl
  rcases A with _ | ad
  · have hm : m = 0 := by
      rcases hr.2 with h0 | ⟨_, _, h0, _⟩
      · exact h0
      · cases h0
    subst hm
    have hk : k = [] := List.eq_nil_of_length_eq_zero hr.1
    subst hk
    refine wpList_plain hgd fun K' hK' => ?_
    have hrun : (Builtin.append_ #[28, 28] o.type #[v, .slice none 0 c]).run Tryz.prog w = .ok v w := by
      rcases hown.2 with ⟨rfl, _⟩ | ⟨g, cap, cur, rfl, _, _, hnc, _⟩
      · simp [Builtin.append_, run_underlying ht, sizeOf, typeInfo, hi0, Builtin.lenOf, Builtin.firstCells]
      · simp [Builtin.append_, run_underlying ht, sizeOf, typeInfo, hi0, Builtin.lenOf, Builtin.firstCells, hnc, storeCells]
    unfold Oper.wp execOp
    simp only [ho, resolve, invoke, builtin, Sem.run_bind, Sem.run_pure, Result.andThen_ok, List.map_toArray, List.map_cons, List.map_nil, hs, hx, hrun]
    exact hK' _ _ (h v w (by simpa using hown) (World.grownBy.refl w _) (.inl rfl) fun _ h => h)
  · refine wpList_append_own_at w hgd s x 28 ho base 41 i0 _ 5 40 ht hi0 hz0 hz1 hz2 rfl (by omega) v l.length (cellsL l) hs hown ad m c (cellsL k) hx (by rw [cellsL_len, hr.1]) ?_ ?_ (by unfold maxLen; omega) (by omega) hbase ?_
    · intro j u hu
      have hlt := (List.getElem?_eq_some_iff.1 hu).1
      rw [cellsL_len] at hlt
      rcases hr.2 with h0 | ⟨b, off, h0, _, hc⟩
      · have := hr.1; omega
      · cases h0
        have hi : j / 5 < k.length := by omega
        have := hc (j / 5) _ (List.getElem?_eq_getElem hi) (j % 5) (by omega)
        rw [← cellsL_get k (j / 5) _ (List.getElem?_eq_getElem hi) (j % 5) (by omega)] at this
        have e1 : j / 5 * 5 + j % 5 = j := by omega
        have e2 : off + j / 5 * 5 + j % 5 = off + j := by omega
        rw [e1, e2, hu] at this
        have hadd : (⟨b, off, none⟩ : Addr).add j = ⟨b, off + j, none⟩ := by unfold Addr.add; split <;> simp_all
        rw [hadd]
        exact this
    · intro u hu
      simp only [cellsL, List.mem_flatMap] at hu
      obtain ⟨y, _, hy⟩ := hu
      simp [Lk.cells] at hy
      rcases hy with rfl | rfl | rfl | rfl | rfl <;> rfl
    · intro v' w' h2 h3 _ h5
      refine h v' w' ?_ h3 h5 fun W0 hB => hB.grown h3 hbase (fun k hk => (own_in hown k hk).1)
      unfold OwnL
      rw [cellsL_append, List.length_append, hr.1]
      exact h2
theorem OwnL.empty (w : World) (base : Nat) (h : base ≤ w.heap.size) : OwnL (w.alloc (.cells #[] 41)) base (.slice (some ⟨w.heap.size, 0, none⟩) 0 0) [] :=
  ⟨rfl, .inr ⟨w.heap.size, 0, #[], rfl, h, heap_alloc_new w _, Nat.le_refl _, by simp [maxLen], rfl, rfl⟩⟩
end
end Go.Proofs.YtnnkfgekiaaehaaGreat

/- The reference 14: merge. -/
namespace Go.Proofs.YtnnkfgekiaaehaaGreat
open Go.ChangeShapes Go.WideShapes Go.ChangeAt Go.RowKit
set_option linter.unusedVariables false
def mgo (x : Lk) (f : List Lk → List Lk) : List Lk → List Lk
  | [] => x :: f []
  | y :: b => if lcmp x y < 0 then x :: f (y :: b) else if 0 < lcmp x y then y :: mgo x f b else x :: f b
def lmerge : List Lk → List Lk → List Lk
  | [], b => b
  | x :: a, b => mgo x (lmerge a) b
theorem lmerge_nil (a : List Lk) : lmerge a [] = a := by
  induction a with
  | nil => rfl
  | cons x a ih => show x :: lmerge a [] = _; rw [ih]
theorem lmerge_cons (x y : Lk) (a b : List Lk) : lmerge (x :: a) (y :: b) = if lcmp x y < 0 then x :: lmerge a (y :: b) else if 0 < lcmp x y then y :: lmerge (x :: a) b else x :: lmerge a b := rfl
def RetL (w : World) (l : List Lk) (e : Ending) (w' : World) : Prop := ∃ v, e = .returned v ∧ OwnL w' w.heap.size v l ∧ Below w.heap.size w w'
theorem RdL.tail {w : World} {B b off n : Nat} {x : Lk} {l : List Lk} (h : RdL w B (some ⟨b, off, none⟩) n (x :: l)) : RdL w B (some ⟨b, off + 5, none⟩) (n - 1) l := by
  have h0 : 0 < n := by rw [← h.1]; simp
  have := h.drop 1 (n + 1) (by omega) (by omega)
  rw [if_neg (by omega)] at this
  simpa [Addr.add] using this
theorem RdL.none {w : World} {B n : Nat} {x : Lk} {l : List Lk} {A : Option Addr} (A' : Option Addr) (h : RdL w B A n (x :: l)) (h0 : n - 1 = 0) : RdL w B A' (n - 1) l := by
  have := h.1
  refine ⟨by simp at this; omega, .inl h0⟩
set_option maxHeartbeats 1000000 in
theorem merge_any (A A2 : Option Addr) (n m ca cb : Nat) (la lb : List Lk) (w : World) (ha : RdL w w.heap.size A n la) (hb : RdL w w.heap.size A2 m lb) (hra : ∀ x ∈ la, x.right 8) (hrb : ∀ x ∈ lb, x.right 8)
    (hca : n ≤ ca) (hcb : m ≤ cb) (hma : ca ≤ maxLen) (hmb : cb ≤ maxLen) (hsz : n + m ≤ 1000000) :
    Calls Tryz.prog 82 #[.slice A n ca, .slice A2 m cb] w (RetL w (lmerge la lb)) := by
  generalize hR : lmerge la lb = R
  replace hR := Lib.hid hR
  have hP := Lib.hid (fun (v : Value) (w' : World) (h1 : OwnL w' w.heap.size v R) (h2 : Below w.heap.size w w') => (show RetL w R (.returned v) w' from ⟨v, rfl, h1, h2⟩))
  unfold maxLen at hma hmb
  go_enter Tryz.func82, Tryz.ntmps82
  go_wp2_with fail
  go_loopg [0, 1, 5] (n + m) (fun k s0 s1 s5 wr => ∃ (A A2 : Option Addr) (n m ca cb : Nat) (la lb out : List Lk), s0 = .slice A n ca ∧ s1 = .slice A2 m cb ∧ k = n + m ∧ RdL wr w.heap.size A n la ∧ RdL wr w.heap.size A2 m lb ∧ (∀ x ∈ la, x.right 8) ∧ (∀ x ∈ lb, x.right 8) ∧
    n ≤ ca ∧ m ≤ cb ∧ ca ≤ 9223372036854775807 ∧ cb ≤ 9223372036854775807 ∧ out.length + n + m ≤ 1000000 ∧ OwnL wr w.heap.size s5 out ∧ out ++ lmerge la lb = R ∧ Below w.heap.size w wr)
  case atStart => exact ⟨A, A2, n, m, ca, cb, la, lb, [], rfl, rfl, rfl, ha, hb, hra, hrb, hca, hcb, hma, hmb, by simpa using hsz, OwnL.nil _ _, hR.out, Below.refl _ _⟩
  case round =>
    clear ha hb hra hrb hca hcb hma hmb hsz
    obtain ⟨A, A2, n, m, ca, cb, la, lb, out, rfl, rfl, rfl, ha, hb, hra, hrb, hca, hcb, hma, hmb, hsz, ho, hg, hbw⟩ := hrel
    replace hg := Lib.hid hg
    have hl1 := ha.1
    have hl2 := hb.1
    cases la with
    | nil =>
      obtain rfl : n = 0 := by simpa using hl1.symm
      cases lb with
      | nil =>
        obtain rfl : m = 0 := by simpa using hl2.symm
        have hPP := hP.out
        go_wp2_with fail
        go_ret
        exact hP.out _ _ (by have h := hg.out; rw [show out ++ lmerge [] [] = out from List.append_nil out] at h; rw [← h]; exact ho) hbw
      | cons y lb =>
        have hm : 0 < m := by rw [← hl2]; simp
        obtain ⟨b, off, rfl, hblt, y0, y1, y2, y3, y4⟩ := hb.get (i := 0) (x := y) rfl
        simp only [Nat.zero_mul, Nat.add_zero] at y0 y1 y2 y3 y4
        have hry : y.right 8 := hrb y (by simp)
        have hG := Lib.hid (show (out ++ [y]) ++ lmerge [] lb = R by rw [← hg.out]; simp [lmerge])
        have hmi : (0 : Int) < m := by omega
        clear hl1 hl2
        go_wp2_with (at_builtin; refine wpList_pushL _ rfl _ _ rfl w.heap.size _ out rfl (ho.alloc _) _ y rfl (Blk.new _ _ _) (by omega) (by have := hbw.size; simp; omega) ?_; intro v' w1 hown1 hg1 hat1 hb1)
        all_goals
          have hw1 := hb1 w (bAlc hbw _)
          have hwr := hb1 wr ((Below.refl _ _).alloc hbw.size _)
          go_roundg (m - 1)
          case measure => omega
          case rel => exact ⟨A, _, 0, m - 1, ca, _, [], lb, out ++ [y], rfl, rfl, by omega, ha.below hwr, by first | exact (hb.tail).below hwr | exact (hb.none _ (by omega)).below hwr, hra, fun z hz => hrb z (by simp [hz]), hca, by omega, hma, by omega, by simp; omega, hown1, hG.out, hw1⟩
    | cons x la =>
      have hn : 0 < n := by rw [← hl1]; simp
      obtain ⟨b, off, rfl, hblt, x0, x1, x2, x3, x4⟩ := ha.get (i := 0) (x := x) rfl
      simp only [Nat.zero_mul, Nat.add_zero] at x0 x1 x2 x3 x4
      have hrx : x.right 8 := hra x (by simp)
      have hni : (0 : Int) < n := by omega
      cases lb with
      | nil =>
        obtain rfl : m = 0 := by simpa using hl2.symm
        have hG := Lib.hid (show (out ++ [x]) ++ lmerge la [] = R by rw [← hg.out, lmerge_nil, lmerge_nil]; simp)
        clear hl1 hl2
        go_wp2_with (at_builtin; refine wpList_pushL _ rfl _ _ rfl w.heap.size _ out rfl (ho.alloc _) _ x rfl (Blk.new _ _ _) (by omega) (by have := hbw.size; simp; omega) ?_; intro v' w1 hown1 hg1 hat1 hb1)
        all_goals
          have hw1 := hb1 w (bAlc hbw _)
          have hwr := hb1 wr ((Below.refl _ _).alloc hbw.size _)
          go_roundg (n - 1)
          case measure => omega
          case rel => exact ⟨_, A2, n - 1, 0, _, cb, la, [], out ++ [x], rfl, rfl, by omega, by first | exact (ha.tail).below hwr | exact (ha.none _ (by omega)).below hwr, hb.below hwr, fun z hz => hra z (by simp [hz]), hrb, by omega, hcb, by omega, hmb, by simp; omega, hown1, hG.out, hw1⟩
      | cons y lb =>
        have hm : 0 < m := by rw [← hl2]; simp
        obtain ⟨b2, off2, rfl, hblt2, y0, y1, y2, y3, y4⟩ := hb.get (i := 0) (x := y) rfl
        simp only [Nat.zero_mul, Nat.add_zero] at y0 y1 y2 y3 y4
        have hry : y.right 8 := hrb y (by simp)
        have hmi : (0 : Int) < m := by omega
        have hn0 : ((n : Int) == 0) = false := by simp; omega
        have hC := Lib.hid (fun w => cmp14_right x y w hrx hry)
        have e1 := lmerge_cons x y la lb
        have k0 := cell_kept x0
        have k1 := cell_kept x1
        have k2 := cell_kept x2
        have k3 := cell_kept x3
        have k4 := cell_kept x4
        have l0 := cell_kept y0
        have l1 := cell_kept y1
        have l2 := cell_kept y2
        have l3 := cell_kept y3
        have l4 := cell_kept y4
        rw [e1] at hg
        clear hl1 hl2 e1
        generalize hc : lcmp x y = c at *
        unfold Lk.v at hC
        go_wp2_with fail
        refine wp_region_kept (by kernel_rfl) (by kernel_rfl) ?_
        repeat (go_big_quiet_step ((go_at_call 117; exact Calls.kept_by (hC.out _))))
        refine wpQuiet_nil ?_
        rintro _ ⟨p, rfl⟩
        have hpk := p.kept
        generalize p.world = w2 at hpk
        clear k0 k1 k2 k3 k4 l0 l1 l2 l3 l4
        replace ha := ha.below (hpk.mono hbw.size)
        replace hb := hb.below (hpk.mono hbw.size)
        replace x0 := cell_later hpk x0
        replace x1 := cell_later hpk x1
        replace x2 := cell_later hpk x2
        replace x3 := cell_later hpk x3
        replace x4 := cell_later hpk x4
        replace y0 := cell_later hpk y0
        replace y1 := cell_later hpk y1
        replace y2 := cell_later hpk y2
        replace y3 := cell_later hpk y3
        replace y4 := cell_later hpk y4
        replace ho := ho.step hpk
        replace hbw := bStep hbw hpk
        clear hpk hc
        by_cases c1 : c < 0
        · have hG := Lib.hid (show (out ++ [x]) ++ lmerge la (y :: lb) = R by rw [← hg.out, if_pos c1]; simp)
          go_wp2_with (at_builtin; refine wpList_pushL _ rfl _ _ rfl w.heap.size _ out rfl (ho.alloc _) _ x rfl (Blk.new _ _ _) (by omega) (by have := hbw.size; simp; omega) ?_; intro v' w1 hown1 hg1 hat1 hb1)
          all_goals
            have hw1 := hb1 w (bAlc hbw _)
            have hwr := hb1 w2 ((Below.refl _ _).alloc hbw.size _)
            go_roundg (n - 1 + m)
            case measure => omega
            case rel => exact ⟨_, _, n - 1, m, _, _, la, y :: lb, out ++ [x], rfl, rfl, by omega, by first | exact (ha.tail).below hwr | exact (ha.none _ (by omega)).below hwr, hb.below hwr, fun z hz => hra z (by simp [hz]), hrb, by omega, by omega, by omega, by omega, by simp; omega, hown1, hG.out, hw1⟩
        · by_cases c2 : 0 < c
          · have hG := Lib.hid (show (out ++ [y]) ++ lmerge (x :: la) lb = R by rw [← hg.out, if_neg c1, if_pos c2]; simp)
            go_wp2_with (at_builtin; refine wpList_pushL _ rfl _ _ rfl w.heap.size _ out rfl (ho.alloc _) _ y rfl (Blk.new _ _ _) (by omega) (by have := hbw.size; simp; omega) ?_; intro v' w1 hown1 hg1 hat1 hb1)
            all_goals
              have hw1 := hb1 w (bAlc hbw _)
              have hwr := hb1 w2 ((Below.refl _ _).alloc hbw.size _)
              go_roundg (n + (m - 1))
              case measure => omega
              case rel => exact ⟨_, _, n, m - 1, _, _, x :: la, lb, out ++ [y], rfl, rfl, by omega, ha.below hwr, by first | exact (hb.tail).below hwr | exact (hb.none _ (by omega)).below hwr, hra, fun z hz => hrb z (by simp [hz]), by omega, by omega, by omega, by omega, by simp; omega, hown1, hG.out, hw1⟩
          · have hG := Lib.hid (show (out ++ [x]) ++ lmerge la lb = R by rw [← hg.out, if_neg c1, if_neg c2]; simp)
            obtain rfl : c = 0 := by omega
            go_wp2_with (at_builtin; refine wpList_pushL _ rfl _ _ rfl w.heap.size _ out rfl (ho.alloc _) _ x rfl (Blk.new _ _ _) (by omega) (by have := hbw.size; simp; omega) ?_; intro v' w1 hown1 hg1 hat1 hb1)
            all_goals
              have hw1 := hb1 w (bAlc hbw _)
              have hwr := hb1 w2 ((Below.refl _ _).alloc hbw.size _)
              go_roundg (n - 1 + (m - 1))
              case measure => omega
              case rel => exact ⟨_, _, n - 1, m - 1, _, _, la, lb, out ++ [x], rfl, rfl, by omega, by first | exact (ha.tail).below hwr | exact (ha.none _ (by omega)).below hwr, by first | exact (hb.tail).below hwr | exact (hb.none _ (by omega)).below hwr, fun z hz => hra z (by simp [hz]), fun z hz => hrb z (by simp [hz]), by omega, by omega, by omega, by omega, by simp; omega, hown1, hG.out, hw1⟩
end Go.Proofs.YtnnkfgekiaaehaaGreat

/- Ascending lists of looks. Plain. -/
namespace Go.Proofs.YtnnkfgekiaaehaaGreat
set_option linter.unusedVariables false
def Asc (l : List Lk) : Prop := l.Pairwise fun x y => lcmp x y = -1
theorem lcmp_refl (x : Lk) : lcmp x x = 0 := cmpI_refl _
theorem lcmp_anti (x y : Lk) : lcmp y x = - lcmp x y := cmpI_anti _ _
theorem lcmp_vals (x y : Lk) : lcmp x y = -1 ∨ lcmp x y = 0 ∨ lcmp x y = 1 := cmpI_vals _ _
theorem lcmp_trans {x y z : Lk} (h1 : lcmp x y = -1) (h2 : lcmp y z = -1) : lcmp x z = -1 := cmpI_trans _ _ _ h1 h2
theorem lcmp_eq {x y : Lk} {m k : Int} (hx : x.right m) (hy : y.right k) (h : lcmp x y = 0) : x = y := right_ext hx hy (cmpI_eq _ _ h)
theorem asc_nil : Asc [] := List.Pairwise.nil
theorem asc_one (x : Lk) : Asc [x] := List.pairwise_singleton _ _
theorem asc_cons {x : Lk} {l : List Lk} : Asc (x :: l) ↔ (∀ y ∈ l, lcmp x y = -1) ∧ Asc l := List.pairwise_cons
theorem asc_uniq : ∀ {a b : List Lk}, Asc a → Asc b → (∀ x, x ∈ a ↔ x ∈ b) → a = b
  | [], [], _, _, _ => rfl
  | [], y :: b, _, _, h => absurd ((h y).2 (by simp)) (by simp)
  | x :: a, [], _, _, h => absurd ((h x).1 (by simp)) (by simp)
  | x :: a, y :: b, ha, hb, h => by
    obtain ⟨a1, a2⟩ := asc_cons.1 ha
    obtain ⟨b1, b2⟩ := asc_cons.1 hb
    have hxy : x = y := by
      have h1 := (h x).1 (by simp)
      have h2 := (h y).2 (by simp)
      rcases List.mem_cons.1 h1 with e | h1
      · exact e
      · rcases List.mem_cons.1 h2 with e | h2
        · exact e.symm
        · have e1 := a1 y h2
          have e2 := b1 x h1
          rw [lcmp_anti, e1] at e2
          omega
    subst hxy
    have hn : ∀ {l : List Lk}, (∀ y ∈ l, lcmp x y = -1) → x ∉ l := fun hl hm => by
      have := hl x hm
      rw [lcmp_refl] at this
      omega
    congr 1
    refine asc_uniq a2 b2 fun z => ?_
    constructor
    · intro hz
      rcases List.mem_cons.1 ((h z).1 (by simp [hz])) with e | h'
      · subst e; exact absurd hz (hn a1)
      · exact h'
    · intro hz
      rcases List.mem_cons.1 ((h z).2 (by simp [hz])) with e | h'
      · subst e; exact absurd hz (hn b1)
      · exact h'
theorem asc_nodup {l : List Lk} (h : Asc l) : l.Nodup := h.imp fun {a b} hab e => by
  subst e; rw [lcmp_refl] at hab; omega
theorem merge_mem {k : Int} : ∀ (a b : List Lk), (∀ x ∈ a, x.right k) → (∀ x ∈ b, x.right k) → ∀ z, z ∈ lmerge a b ↔ z ∈ a ∨ z ∈ b
  | [], b, _, _, z => by simp [lmerge]
  | x :: a, [], _, _, z => by rw [lmerge_nil]; simp
  | x :: a, y :: b, ha, hb, z => by
    have h1 := merge_mem a (y :: b) (fun z hz => ha z (by simp [hz])) hb z
    have h2 := merge_mem (x :: a) b ha (fun z hz => hb z (by simp [hz])) z
    have h3 := merge_mem a b (fun z hz => ha z (by simp [hz])) (fun z hz => hb z (by simp [hz])) z
    rw [lmerge_cons]
    split
    · rw [List.mem_cons, h1]; simp [or_assoc]
    · split
      · rw [List.mem_cons, h2]; simp [or_assoc, or_left_comm]
      · have e : x = y := lcmp_eq (ha x (by simp)) (hb y (by simp)) (by rcases lcmp_vals x y with h | h | h <;> omega)
        subst e
        rw [List.mem_cons, h3]; simp [or_assoc]
        constructor
        · rintro (h | h | h) <;> simp [h]
        · rintro (h | h | h | h) <;> simp [h]
termination_by a b => a.length + b.length
theorem merge_asc {k : Int} : ∀ (a b : List Lk), (∀ x ∈ a, x.right k) → (∀ x ∈ b, x.right k) → Asc a → Asc b → Asc (lmerge a b)
  | [], b, _, _, _, hb => hb
  | x :: a, [], _, _, ha, _ => by rw [lmerge_nil]; exact ha
  | x :: a, y :: b, ra, rb, ha, hb => by
    obtain ⟨a1, a2⟩ := asc_cons.1 ha
    obtain ⟨b1, b2⟩ := asc_cons.1 hb
    have ra' : ∀ x ∈ a, x.right k := fun z hz => ra z (by simp [hz])
    have rb' : ∀ x ∈ b, x.right k := fun z hz => rb z (by simp [hz])
    have h1 := merge_asc a (y :: b) ra' rb a2 hb
    have h2 := merge_asc (x :: a) b ra rb' ha b2
    have h3 := merge_asc a b ra' rb' a2 b2
    rw [lmerge_cons]
    split
    · rename_i hc
      have hc : lcmp x y = -1 := by rcases lcmp_vals x y with h | h | h <;> omega
      refine asc_cons.2 ⟨fun z hz => ?_, h1⟩
      rcases (merge_mem a (y :: b) ra' rb z).1 hz with h | h
      · exact a1 z h
      · rcases List.mem_cons.1 h with e | h
        · rw [e]; exact hc
        · exact lcmp_trans hc (b1 z h)
    · split
      · rename_i _ hc
        have hc : lcmp y x = -1 := by rw [lcmp_anti]; rcases lcmp_vals x y with h | h | h <;> omega
        refine asc_cons.2 ⟨fun z hz => ?_, h2⟩
        rcases (merge_mem (x :: a) b ra rb' z).1 hz with h | h
        · rcases List.mem_cons.1 h with e | h
          · rw [e]; exact hc
          · exact lcmp_trans hc (a1 z h)
        · exact b1 z h
      · have e : x = y := lcmp_eq (ra x (by simp)) (rb y (by simp)) (by rcases lcmp_vals x y with h | h | h <;> omega)
        subst e
        refine asc_cons.2 ⟨fun z hz => ?_, h3⟩
        rcases (merge_mem a b ra' rb' z).1 hz with h | h
        · exact a1 z h
        · exact b1 z h
termination_by a b => a.length + b.length
theorem merge_len : ∀ (a b : List Lk), (lmerge a b).length ≤ a.length + b.length
  | [], b => by simp [lmerge]
  | x :: a, [] => by rw [lmerge_nil]; simp
  | x :: a, y :: b => by
    have h1 := merge_len a (y :: b)
    have h2 := merge_len (x :: a) b
    have h3 := merge_len a b
    simp only [List.length_cons] at *
    rw [lmerge_cons]
    split
    · simp only [List.length_cons]; omega
    · split <;> (simp only [List.length_cons]; omega)
termination_by a b => a.length + b.length
def lset (l : List Lk) : List Lk := l.foldr (fun x s => lmerge [x] s) []
theorem lset_cons (x : Lk) (l : List Lk) : lset (x :: l) = lmerge [x] (lset l) := rfl
theorem lset_facts {k : Int} : ∀ l : List Lk, (∀ x ∈ l, x.right k) → Asc (lset l) ∧ (∀ z, z ∈ lset l ↔ z ∈ l) ∧ (lset l).length ≤ l.length
  | [], _ => ⟨asc_nil, fun z => Iff.rfl, Nat.le_refl _⟩
  | x :: l, h => by
    obtain ⟨h1, h2, h3⟩ := lset_facts l fun z hz => h z (by simp [hz])
    have r1 : ∀ z ∈ [x], z.right k := fun z hz => by simp at hz; rw [hz]; exact h x (by simp)
    have r2 : ∀ z ∈ lset l, z.right k := fun z hz => h z (by simp [(h2 z).1 hz])
    rw [lset_cons]
    refine ⟨merge_asc _ _ r1 r2 (asc_one x) h1, fun z => ?_, ?_⟩
    · rw [merge_mem _ _ r1 r2, h2]; simp
    · have := merge_len [x] (lset l)
      simp only [List.length_cons, List.length_nil] at *
      omega
theorem lset_asc {k : Int} {l : List Lk} (h : ∀ x ∈ l, x.right k) : Asc (lset l) := (lset_facts l h).1
theorem lset_mem {k : Int} {l : List Lk} (h : ∀ x ∈ l, x.right k) (z : Lk) : z ∈ lset l ↔ z ∈ l := (lset_facts l h).2.1 z
theorem lset_len {k : Int} {l : List Lk} (h : ∀ x ∈ l, x.right k) : (lset l).length ≤ l.length := (lset_facts l h).2.2
theorem lset_right {k : Int} {l : List Lk} (h : ∀ x ∈ l, x.right k) : ∀ x ∈ lset l, x.right k := fun x hx => h x ((lset_mem h x).1 hx)
theorem lset_of {k : Int} {l s : List Lk} (h : ∀ x ∈ l, x.right k) (hs : Asc s) (hm : ∀ z, z ∈ s ↔ z ∈ l) : s = lset l :=
  asc_uniq hs (lset_asc h) fun z => by rw [hm, lset_mem h]
theorem lset_same {k : Int} {l m : List Lk} (h : ∀ x ∈ l, x.right k) (hm : ∀ z, z ∈ m ↔ z ∈ l) : lset m = lset l :=
  lset_of h (lset_asc fun x hx => h x ((hm x).1 hx)) fun z => by rw [lset_mem fun x hx => h x ((hm x).1 hx)]; exact hm z
theorem merge_set {k : Int} {a b : List Lk} (ha : ∀ x ∈ a, x.right k) (hb : ∀ x ∈ b, x.right k) (h1 : Asc a) (h2 : Asc b) : lmerge a b = lset (a ++ b) :=
  lset_of (fun x hx => (List.mem_append.1 hx).elim (ha x) (hb x)) (merge_asc a b ha hb h1 h2) fun z => by rw [merge_mem a b ha hb, List.mem_append]
end Go.Proofs.YtnnkfgekiaaehaaGreat

/- The reference 14: sorted, cut, Check, Cut. -/
namespace Go.Proofs.YtnnkfgekiaaehaaGreat
open Go.ChangeShapes Go.WideShapes Go.ChangeAt Go.RowKit
set_option linter.unusedVariables false
set_option maxHeartbeats 1000000 in
theorem sorted14_any : ∀ (N : Nat) (A : Option Addr) (n c : Nat) (l : List Lk) (w : World), n ≤ N → N ≤ 1000000 → RdL w w.heap.size A n l → (∀ x ∈ l, x.right 8) → n ≤ c → c ≤ maxLen →
    Calls Tryz.prog 84 #[.slice A n c] w (RetL w (lset l)) := by
  intro N
  induction N with
  | zero =>
    intro A n c l w hn hN ha hr hc hm
    obtain rfl : n = 0 := by omega
    have hl0 : l = [] := List.eq_nil_of_length_eq_zero ha.1
    subst hl0
    have hP := Lib.hid (fun (v : Value) (w' : World) (h1 : OwnL w' w.heap.size v []) (h2 : Below w.heap.size w w') => (show RetL w [] (.returned v) w' from ⟨v, rfl, h1, h2⟩))
    have hoe := OwnL.empty w w.heap.size (Nat.le_refl _)
    have ha' := ha.below ((Below.refl w.heap.size w).alloc (Nat.le_refl _) (.cells #[] 41))
    unfold maxLen at hm
    show Calls Tryz.prog 84 #[.slice A 0 c] w (RetL w [])
    go_enter Tryz.func84, Tryz.ntmps84
    go_wp2_with (at_builtin; refine wpList_joinL _ rfl _ _ rfl w.heap.size _ [] rfl hoe _ A 0 c [] rfl ha' (by simp) (by simp) ?_; intro v' w1 hown1 hg1 hat1 hb1)
    go_ret
    exact hP.out _ _ hown1 (hb1 w (bAlc (Below.refl _ _) _))
  | succ N ih =>
    intro A n c l w hn hN ha hr hc hm
    have hl := ha.1
    by_cases h2 : n < 2
    · have hset : lset l = l := by
        rcases l with _ | ⟨x, _ | ⟨y, l⟩⟩
        · rfl
        · rfl
        · simp at hl; omega
      rw [hset]
      clear hset
      have hP := Lib.hid (fun (v : Value) (w' : World) (h1 : OwnL w' w.heap.size v l) (h2 : Below w.heap.size w w') => (show RetL w l (.returned v) w' from ⟨v, rfl, h1, h2⟩))
      have hoe := OwnL.empty w w.heap.size (Nat.le_refl _)
      have ha' := ha.below ((Below.refl w.heap.size w).alloc (Nat.le_refl _) (.cells #[] 41))
      unfold maxLen at hm
      replace hl := Lib.hid hl
      go_enter Tryz.func84, Tryz.ntmps84
      go_wp2_with (at_builtin; refine wpList_joinL _ rfl _ _ rfl w.heap.size _ [] rfl hoe _ A n c l rfl ha' (by simp; omega) (by simp) ?_; intro v' w1 hown1 hg1 hat1 hb1)
      go_ret
      exact hP.out _ _ hown1 (hb1 w (bAlc (Below.refl _ _) _))
    · have ih' := Lib.hid ih
      clear ih
      obtain ⟨b, off, rfl⟩ : ∃ b off, A = some ⟨b, off, none⟩ := by
        rcases ha.2 with h0 | ⟨b, off, h, _⟩
        · omega
        · exact ⟨b, off, h⟩
      obtain ⟨p, hp⟩ : ∃ p, p = n / 2 := ⟨_, rfl⟩
      have hset : lset l = lmerge (lset (l.take p)) (lset (l.drop p)) := by
        clear hp
        have r1 : ∀ x ∈ l.take p, x.right 8 := fun x hx => hr x (List.mem_of_mem_take hx)
        have r2 : ∀ x ∈ l.drop p, x.right 8 := fun x hx => hr x (List.mem_of_mem_drop hx)
        rw [merge_set (lset_right r1) (lset_right r2) (lset_asc r1) (lset_asc r2)]
        refine lset_same (k := 8) (fun x hx => ?_) fun z => ?_
        · rcases List.mem_append.1 hx with h | h
          · exact lset_right r1 x h
          · exact lset_right r2 x h
        · rw [List.mem_append, lset_mem r1, lset_mem r2, ← List.mem_append, List.take_append_drop]
      rw [hset]
      have hP := Lib.hid (fun (v : Value) (w' : World) (h1 : OwnL w' w.heap.size v (lmerge (lset (l.take p)) (lset (l.drop p)))) (h2 : Below w.heap.size w w') => (show RetL w (lmerge (lset (l.take p)) (lset (l.drop p))) (.returned v) w' from ⟨v, rfl, h1, h2⟩))
      have hT := Lib.hid (ha.take p (by omega))
      have hD := ha.drop p c (by omega) hc
      have r1 : ∀ x ∈ l.take p, x.right 8 := fun x hx => hr x (List.mem_of_mem_take hx)
      have r2 : ∀ x ∈ l.drop p, x.right 8 := fun x hx => hr x (List.mem_of_mem_drop hx)
      have hlen : (lset (l.take p)).length + (lset (l.drop p)).length ≤ 1000000 := by
        have e1 := lset_len r1
        have e2 := lset_len r2
        rw [List.length_take] at e1
        rw [List.length_drop] at e2
        omega
      have hq : ((n : Int) / 2) = (p : Int) := by omega
      have hz1 : (0 : Int) ≤ p := by omega
      have hqa : (n : Int).tdiv 2 = (p : Int) := by rw [Int.tdiv_eq_ediv_of_nonneg (by omega)]; exact hq
      have hqb : IntKind.i64.wrap (p : Int) = p := IntWalk.i64_in _ (by omega)
      have hz2 : p ≤ c := by omega
      have hz3 : p ≤ n := by omega
      have hz4 : ¬ c = p := by omega
      have hz5 : ¬ c = 0 := by omega
      have hz6 : (p : Int) ≤ c := by omega
      have hz7 : (p : Int) ≤ n := by omega
      rw [if_neg hz4] at hD
      have hp0 : p * 5 ≠ 0 := by omega
      simp only [Option.map_some, Addr.add, hp0, if_false] at hD
      have hp1 : ¬ p = 0 := by omega
      clear hp0
      replace hD := Lib.hid hD
      unfold maxLen at hm
      clear hset
      replace hl := Lib.hid hl
      replace hp := Lib.hid hp
      go_enter Tryz.func84, Tryz.ntmps84
      go_wp2_with fail
      go_region_held3 (fun w' => Below w.heap.size w w') (first | assumption | exact (Below.refl _ _).drew | exact bStep (by assumption) (by assumption))
        (first
          | (go_at_call_of 84 (Value.slice (some ⟨b, off, none⟩) p c); refine (ih'.out _ p c (l.take p) _ (by omega) (by omega) ((hT.out.below (by assumption)).mono (Below.size (by assumption))) r1 (by omega) (by unfold maxLen; omega)).mono ?_; rintro e w1 ⟨v1, rfl, ho1, hb1⟩; obtain ⟨A1, k1, rfl, hd1, hk1, hm1, hg1⟩ := ho1.reads)
          | (go_at_call 84; refine (ih'.out _ (n - p) (c - p) (l.drop p) _ (by omega) (by omega) ((hD.out.below (by assumption)).mono (Below.size (by assumption))) r2 (by omega) (by unfold maxLen; omega)).mono ?_; rintro e w2 ⟨v2, rfl, ho2, hb2⟩; obtain ⟨A2, k2, rfl, hd2, hk2, hm2, hg2⟩ := ho2.reads)
          | (go_at_call 82; refine (merge_any A1 A2 _ _ k1 k2 (lset (l.take p)) (lset (l.drop p)) _ ((hd1.below hb2).mono hb2.size) hd2 (lset_right r1) (lset_right r2) hk1 hk2 hm1 hm2 hlen).mono ?_; rintro e w3 ⟨v3, rfl, ho3, hb3⟩))
      go_wp2_with fail
      go_ret
      have hb12 := bStep (bStep (bDrw (Below.refl _ _)) hb1) hb2
      exact hP.out _ _ (ho3.mono hb12.size) (bStep hb12 hb3)
def lcut (k : Nat) (l : List Lk) : List Lk := lset (l.map fun x => lplus k x (Lk.of []))
theorem nil_right (m : Int) (h : 1 ≤ m ∧ m ≤ 8) : (Lk.of []).right m := of_right h (by simp) (by simp)
set_option maxHeartbeats 1000000 in
theorem cut14_any (k : Nat) (A : Option Addr) (n c : Nat) (l : List Lk) (w : World) (h1 : 1 ≤ k) (hk : k ≤ 4) (hn : n ≤ 100000) (ha : RdL w w.heap.size A n l) (hr : ∀ x ∈ l, x.right 8) (hc : n ≤ c) (hm : c ≤ maxLen) :
    Calls Tryz.prog 81 #[.int .i64 k, .slice A n c] w (RetL w (lcut k l)) := by
  have hP := Lib.hid (fun (v : Value) (w' : World) (h1 : OwnL w' w.heap.size v (lcut k l)) (h2 : Below w.heap.size w w') => (show RetL w (lcut k l) (.returned v) w' from ⟨v, rfl, h1, h2⟩))
  have hn8 := nil_right 8 (by omega)
  have hj := Lib.hid (fun (x : Lk) (hx : x.right 8) (w : World) => join14_right k x (Lk.of []) w h1 hk hx hn8)
  have hl := Lib.hid ha.1
  unfold maxLen at hm
  go_enter Tryz.func81, Tryz.ntmps81
  go_wp2_with fail
  go_loopg [5, 6] n (fun gk s5 s6 wr => ∃ i : Nat, s6 = .int .i64 i ∧ i + gk = n ∧ OwnL wr w.heap.size s5 ((l.take i).map fun x => lplus k x (Lk.of [])) ∧ RdL wr w.heap.size A n l ∧ Below w.heap.size w wr)
  case atStart => exact ⟨0, rfl, by omega, OwnL.nil _ _, ha, Below.refl _ _⟩
  case round =>
    clear ha
    obtain ⟨i, rfl, hi, ho, ha, hb⟩ := hrel
    replace hi := Lib.hid hi
    by_cases hin : i < n
    · have hil : i < l.length := by have := hl.out; omega
      have hx : l[i]? = some l[i] := List.getElem?_eq_getElem hil
      obtain ⟨b, off, rfl, hbt, x0, x1, x2, x3, x4⟩ := ha.get hx
      have hxr := hr _ (List.getElem_mem hil)
      have htk : l.take (i + 1) = l.take i ++ [l[i]] := List.take_succ_eq_append_getElem hil
      generalize l[i] = x at *
      have hjj := Lib.hid (hj.out x hxr)
      have hlt : ((l.take i).map fun x => lplus k x (Lk.of [])).length = i := by rw [List.length_map, List.length_take]; omega
      have hG : ((l.take (i + 1)).map fun x => lplus k x (Lk.of [])) = ((l.take i).map fun x => lplus k x (Lk.of [])) ++ [lplus k x (Lk.of [])] := by rw [htk]; simp
      replace hG := Lib.hid hG
      replace hlt := Lib.hid hlt
      clear htk
      replace hx := Lib.hid hx
      generalize hy : lplus k x (Lk.of []) = y at *
      replace hy := Lib.hid hy
      unfold Lk.v at hjj
      go_wp2_with (first
        | (go_at_call 83; refine (hjj.out _).mono ?_; rintro e w1 ⟨rfl, hb1⟩)
        | (at_builtin; refine wpList_pushL _ rfl _ _ rfl w.heap.size _ _ rfl ((ho.step hb1).alloc _) _ y rfl (Blk.new _ _ _) (by rw [hlt.out]; omega) (by have := hb.size; have := hb1.size; simp; omega) ?_; intro v' w2 hown1 hg1 hat1 hb2))
      have hb3 : Below w.heap.size wr w2 := hb2 wr ((hb1.mono hb.size).alloc (by have := hb.size; have := hb1.size; omega) _)
      go_roundg (n - (i + 1))
      case measure => have := hi.out; omega
      case rel => exact ⟨i + 1, by go_num, by have := hi.out; omega, by rw [hG.out]; exact hown1, ha.below hb3, hb2 w (bAlc (bStep hb hb1) _)⟩
    · have hil : l.take i = l := List.take_of_length_le (by have := hl.out; omega)
      rw [hil] at ho
      clear hil
      have hrm : ∀ y ∈ l.map (fun x => lplus k x (Lk.of [])), y.right 8 := by
        intro y hy
        obtain ⟨x, hx, rfl⟩ := List.mem_map.1 hy
        exact lplus_right hk (hr x hx) hn8
      have hPP := Lib.hid (show ∀ v w', OwnL w' w.heap.size v (lset (l.map fun x => lplus k x (Lk.of []))) → Below w.heap.size w w' → RetL w (lcut k l) (.returned v) w' from hP.out)
      have hln : (l.map fun x => lplus k x (Lk.of [])).length ≤ 100000 := by rw [List.length_map]; have := hl.out; omega
      generalize (l.map fun x => lplus k x (Lk.of [])) = m at *
      obtain ⟨A1, c1, rfl, hd1, hk1, hm1, hg1⟩ := ho.reads
      go_wp2_with (go_at_call 84; refine (sorted14_any 100000 A1 m.length c1 m _ hln (by omega) hd1 hrm hk1 hm1).mono ?_; rintro e w1 ⟨v, rfl, ho1, hb1⟩)
      go_ret
      exact hPP.out _ _ (ho1.mono hb.size) (bStep hb hb1)
set_option maxHeartbeats 2000000 in
theorem check14_ok (m : Int) (A : Option Addr) (n c : Nat) (l : List Lk) (w : World) (hm1 : 1 ≤ m) (hm8 : m ≤ 8) (hn : n ≤ 4681) (ha : RdL w w.heap.size A n l) (hr : ∀ x ∈ l, x.right m) (has : Asc l) :
    Calls Tryz.prog 116 #[.int .i64 m, .slice A n c] w fun e w' => e = .returned (.int .i64 0) ∧ Below w.heap.size w w' := by
  have hl := Lib.hid ha.1
  have has' := Lib.hid has
  clear has
  go_enter Tryz.func116, Tryz.ntmps116
  go_wp2_with (go_at_call 119; refine (range8_any m _).mono ?_; rintro e w1 ⟨rfl, rfl⟩; rw [if_neg (by omega)])
  go_loopg [6] n (fun gk s6 wr => ∃ i : Nat, s6 = .int .i64 i ∧ i + gk = n ∧ RdL wr w.heap.size A n l ∧ Below w.heap.size w wr)
  case atStart => exact ⟨0, rfl, by omega, ha, Below.refl _ _⟩
  case round =>
    clear ha
    obtain ⟨i, rfl, hi, ha, hb⟩ := hrel
    replace hi := Lib.hid hi
    by_cases hin : i < n
    · have hil : i < l.length := by have := hl.out; omega
      have hx : l[i]? = some l[i] := List.getElem?_eq_getElem hil
      obtain ⟨b, off, rfl, hbt, x0, x1, x2, x3, x4⟩ := ha.get hx
      have hxr := hr _ (List.getElem_mem hil)
      have hchk := Lib.hid (fun w => lcheck_any l[i] m w)
      have hx8 := right_mono hxr hm8 (by omega)
      unfold Lk.v at hchk
      cases i with
      | zero =>
        simp only [Nat.zero_mul, Nat.add_zero] at x0 x1 x2 x3 x4
        generalize hy : l[0] = x at *
        replace hy := Lib.hid hy
        replace hx := Lib.hid hx
        go_wp2_with (go_at_call 55; refine (hchk.out _).mono ?_; rintro e w1 ⟨rfl, hb1⟩; rw [show lchk x m = 0 from hxr])
        refine wp_region_kept (by kernel_rfl) (by kernel_rfl) ?_
        repeat (go_big_quiet_step (fail))
        refine wpQuiet_nil ?_
        rintro _ ⟨p, rfl⟩
        have hpk := p.kept
        generalize p.world = w2 at hpk
        go_wp2_with fail
        have hb3 : Below w.heap.size wr w2 := (hb1.mono hb.size).trans (hpk.mono (by have := hb.size; have := hb1.size; omega))
        go_roundg (n - 1)
        case measure => have := hi.out; omega
        case rel => exact ⟨1, by go_num, by have := hi.out; omega, ha.below hb3, bStep (bStep hb hb1) hpk⟩
      | succ j =>
        have hjl : j < l.length := by omega
        have hyx : l[j]? = some l[j] := List.getElem?_eq_getElem hjl
        obtain ⟨b', off', hbb, hbt', y0, y1, y2, y3, y4⟩ := ha.get hyx
        cases hbb
        have hyr := right_mono (hr _ (List.getElem_mem hjl)) hm8 (by omega)
        have hlt : lcmp l[j] l[j + 1] = -1 := List.pairwise_iff_getElem.1 has'.out j (j + 1) hjl hil (by omega)
        have hC := Lib.hid (fun w => cmp14_right l[j] l[j + 1] w hyr hx8)
        rw [hlt] at hC
        unfold Lk.v at hC
        generalize hxx : l[j + 1] = x at *
        generalize hyy : l[j] = y at *
        have hin2 : j < n := by omega
        replace hxx := Lib.hid hxx
        replace hyy := Lib.hid hyy
        replace hx := Lib.hid hx
        replace hyx := Lib.hid hyx
        replace hlt := Lib.hid hlt
        go_wp2_with (go_at_call 55; refine (hchk.out _).mono ?_; rintro e w1 ⟨rfl, hb1⟩; rw [show lchk x m = 0 from hxr])
        have hz : decide (0 < j + 1) = true := by simp
        have zI : ((j + 1 : Nat) : Int) - 1 = (j : Int) := by omega
        have z2 : (0 : Int) ≤ j := by omega
        have z3 : ((j + 1 : Nat) : Int) < n := by omega
        have z5 : (j : Int) < n := by omega
        have k0 := cell_kept (cell_later hb1 x0)
        have k1 := cell_kept (cell_later hb1 x1)
        have k2 := cell_kept (cell_later hb1 x2)
        have k3 := cell_kept (cell_later hb1 x3)
        have k4 := cell_kept (cell_later hb1 x4)
        have l0 := cell_kept (cell_later hb1 y0)
        have l1 := cell_kept (cell_later hb1 y1)
        have l2 := cell_kept (cell_later hb1 y2)
        have l3 := cell_kept (cell_later hb1 y3)
        have l4 := cell_kept (cell_later hb1 y4)
        refine wp_region_kept (by kernel_rfl) (by kernel_rfl) ?_
        repeat (go_big_quiet_step ((go_at_call 117; exact Calls.kept_by (hC.out _))))
        refine wpQuiet_nil ?_
        rintro _ ⟨p, rfl⟩
        have hpk := p.kept
        generalize p.world = w2 at hpk
        clear k0 k1 k2 k3 k4 l0 l1 l2 l3 l4
        go_wp2_with fail
        have hb3 : Below w.heap.size wr w2 := (hb1.mono hb.size).trans (hpk.mono (by have := hb.size; have := hb1.size; omega))
        go_roundg (n - (j + 2))
        case measure => have := hi.out; omega
        case rel => exact ⟨j + 2, by go_num, by have := hi.out; omega, ha.below hb3, bStep (bStep hb hb1) hpk⟩
    · go_wp2_with fail
      go_ret
      exact ⟨rfl, hb⟩
end Go.Proofs.YtnnkfgekiaaehaaGreat

/- The reference 14: Cut; the statements' own helpers on looks: has, SameLooks. -/
namespace Go.Proofs.YtnnkfgekiaaehaaGreat
open Go.ChangeShapes Go.WideShapes Go.ChangeAt Go.RowKit
set_option linter.unusedVariables false
def RetL0 (w : World) (l : List Lk) (e : Ending) (w' : World) : Prop := ∃ v, e = .returned (.tuple #[v, .int .i64 0]) ∧ OwnL w' w.heap.size v l ∧ Below w.heap.size w w'
end Go.Proofs.YtnnkfgekiaaehaaGreat
