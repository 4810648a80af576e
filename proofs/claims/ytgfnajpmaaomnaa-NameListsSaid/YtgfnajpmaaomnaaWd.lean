/- Contracts of layer 3 (name): Make, Word, Language, Check, Small, Capital, Compare, of the program and of the reference. -/
import Derived.Test.YtgfnajpmaaomnaaPl
import Derived.Test.YtgfnajpmaaomnaaNm
import Derived.Deep.LoopGhost
import Derived.Lib.Strings
namespace Go.Proofs.Ytgfnajpmaaomnaa
open Go.ChangeShapes Go.WideShapes Go.ChangeAt Go.RowKit
set_option linter.unusedVariables false

def mkB (n : Int) (c : Bool) : ByteArray := if n < 0 ∨ 9999 < n then ByteArray.empty else (if c = true then ⟨#[78]⟩ else ⟨#[116]⟩) ++ decB 4 n.toNat
def mkE (n : Int) : Int := if n < 0 ∨ 9999 < n then 2 else 0

theorem ret_strint {a b : ByteArray} {c d : Int} (h : a = b) (h' : c = d) : Ending.returned (.tuple #[.string a, .int .i64 c]) = .returned (.tuple #[.string b, .int .i64 d]) := by rw [h, h']
theorem ret_bool {a b : Bool} (h : a = b) : Ending.returned (.bool a) = .returned (.bool b) := by rw [h]
theorem ret_int {k : IntKind} {a b : Int} (h : a = b) : Ending.returned (.int k a) = .returned (.int k b) := by rw [h]

theorem dec_size (c : ByteArray) (hc : c.size = 1) (k : Nat) : c.size + (decB 4 k).size ≤ 9223372036854775807 := by
  have := decB_size 4 k
  omega

theorem lett_any (r : Int) (w : World) : Calls Try.prog 46 #[.int .i32 r] w fun e w' => e = .returned (.bool (letrI r)) ∧ w = w' := by
  by_cases h1 : 97 ≤ r
  · by_cases h2 : r ≤ 122
    · go_enter Try.func46, Try.ntmps46
      go_wp2
      go_ret
      exact ⟨ret_bool (by simp [letrI]; omega), rfl⟩
    · have h3 : 65 ≤ r := by omega
      have h4 : ¬ r ≤ 90 := by omega
      go_enter Try.func46, Try.ntmps46
      go_wp2
      go_ret
      exact ⟨ret_bool (by simp [letrI]; omega), rfl⟩
  · by_cases h3 : 65 ≤ r
    · by_cases h4 : r ≤ 90
      · go_enter Try.func46, Try.ntmps46
        go_wp2
        go_ret
        exact ⟨ret_bool (by simp [letrI]; omega), rfl⟩
      · go_enter Try.func46, Try.ntmps46
        go_wp2
        go_ret
        exact ⟨ret_bool (by simp [letrI]; omega), rfl⟩
    · go_enter Try.func46, Try.ntmps46
      go_wp2
      go_ret
      exact ⟨ret_bool (by simp [letrI]; omega), rfl⟩

theorem digt_any (r : Int) (w : World) : Calls Try.prog 47 #[.int .i32 r] w fun e w' => e = .returned (.bool (digiI r)) ∧ w = w' := by
  by_cases h1 : 48 ≤ r
  · by_cases h2 : r ≤ 57
    · go_enter Try.func47, Try.ntmps47
      go_wp2
      go_ret
      exact ⟨ret_bool (by simp [digiI]; omega), rfl⟩
    · go_enter Try.func47, Try.ntmps47
      go_wp2
      go_ret
      exact ⟨ret_bool (by simp [digiI]; omega), rfl⟩
  · go_enter Try.func47, Try.ntmps47
    go_wp2
    go_ret
    exact ⟨ret_bool (by simp [digiI]; omega), rfl⟩

set_option maxHeartbeats 400000 in
theorem make_any (n : Int) (c : Bool) (w : World) : Calls Try.prog 15 #[.int .i64 n, .bool c] w fun e w' => e = .returned (.tuple #[.string (mkB n c), .int .i64 (mkE n)]) ∧ w = w' := by
  by_cases h1 : n < 0
  · go_enter Try.func15, Try.ntmps15
    go_wp2
    go_ret2
    exact ⟨ret_strint (by simp [mkB, h1]; rfl) (by simp [mkE, h1]), rfl⟩
  by_cases h2 : 9999 < n
  · go_enter Try.func15, Try.ntmps15
    go_wp2
    go_ret2
    exact ⟨ret_strint (by simp [mkB, h2]; rfl) (by simp [mkE, h2]), rfl⟩
  have hd := Lib.hid (dec_any 3 n w (by omega) (by omega) (by omega) (by omega))
  have s1 : (⟨#[78]⟩ : ByteArray).size + (decB 4 n.toNat).size ≤ 9223372036854775807 := dec_size _ rfl _
  have s2 : (⟨#[116]⟩ : ByteArray).size + (decB 4 n.toNat).size ≤ 9223372036854775807 := dec_size _ rfl _
  cases c
  · go_enter Try.func15, Try.ntmps15
    go_wp2_with fail
    refine hd.out.mono ?_
    rintro e w' ⟨rfl, rfl⟩
    go_wp2_with fail
    go_ret2
    exact ⟨ret_strint (by simp only [mkB]; rw [if_neg (by omega), if_neg (by simp)]) (by simp only [mkE]; rw [if_neg (by omega)]), rfl⟩
  · go_enter Try.func15, Try.ntmps15
    go_wp2_with fail
    refine hd.out.mono ?_
    rintro e w' ⟨rfl, rfl⟩
    go_wp2_with fail
    go_ret2
    exact ⟨ret_strint (by simp only [mkB]; rw [if_neg (by omega), if_pos trivial]) (by simp only [mkE]; rw [if_neg (by omega)]), rfl⟩

set_option maxHeartbeats 400000 in
theorem rmake_any (n : Int) (c : Bool) (w : World) : Calls Try.prog 16 #[.int .i64 n, .bool c] w fun e w' => e = .returned (.tuple #[.string (mkB n c), .int .i64 (mkE n)]) ∧ ∃ k, w' = w.drewN k := by
  by_cases h1 : n < 0
  · go_enter Try.func16, Try.ntmps16
    go_wp2
    go_ret2
    exact ⟨ret_strint (by simp [mkB, h1]; rfl) (by simp [mkE, h1]), 0, rfl⟩
  by_cases h2 : 9999 < n
  · go_enter Try.func16, Try.ntmps16
    go_wp2
    go_ret2
    exact ⟨ret_strint (by simp [mkB, h2]; rfl) (by simp [mkE, h2]), 0, rfl⟩
  have hd := Lib.hid (rdec_any 3 n w (by omega) (by omega) (by omega) (by omega))
  have s1 : (⟨#[78]⟩ : ByteArray).size + (decB 4 n.toNat).size ≤ 9223372036854775807 := dec_size _ rfl _
  have s2 : (⟨#[116]⟩ : ByteArray).size + (decB 4 n.toNat).size ≤ 9223372036854775807 := dec_size _ rfl _
  cases c
  · go_enter Try.func16, Try.ntmps16
    go_wp2_with fail
    refine hd.out.mono ?_
    rintro e w' ⟨rfl, k, rfl⟩
    go_wp2_with fail
    go_ret2
    exact ⟨ret_strint (by simp only [mkB]; rw [if_neg (by omega), if_neg (by simp)]) (by simp only [mkE]; rw [if_neg (by omega)]), k, rfl⟩
  · go_enter Try.func16, Try.ntmps16
    go_wp2_with fail
    refine hd.out.mono ?_
    rintro e w' ⟨rfl, k, rfl⟩
    go_wp2_with fail
    go_ret2
    exact ⟨ret_strint (by simp only [mkB]; rw [if_neg (by omega), if_pos trivial]) (by simp only [mkE]; rw [if_neg (by omega)]), k, rfl⟩

theorem decode_bad (s : ByteArray) (pos i : Nat) (h : pos < s.size) (hb : badI i (Utf8.decode s pos).1 = false) :
    (Utf8.decode s pos).2 = 1 ∧ ((Utf8.decode s pos).1 : Int) = byteAt s pos := by
  by_cases ha : (s[pos]'h).toNat < 128
  · rw [decode_ascii s pos h ha]
    exact ⟨rfl, (byteAt_get s pos h).symm⟩
  · have := (decode_high s pos h (by omega)).1
    exfalso
    have h1 : letrI ((Utf8.decode s pos).1 : Int) = false := by simp [letrI]; omega
    have h2 : digiI ((Utf8.decode s pos).1 : Int) = false := by simp [digiI]; omega
    have h3 : ¬ ((Utf8.decode s pos).1 : Int) = 95 := by omega
    simp [badI, h1, h2, h3] at hb

theorem decode_good (s : ByteArray) (pos i : Nat) (h : pos < s.size) (hb : badI i (Utf8.decode s pos).1 = true) : badI i (byteAt s pos) = true := by
  by_cases ha : (s[pos]'h).toNat < 128
  · rw [decode_ascii s pos h ha] at hb
    rw [byteAt_get s pos h]; exact hb
  · rw [byteAt_get s pos h]
    generalize ((s[pos]'h).toNat) = b at *
    have h1 : letrI (b : Int) = false := by simp [letrI]; omega
    have h2 : digiI (b : Int) = false := by simp [digiI]; omega
    have h3 : ¬ (b : Int) = 95 := by omega
    simp [badI, h1, h2, h3]

theorem empty_of (s : ByteArray) (h : s.size = 0) : s = ⟨#[]⟩ := by
  obtain ⟨⟨l⟩⟩ := s
  have : l = [] := by simpa [ByteArray.size] using h
  rw [this]

theorem not_empty (s : ByteArray) (h : ¬ s.size = 0) : s.toList.isEmpty = false := by
  rw [ByteArray.toList_eq]
  cases hl : s.data.toList with
  | nil => exfalso; apply h; have := congrArg List.length hl; simpa using this
  | cons a l => rfl

theorem below_iter (w : World) (s : ByteArray) (p : Nat) : Below w.heap.size w (w.iter s p) := (Below.refl _ _).alloc (Nat.le_refl _) _

theorem badI_lett (i : Nat) (r : Int) (h : letrI r = true) : badI i r = false := by simp [badI, h]
theorem badI_first (i : Nat) (r : Int) (h : letrI r = false) (h0 : i = 0) : badI i r = true := by simp [badI, h, h0]
theorem badI_digt (i : Nat) (r : Int) (h : letrI r = false) (h0 : ¬ i = 0) (hd : digiI r = true) : badI i r = false := by simp [badI, h, h0, hd]
theorem badI_dash (i : Nat) (r : Int) (h : letrI r = false) (h0 : ¬ i = 0) (hd : digiI r = false) (h9 : r = 95) : badI i r = false := by simp [badI, h0, h9]
theorem badI_else (i : Nat) (r : Int) (h : letrI r = false) (h0 : ¬ i = 0) (hd : digiI r = false) (h9 : ¬ r = 95) : badI i r = true := by simp [badI, h, h0, hd, h9]

theorem goods_succ (s : ByteArray) (pos : Nat) (hg : ∀ j, j < pos → badI j (byteAt s j) = false) (h : badI pos (byteAt s pos) = false) :
    ∀ j, j < pos + 1 → badI j (byteAt s j) = false := by
  intro j hj
  by_cases h' : j < pos
  · exact hg j h'
  · obtain rfl : j = pos := by omega
    exact h

set_option maxHeartbeats 1000000 in
theorem word_any (s : ByteArray) (w : World) (hs : s.size ≤ maxLen) : Calls Try.prog 21 #[.string s] w fun e w' => e = .returned (.int .i64 (wordE s)) ∧ Below w.heap.size w w' := by
  unfold maxLen at hs
  by_cases h0 : s.size = 0
  · have hw := Lib.hid (wordE_empty s h0)
    obtain rfl := empty_of s h0
    clear h0 hs
    go_enter Try.func21, Try.ntmps21
    go_wp2
    go_ret
    exact ⟨ret_int hw.out.symm, Below.refl _ _⟩
  · have hne := not_empty s h0
    go_enter Try.func21, Try.ntmps21
    go_wp2
    go_loopg [3] s.size (fun k i wr => ∃ pos : Nat, wr = w.iter s pos ∧ pos + k = s.size ∧ ∀ j, j < pos → badI j (byteAt s j) = false)
    case atStart => exact ⟨0, rfl, by omega, fun j hj => absurd hj (Nat.not_lt_zero _)⟩
    case round =>
      obtain ⟨pos, rfl, hk, hg⟩ := hrel
      have hg := Lib.hid hg
      by_cases hp : pos < s.size
      · have hnx : ∀ ty, (Instr.next (.pointer (some ⟨w.heap.size, 0, none⟩)) true ty).run Try.prog (w.iter s pos) = _ := fun ty => run_next_any w s pos ty hp
        have HB := Lib.hid (decode_bad s pos pos hp)
        have HG := Lib.hid (decode_good s pos pos hp)
        generalize hr : (((Utf8.decode s pos).1 : Nat) : Int) = r at hnx HB HG
        generalize hv : (Utf8.decode s pos).2 = v at hnx HB HG
        clear hr hv
        have hpz : 0 ≤ (pos : Int) := by omega
        cases hl : letrI r
        · by_cases hz : pos = 0
          · have hB := Lib.hid (badI_first pos r hl hz)
            have hzb : ((pos : Int) == 0) = true := by simp [hz]
            have hW := Lib.hid (wordE_bad s pos hp (HG.out hB.out))
            clear hz
            go_wp2_with fail
            refine (lett_any r _).mono ?_
            rintro e w' ⟨rfl, rfl⟩
            go_wp2_with fail
            go_ret
            exact ⟨ret_int hW.out.symm, below_iter _ _ _⟩
          · have hzb : ((pos : Int) == 0) = false := by simp; omega
            cases hd : digiI r
            · by_cases h9 : r = 95
              · have hB := badI_dash pos r hl hz hd h9
                have h9b : (r != 95) = false := by simp [h9]
                have hB := Lib.hid hB
                clear h9
                go_wp2_with fail
                refine (lett_any r _).mono ?_
                rintro e w' ⟨rfl, rfl⟩
                go_wp2_with fail
                refine (digt_any r _).mono ?_
                rintro e w' ⟨rfl, rfl⟩
                go_wp2_with fail
                obtain ⟨hv, hrb⟩ := HB.out hB.out
                have hB2 := hB.out
                rw [hrb] at hB2
                subst hv
                go_roundg (s.size - (pos + 1))
                case measure => omega
                case rel => exact ⟨pos + 1, rfl, by omega, goods_succ s pos hg.out hB2⟩
              · have hB := Lib.hid (badI_else pos r hl hz hd h9)
                have h9b : (r != 95) = true := by simp [h9]
                have hW := Lib.hid (wordE_bad s pos hp (HG.out hB.out))
                clear h9
                go_wp2_with fail
                refine (lett_any r _).mono ?_
                rintro e w' ⟨rfl, rfl⟩
                go_wp2_with fail
                refine (digt_any r _).mono ?_
                rintro e w' ⟨rfl, rfl⟩
                go_wp2_with fail
                go_ret
                exact ⟨ret_int hW.out.symm, below_iter _ _ _⟩
            · have hB := Lib.hid (badI_digt pos r hl hz hd)
              go_wp2_with fail
              refine (lett_any r _).mono ?_
              rintro e w' ⟨rfl, rfl⟩
              go_wp2_with fail
              refine (digt_any r _).mono ?_
              rintro e w' ⟨rfl, rfl⟩
              go_wp2_with fail
              obtain ⟨hv, hrb⟩ := HB.out hB.out
              have hB2 := hB.out
              rw [hrb] at hB2
              subst hv
              go_roundg (s.size - (pos + 1))
              case measure => omega
              case rel => exact ⟨pos + 1, rfl, by omega, goods_succ s pos hg.out hB2⟩
        · have hB := Lib.hid (badI_lett pos r hl)
          go_wp2_with fail
          refine (lett_any r _).mono ?_
          rintro e w' ⟨rfl, rfl⟩
          go_wp2_with fail
          obtain ⟨hv, hrb⟩ := HB.out hB.out
          have hB2 := hB.out
          rw [hrb] at hB2
          subst hv
          go_roundg (s.size - (pos + 1))
          case measure => omega
          case rel => exact ⟨pos + 1, rfl, by omega, goods_succ s pos hg.out hB2⟩
      · have hnx : ∀ ty, (Instr.next (.pointer (some ⟨w.heap.size, 0, none⟩)) true ty).run Try.prog (w.iter s pos) = _ := fun ty => run_next_end w s pos ty hp
        have hps : pos = s.size := by omega
        have hg2 : ∀ j, j < s.size → badI j (byteAt s j) = false := by intro j hj; exact hg.out j (by omega)
        clear hg hk
        by_cases hl : 12 < s.size
        · have hW := Lib.hid (wordE_long s hg2 hl)
          clear hg2 hps
          go_wp2
          go_ret
          exact ⟨ret_int hW.out.symm, below_iter _ _ _⟩
        · have hW := Lib.hid (wordE_ok s hg2 (by omega) hl)
          clear hg2 hps
          go_wp2
          go_ret
          exact ⟨ret_int hW.out.symm, below_iter _ _ _⟩
end Go.Proofs.Ytgfnajpmaaomnaa
