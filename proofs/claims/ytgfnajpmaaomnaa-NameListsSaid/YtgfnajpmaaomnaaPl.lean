/- Plain functions of layer 3 (name) on byte strings: what is a word, a name, small, capital, and how two strings are ordered. No program in sight. -/
import Derived.WalkKit
import Derived.ProofKit
import Derived.Lib.Hide
namespace Go.Proofs.Ytgfnajpmaaomnaa
set_option linter.unusedVariables false

def letrI (r : Int) : Bool := decide ((97 ≤ r ∧ r ≤ 122) ∨ (65 ≤ r ∧ r ≤ 90))
def digiI (r : Int) : Bool := decide (48 ≤ r ∧ r ≤ 57)
def badI (i : Nat) (r : Int) : Bool := !letrI r && (decide (i = 0) || (!digiI r && decide (r ≠ 95)))
def byteAt (s : ByteArray) (i : Nat) : Int := ((s.data.toList.getD i 0).toNat : Int)
def goodB (s : ByteArray) (n : Nat) : Bool := (List.range n).all fun i => !badI i (byteAt s i)
def wordE (s : ByteArray) : Int := if s.size = 0 then 5 else if goodB s s.size = true then (if 12 < s.size then 4 else 0) else 3
def langB (s : ByteArray) : Bool := decide (s = ⟨#[108, 111, 111, 107, 97, 104, 101, 97, 100]⟩) || (decide (s = ⟨#[116, 111, 107, 101, 110]⟩) || (decide (s = ⟨#[115, 101, 112, 97, 114, 97, 116, 111, 114]⟩) || decide (s = ⟨#[115, 116, 97, 114, 116]⟩)))
def checkE (s : ByteArray) : Int := if wordE s = 0 ∧ langB s = true then 12 else wordE s
def smallB (s : ByteArray) : Bool := decide (checkE s = 0) && decide (97 ≤ byteAt s 0)
def capB (s : ByteArray) : Bool := decide (checkE s = 0) && decide (byteAt s 0 < 97)

theorem byteAt_lt (s : ByteArray) (i : Nat) : 0 ≤ byteAt s i ∧ byteAt s i < 256 := by
  unfold byteAt
  have := (s.data.toList.getD i 0).toNat_lt
  omega

theorem byteAt_get (s : ByteArray) (i : Nat) (h : i < s.size) : byteAt s i = ((s[i]'h).toNat : Int) := by
  have h' : i < s.data.toList.length := by simpa using h
  unfold byteAt
  rw [List.getD_eq_getElem?_getD, List.getElem?_eq_getElem h']
  rfl

theorem goodB_iff (s : ByteArray) (n : Nat) : goodB s n = true ↔ ∀ i, i < n → badI i (byteAt s i) = false := by
  simp [goodB, List.all_eq_true]

theorem wordE_empty (s : ByteArray) (h : s.size = 0) : wordE s = 5 := by simp [wordE, h]
theorem wordE_bad (s : ByteArray) (i : Nat) (h : i < s.size) (hb : badI i (byteAt s i) = true) : wordE s = 3 := by
  have hg : ¬ goodB s s.size = true := by
    rw [goodB_iff]; intro hh; rw [hh i h] at hb; cases hb
  have h0 : ¬ s.size = 0 := by omega
  unfold wordE
  rw [if_neg h0, if_neg hg]
theorem wordE_long (s : ByteArray) (hg : ∀ i, i < s.size → badI i (byteAt s i) = false) (h : 12 < s.size) : wordE s = 4 := by
  have h0 : ¬ s.size = 0 := by omega
  have hg := (goodB_iff s s.size).2 hg
  simp only [wordE, h0, hg, h, if_false, if_true]
theorem wordE_ok (s : ByteArray) (hg : ∀ i, i < s.size → badI i (byteAt s i) = false) (h0 : 0 < s.size) (h : ¬ 12 < s.size) : wordE s = 0 := by
  have h0 : ¬ s.size = 0 := by omega
  have hg := (goodB_iff s s.size).2 hg
  simp only [wordE, h0, hg, h, if_false, if_true]
theorem wordE_zero (s : ByteArray) (h : wordE s = 0) : 0 < s.size ∧ s.size ≤ 12 ∧ ∀ i, i < s.size → badI i (byteAt s i) = false := by
  unfold wordE at h
  split at h
  · cases h
  · split at h
    · rename_i h0 hg
      split at h
      · cases h
      · exact ⟨by omega, by omega, (goodB_iff _ _).1 hg⟩
    · cases h
theorem wordE_cases (s : ByteArray) : wordE s = 5 ∨ wordE s = 3 ∨ wordE s = 4 ∨ wordE s = 0 := by
  unfold wordE
  split
  · simp
  · split
    · split <;> simp
    · simp
/-- the first byte of a word is a letter -/
theorem word_first (s : ByteArray) (h : wordE s = 0) : letrI (byteAt s 0) = true := by
  obtain ⟨h0, _, hg⟩ := wordE_zero s h
  have := hg 0 h0
  simp only [badI, decide_true, Bool.true_or, Bool.and_true, Bool.not_eq_false'] at this
  exact this
theorem checkE_zero (s : ByteArray) (h : checkE s = 0) : wordE s = 0 ∧ langB s = false := by
  unfold checkE at h
  split at h
  · cases h
  · rename_i hn
    refine ⟨h, ?_⟩
    cases hl : langB s with
    | false => rfl
    | true => exact absurd ⟨h, hl⟩ hn

/-- comparison of two byte lists, byte by byte -/
def cmpL : List UInt8 → List UInt8 → Int
  | [], [] => 0
  | [], _ :: _ => -1
  | _ :: _, [] => 1
  | a :: l, b :: m => if a < b then -1 else if b < a then 1 else cmpL l m
def cmpB (a b : ByteArray) : Int := cmpL a.data.toList b.data.toList

open Op in
theorem less_iff : ∀ l m, bytesLess l m = decide (cmpL l m = -1)
  | [], [] => by simp [bytesLess, cmpL]
  | [], _ :: _ => by simp [bytesLess, cmpL]
  | _ :: _, [] => by simp [bytesLess, cmpL]
  | a :: l, b :: m => by
    simp only [bytesLess, cmpL]
    by_cases h1 : a < b
    · simp [h1]
    · by_cases h2 : b < a
      · have h3 : (a == b) = false := by
          simp only [beq_eq_false_iff_ne, ne_eq]; intro h; subst h; exact h1 h2
        simp [h1, h2, h3]
      · have h3 : a = b := by
          rw [UInt8.lt_iff_toNat_lt] at h1 h2; exact UInt8.toNat_inj.1 (by omega)
        subst h3
        simp [h1, less_iff l m]

theorem u8_tri (a b : UInt8) (h1 : ¬ a < b) (h2 : ¬ b < a) : a = b := by
  rw [UInt8.lt_iff_toNat_lt] at h1 h2
  exact UInt8.toNat_inj.1 (by omega)

theorem cmpL_refl : ∀ l, cmpL l l = 0
  | [] => rfl
  | a :: l => by
    have : ¬ a < a := by rw [UInt8.lt_iff_toNat_lt]; omega
    simp [cmpL, this, cmpL_refl l]
theorem cmpL_eq : ∀ l m, cmpL l m = 0 → l = m
  | [], [], _ => rfl
  | [], _ :: _, h => by simp [cmpL] at h
  | _ :: _, [], h => by simp [cmpL] at h
  | a :: l, b :: m, h => by
    simp only [cmpL] at h
    split at h
    · cases h
    · split at h
      · cases h
      · rename_i h1 h2
        rw [u8_tri a b h1 h2, cmpL_eq l m h]
theorem cmpL_anti : ∀ l m, cmpL m l = - cmpL l m
  | [], [] => rfl
  | [], _ :: _ => rfl
  | _ :: _, [] => rfl
  | a :: l, b :: m => by
    simp only [cmpL]
    by_cases h1 : a < b
    · have h2 : ¬ b < a := by rw [UInt8.lt_iff_toNat_lt] at *; omega
      simp [h1, h2]
    · by_cases h2 : b < a
      · simp [h1, h2]
      · simp [h1, h2, cmpL_anti l m]
theorem cmpL_vals : ∀ l m, cmpL l m = -1 ∨ cmpL l m = 0 ∨ cmpL l m = 1
  | [], [] => by simp [cmpL]
  | [], _ :: _ => by simp [cmpL]
  | _ :: _, [] => by simp [cmpL]
  | a :: l, b :: m => by
    simp only [cmpL]
    split
    · simp
    · split
      · simp
      · exact cmpL_vals l m
/-- the order is transitive, and strict on one side is strict altogether -/
theorem cmpL_trans : ∀ l m n, cmpL l m ≤ 0 → cmpL m n ≤ 0 → cmpL l n ≤ 0 ∧ (cmpL l m < 0 → cmpL l n < 0)
  | [], [], n, _, h => ⟨h, fun h => by simp [cmpL] at h⟩
  | [], b :: m, [], _, h => by simp [cmpL] at h
  | [], b :: m, c :: n, _, _ => by simp [cmpL]
  | a :: l, [], n, h, _ => by simp [cmpL] at h
  | a :: l, b :: m, [], _, h => by simp [cmpL] at h
  | a :: l, b :: m, c :: n, h1, h2 => by
    simp only [cmpL] at *
    by_cases ab : a < b
    · by_cases bc : b < c
      · have ac : a < c := by rw [UInt8.lt_iff_toNat_lt] at *; omega
        simp [ac]
      · by_cases cb : c < b
        · simp [bc, cb] at h2
        · have := u8_tri b c bc cb; subst this; simp [ab]
    · by_cases ba : b < a
      · simp [ab, ba] at h1
      · have := u8_tri a b ab ba; subst this
        by_cases bc : a < c
        · simp [bc]
        · by_cases cb : c < a
          · simp [bc, cb] at h2
          · simp only [bc, cb, if_false] at h2 ⊢
            simp only [ab, if_false] at h1 ⊢
            exact cmpL_trans l m n h1 h2
end Go.Proofs.Ytgfnajpmaaomnaa
