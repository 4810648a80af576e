/- Contracts of the functions of layer 3 (name): decimal, Make and what they reach. -/
import Derived.Test.YtgfnajpmaaomnaaRows
import Derived.WalkKit
import Derived.ProofKit
import Derived.OpenShut
import Derived.ShutString
import Derived.WalkLawsBesides
import Derived.WalkSpells
import Derived.Below
import Derived.Lib.Hide
import Derived.Outline
import Derived.Deep.QuietTactic
import Derived.BigQuiet
import Derived.IntWalk
namespace Go.Proofs.Ytgfnajpmaaomnaa
open Go.ChangeShapes Go.WideShapes Go.ChangeAt Go.RowKit
set_option linter.unusedVariables false

/-- the decimal digits of a number, by fuel -/
def decF : Nat → Nat → List UInt8
  | 0, _ => []
  | f + 1, n => if n < 10 then [(48 + n).toUInt8] else decF f (n / 10) ++ [(48 + n % 10).toUInt8]

def strB (l : List UInt8) : ByteArray := ⟨l.toArray⟩

theorem strB_append (a b : List UInt8) : strB a ++ strB b = strB (a ++ b) := by
  apply ByteArray.ext; simp [strB, ByteArray.data_append]

/-- one digit, and a number's digits, as strings: kept closed to the walk -/
def digB (k : Nat) : ByteArray := strB [(48 + k).toUInt8]
def decB (f n : Nat) : ByteArray := strB (decF f n)

theorem digs (n : Int) (h0 : 0 ≤ n) (h : n < 10) : n = 0 ∨ n = 1 ∨ n = 2 ∨ n = 3 ∨ n = 4 ∨ n = 5 ∨ n = 6 ∨ n = 7 ∨ n = 8 ∨ n = 9 := by omega

theorem enc_dig (n : Int) (h0 : 0 ≤ n) (h : n < 10) : Utf8.encode (48 + n) = digB n.toNat := by
  rcases digs n h0 h with rfl | rfl | rfl | rfl | rfl | rfl | rfl | rfl | rfl | rfl <;> decide +kernel

theorem cut_dig (n : Int) (h0 : 0 ≤ n) (h : n < 10) : ({ data := #[48, 49, 50, 51, 52, 53, 54, 55, 56, 57] } : ByteArray).extract n.toNat (n + 1).toNat = digB n.toNat := by
  rcases digs n h0 h with rfl | rfl | rfl | rfl | rfl | rfl | rfl | rfl | rfl | rfl <;> decide +kernel

theorem ret_str {a b : ByteArray} (h : a = b) : Ending.returned (.string a) = .returned (.string b) := by rw [h]

theorem decB_small (f n : Nat) (h : n < 10) : decB (f + 1) n = digB n := by simp [decB, decF, h, digB]
theorem decB_big (f n : Nat) (h : ¬ n < 10) : decB (f + 1) n = decB f (n / 10) ++ digB (n % 10) := by
  simp only [decB, digB, strB_append, decF, h, if_false]

theorem digB_size (k : Nat) : (digB k).size = 1 := rfl
theorem decF_len : ∀ f n, (decF f n).length ≤ f
  | 0, _ => by simp [decF]
  | f + 1, n => by
    have := decF_len f (n / 10)
    by_cases h : n < 10 <;> simp [decF, h]
    omega
theorem strB_size (l : List UInt8) : (strB l).size = l.length := by simp [strB, ByteArray.size]
theorem decB_size (f n : Nat) : (decB f n).size ≤ f := by rw [decB, strB_size]; exact decF_len f n

set_option maxHeartbeats 400000 in
theorem dec1 (n : Int) (w : World) (h0 : 0 ≤ n) (h : n < 10) :
    Calls Try.prog 44 #[.int .i64 n] w fun e w' => e = .returned (.string (digB n.toNat)) ∧ w = w' := by
  go_enter Try.func44, Try.ntmps44
  go_wp2
  go_ret
  exact ⟨ret_str (enc_dig n h0 h), rfl⟩

theorem pow_step (f : Nat) (n : Int) (h0 : 0 ≤ n) (h : n < 10 ^ (f + 1 + 1)) : n / 10 < 10 ^ (f + 1) := by
  rw [Int.pow_succ] at h
  generalize (10 : Int) ^ (f + 1) = t at *
  omega

theorem step_dec (f : Nat) (n : Int) (h0 : 0 ≤ n) (h : ¬ n < 10) : decB (f + 1) (n / 10).toNat ++ digB (n % 10).toNat = decB (f + 1 + 1) n.toNat := by
  rw [decB_big (f + 1) n.toNat (by omega), show (n / 10).toNat = n.toNat / 10 by omega, show (n % 10).toNat = n.toNat % 10 by omega]

set_option maxHeartbeats 400000 in
theorem dec_any : ∀ (f : Nat) (n : Int) (w : World), 0 ≤ n → n ≤ 9999 → f ≤ 3 → n < 10 ^ (f + 1) →
    Calls Try.prog 44 #[.int .i64 n] w fun e w' => e = .returned (.string (decB (f + 1) n.toNat)) ∧ w = w'
  | 0, n, w, h0, _, _, h => by
    have h' : n < 10 := by simpa using h
    refine (dec1 n w h0 h').mono ?_
    rintro e w' ⟨rfl, rfl⟩
    exact ⟨ret_str (by rw [decB_small _ _ (by omega)]), rfl⟩
  | f + 1, n, w, h0, h9, hf, h => by
    by_cases h' : n < 10
    · refine (dec1 n w h0 h').mono ?_
      rintro e w' ⟨rfl, rfl⟩
      exact ⟨ret_str (by rw [decB_small _ _ (by omega)]), rfl⟩
    · have hp := pow_step f n h0 h
      clear h
      have ih := Lib.hid (dec_any f (n / 10) w (by omega) (by omega) (by omega) hp)
      have hE := Lib.hid (step_dec f n h0 h')
      clear hp
      have hs : (decB (f + 1) (n / 10).toNat).size + (digB (n % 10).toNat).size ≤ 9223372036854775807 := by
        have := decB_size (f + 1) (n / 10).toNat
        rw [digB_size]; omega
      go_enter Try.func44, Try.ntmps44
      go_wp2_with fail
      refine (ih.out).mono ?_
      rintro e w' ⟨rfl, rfl⟩
      go_wp2_with fail
      refine (dec1 (n % 10) _ (by omega) (by omega)).mono ?_
      rintro e w' ⟨rfl, rfl⟩
      go_wp2_with fail
      go_ret
      exact ⟨ret_str hE.out, rfl⟩

set_option maxHeartbeats 400000 in
theorem rdec1 (n : Int) (w : World) (h0 : 0 ≤ n) (h : n < 10) :
    Calls Try.prog 45 #[.int .i64 n] w fun e w' => e = .returned (.string (digB n.toNat)) ∧ w = w' := by
  go_enter Try.func45, Try.ntmps45
  go_wp2
  go_ret
  exact ⟨ret_str (cut_dig n h0 h), rfl⟩

theorem cut_run (n : Int) (h0 : 0 ≤ n) (h : n < 10) (wx : World) :
    (Instr.slice 9 (.string ⟨#[48, 49, 50, 51, 52, 53, 54, 55, 56, 57]⟩) (some (.int .i64 n)) (some (.int .i64 (n + 1))) none).run Try.prog wx = .ok (.string (digB n.toNat)) wx := by
  rw [run_slice_string_if _ _ _ _ _ _ _ Try.underlying9, if_pos ⟨by omega, by show n + 1 ≤ ((10 : Nat) : Int); omega⟩, if_pos ⟨h0, by omega⟩, cut_dig n h0 h]

set_option maxHeartbeats 400000 in
theorem rdec_any : ∀ (f : Nat) (n : Int) (w : World), 0 ≤ n → n ≤ 9999 → f ≤ 3 → n < 10 ^ (f + 1) →
    Calls Try.prog 45 #[.int .i64 n] w fun e w' => e = .returned (.string (decB (f + 1) n.toNat)) ∧ ∃ k, w' = w.drewN k
  | 0, n, w, h0, _, _, h => by
    have h' : n < 10 := by simpa using h
    refine (rdec1 n w h0 h').mono ?_
    rintro e w' ⟨rfl, rfl⟩
    exact ⟨ret_str (by rw [decB_small _ _ (by omega)]), 0, rfl⟩
  | f + 1, n, w, h0, h9, hf, h => by
    by_cases h' : n < 10
    · refine (rdec1 n w h0 h').mono ?_
      rintro e w' ⟨rfl, rfl⟩
      exact ⟨ret_str (by rw [decB_small _ _ (by omega)]), 0, rfl⟩
    · have hp := pow_step f n h0 h
      clear h
      have ih := Lib.hid (fun k => Calls.quiet_of (w := w) (n := k) (rdec_any f (n / 10) (w.drewN k) (by omega) (by omega) (by omega) hp))
      have hE := Lib.hid (step_dec f n h0 h')
      clear hp
      have hs : (decB (f + 1) (n / 10).toNat).size + (digB (n % 10).toNat).size ≤ 9223372036854775807 := by
        have := decB_size (f + 1) (n / 10).toNat
        rw [digB_size]; omega
      have m1 : 0 ≤ n % 10 := by omega
      have m2 : n % 10 < 10 := by omega
      have g1 : IntKind.i64.wrap (n.tdiv 10) = n / 10 := by rw [Int.tdiv_eq_ediv_of_nonneg h0]; exact IntWalk.i64_in _ (by omega)
      have g2 : n.tmod 10 = n % 10 := Int.tmod_eq_emod_of_nonneg h0
      have g3 : IntKind.i64.wrap (n % 10 + 1) = n % 10 + 1 := IntWalk.i64_in _ (by omega)
      have g4 : (n % 10 + 1).toNat = (n % 10).toNat + 1 := by omega
      have hsl := cut_run (n % 10) m1 m2
      clear g4
      go_enter Try.func45, Try.ntmps45
      go_wp2_with fail
      go_quiet ((go_at_call 45; exact ih.out _))
      go_wp2_with fail
      go_ret
      exact ⟨ret_str hE.out, _, rfl⟩

end Go.Proofs.Ytgfnajpmaaomnaa
