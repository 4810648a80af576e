/- The sort of strings by a method value: heapSort. -/
import Derived.Test.YtgfnajpmaaomnaaSh
namespace Go.Proofs.Ytgfnajpmaaomnaa
open Go.ChangeShapes Go.WideShapes Go.ChangeAt Go.RowKit
open Go.Sort (swp PermIn SortedIn SWO permIn_refl permIn_trans swp_permIn siftDown heapBuild heapPop heapSort)
set_option linter.unusedVariables false

theorem size_sift : ∀ (n hi first root : Nat) (d : Array ByteArray), hi - root ≤ n → (siftDown ltB hi first root d).size = d.size
  | 0, hi, first, root, d, h => by rw [sift_end _ _ _ _ (by omega)]
  | n + 1, hi, first, root, d, h => by
    by_cases he : hi ≤ 2 * root + 1
    · rw [sift_end _ _ _ _ he]
    · rw [sift_step _ _ _ _ he]
      split
      · rw [size_sift n]
        · simp [swp]
        · unfold chil; split <;> omega
      · rfl

set_option maxHeartbeats 1000000 in
theorem heap_any (g cap a b : Nat) (d : Array ByteArray) (w0 w : World) (S : RowS w0 w g d) (hb : b ≤ d.size) (hl : a + 1 ≤ b) (hsz : d.size ≤ 1000) :
    Calls Try.prog 63 #[.slice (some ⟨g, 0, none⟩) d.size cap, .int .i64 a, .int .i64 b, .func (Fn.func 57) #[.agg #[]] #[]] w fun e w' => e = .returned (.tuple #[]) ∧ RowS w0 w' g (heapSort ltB d a b) := by
  obtain ⟨l, hbl⟩ : ∃ l, b = a + l := ⟨b - a, by omega⟩
  have hlz : (b : Int) - a = (l : Int) := by omega
  obtain ⟨q, hq⟩ : ∃ q, q = (l - 1) / 2 := ⟨_, rfl⟩
  have hqz : ((l : Int) - 1) / 2 = (q : Int) := by omega
  have hql : q + 1 ≤ l := by omega
  have hH : heapSort ltB d a b = heapPop ltB a l (heapBuild ltB l a (q + 1) d) := by
    unfold heapSort
    rw [show b - a = l by omega, hq]
  rw [hH]
  replace S := Lib.hid S
  replace hbl := Lib.hid hbl
  replace hq := Lib.hid hq
  have zl : (1 : Int) ≤ l := by have := hbl.out; omega
  have zl2 : (l : Int) ≤ 1000 := by have := hbl.out; omega
  have zq : (0 : Int) ≤ q := by omega
  generalize hE : heapBuild ltB l a (q + 1) d = dE
  replace hE := Lib.hid hE
  clear hH
  replace hqz := Lib.hid hqz
  go_enter Try.func63, Try.ntmps63
  go_wp2_with fail
  go_loopg [11] (q + 1) (fun k vi wr => ∃ (i : Nat) (dk : Array ByteArray), vi = .int .i64 ((i : Int) - 1) ∧ i ≤ q + 1 ∧ i ≤ k ∧ dk.size = d.size ∧ RowS w0 wr g dk ∧ heapBuild ltB l a i dk = dE)
  case atStart => exact ⟨q + 1, d, by rw [hqz.out]; go_num, Nat.le_refl _, Nat.le_refl _, rfl, S.out, hE.out⟩
  case round =>
    obtain ⟨i, dk, rfl, hi, hik, hsk, S1, hG⟩ := hrel
    replace S1 := Lib.hid S1
    replace hG := Lib.hid hG
    cases i with
    | succ i =>
      have hz : ((i + 1 : Nat) : Int) - 1 = (i : Int) := by omega
      have hz0 : (0 : Int) ≤ (i : Int) := by omega
      go_wp2_with fail
      rw [← hsk]
      refine (sift_any g cap i l a dk w0 _ S1.out (by have := hbl.out; omega) (by omega) (by omega)).mono ?_
      rintro e w1 ⟨rfl, S2⟩
      have hG2 := Lib.hid (show heapBuild ltB l a i (siftDown ltB l a i dk) = dE from hG.out)
      have hs2 := size_sift _ l a i dk (Nat.le_refl _)
      generalize siftDown ltB l a i dk = d2 at S2 hG2 hs2
      replace S2 := Lib.hid S2
      rw [hsk]
      rw [hsk] at hs2
      go_wp2_with fail
      go_roundg i
      case measure => omega
      case rel => exact ⟨i, d2, by first | rfl | go_num, by omega, Nat.le_refl _, hs2, S2.out, hG2.out⟩
    | zero =>
      have hz : ((0 : Nat) : Int) - 1 = -1 := rfl
      have hdE : dk = dE := hG.out
      subst hdE
      go_wp2_with fail
      generalize hF : heapPop ltB a l dk = dF
      replace hF := Lib.hid hF
      clear hG
      go_loopg [12] l (fun k vi wr => ∃ (i : Nat) (dj : Array ByteArray), vi = .int .i64 ((i : Int) - 1) ∧ i ≤ l ∧ i ≤ k ∧ dj.size = d.size ∧ RowS w0 wr g dj ∧ heapPop ltB a i dj = dF)
      case atStart => exact ⟨l, dk, rfl, Nat.le_refl _, Nat.le_refl _, hsk, S1.out, hF.out⟩
      case round =>
        obtain ⟨i, dj, rfl, hi, hik, hsj, S3, hG⟩ := hrel
        replace S3 := Lib.hid S3
        replace hG := Lib.hid hG
        clear S1
        cases i with
        | succ i =>
          have hz2 : ((i + 1 : Nat) : Int) - 1 = (i : Int) := by omega
          have hz0 : (0 : Int) ≤ (i : Int) := by omega
          obtain ⟨ap, hap⟩ : ∃ ap, ap = a + i := ⟨_, rfl⟩
          have hapz : (a : Int) + i = (ap : Int) := by omega
          replace hap := Lib.hid hap
          have zap : (ap : Int) < d.size := by have := hap.out; have := hbl.out; omega
          have zap0 : (0 : Int) ≤ ap := by omega
          have za : (a : Int) < d.size := by have := hbl.out; omega
          have za0 : (0 : Int) ≤ a := by omega
          obtain ⟨d1, d2, f1, f2, u, d3⟩ := S3.out.two a ap (by have := hbl.out; omega) (by have := hap.out; have := hbl.out; omega)
          have S4 := Lib.hid (S3.out.swp a ap)
          have hs4 : (swp dj a ap).size = d.size := by simpa [swp] using hsj
          have hG4 := Lib.hid (show heapPop ltB a i (siftDown ltB i a 0 (swp dj a ap)) = dF by rw [hap.out]; exact hG.out)
          generalize dj[a]! = x at d1 d2 d3 S4
          generalize dj[ap]! = y at d2 d3 S4
          generalize swp dj a ap = d5 at S4 hs4 hG4
          go_wp2_with fail
          go_region
          generalize ((wr.setCell ⟨g, a, none⟩ (.string y)).setCell ⟨g, ap, none⟩ (.string x)).drew = w3 at S4
          clear d1 d2 d3 f1 f2 S3 hG
          go_wp2_with fail
          rw [← hs4]
          refine (sift_any g cap 0 i a d5 w0 _ S4.out (by have := hbl.out; omega) (by omega) (by omega)).mono ?_
          rintro e w1 ⟨rfl, S2⟩
          have hs2 := size_sift _ i a 0 d5 (Nat.le_refl _)
          generalize siftDown ltB i a 0 d5 = d6 at S2 hG4 hs2
          replace S2 := Lib.hid S2
          rw [hs4]
          rw [hs4] at hs2
          go_wp2_with fail
          go_roundg i
          case measure => omega
          case rel => exact ⟨i, d6, by first | rfl | go_num, by omega, Nat.le_refl _, hs2, S2.out, hG4.out⟩
        | zero =>
          have hdF : dj = dF := hG.out
          go_wp2_with fail
          go_end0
          exact ⟨rfl, by rw [hF.out, ← hdF]; exact S3.out⟩
end Go.Proofs.Ytgfnajpmaaomnaa
