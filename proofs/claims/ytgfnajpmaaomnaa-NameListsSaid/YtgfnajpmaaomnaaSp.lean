/- The sort of strings by a method value: breakPatterns. -/
import Derived.Test.YtgfnajpmaaomnaaSb
namespace Go.Proofs.Ytgfnajpmaaomnaa
open Go.ChangeShapes Go.WideShapes Go.ChangeAt Go.RowKit
open Go.Sort (swp PermIn permIn_refl permIn_trans swp_permIn)
set_option linter.unusedVariables false

/-- the row, and a random number in a block of its own -/
def RowX (w0 w : World) (g : Nat) (d : Array ByteArray) (c : Nat) : Prop :=
  RowS w0 w g d ∧ w0.heap.size ≤ c ∧ ∃ r : Int, w.heap[c]? = some (.cells #[.int .u64 r] 77 (0, 0))

theorem RowX.lt {w0 w : World} {g c : Nat} {d : Array ByteArray} (h : RowX w0 w g d c) : c < w.heap.size := by
  obtain ⟨_, _, r, hc⟩ := h
  rcases Nat.lt_or_ge c w.heap.size with hlt | hge
  · exact hlt
  · rw [Array.getElem?_eq_none hge] at hc; cases hc
theorem RowX.ne {w0 w : World} {g c : Nat} {d : Array ByteArray} (h : RowX w0 w g d c) : g ≠ c := by
  obtain ⟨⟨_, _, cur, hg, _⟩, _, r, hc⟩ := h
  intro e; subst e; rw [hg] at hc; injection hc with hc; injection hc with _ ht; cases ht
theorem RowX.cell {w0 w : World} {g c : Nat} {d : Array ByteArray} (h : RowX w0 w g d c) : ∃ r : Int, w.cell? ⟨c, 0, none⟩ = some (.int .u64 r) ∧ w.frozen? ⟨c, 0, none⟩ = false := by
  obtain ⟨_, _, r, hc⟩ := h
  exact ⟨r, by simp [World.cell?, hc], by simp [World.frozen?, hc]⟩
theorem RowX.next {w0 w : World} {g c : Nat} {d : Array ByteArray} (h : RowX w0 w g d c) (v : Int) (k : Nat) : RowX w0 ((w.setCell ⟨c, 0, none⟩ (.int .u64 v)).drewN k) g d c := by
  have hne := h.ne
  obtain ⟨⟨h1, h2, cur, hg, hs, hc⟩, h3, r, h4⟩ := h
  refine ⟨⟨below_drewN (Below.setCell h1 h3 _) k, h2, cur, ?_, hs, hc⟩, h3, v, ?_⟩
  · show (w.setCell ⟨c, 0, none⟩ (.int .u64 v)).heap[g]? = _
    rw [Below.heap_setCell _ _ _ _ hne]; exact hg
  · show (w.setCell ⟨c, 0, none⟩ (.int .u64 v)).heap[c]? = _
    simp [World.setCell, Array.getElem?_modify, h4]
theorem RowX.swp {w0 w : World} {g c : Nat} {d : Array ByteArray} (h : RowX w0 w g d c) (i j : Nat) : RowX w0 ((w.setCell ⟨g, i, none⟩ (.string d[j]!)).setCell ⟨g, j, none⟩ (.string d[i]!)).drew g (swp d i j) c := by
  have hne := h.ne
  refine ⟨h.1.swp i j, h.2.1, ?_⟩
  obtain ⟨_, _, r, h4⟩ := h
  refine ⟨r, ?_⟩
  show ((w.setCell ⟨g, i, none⟩ (.string d[j]!)).setCell ⟨g, j, none⟩ (.string d[i]!)).heap[c]? = _
  rw [Below.heap_setCell _ _ _ _ (Ne.symm hne), Below.heap_setCell _ _ _ _ (Ne.symm hne)]; exact h4
theorem RowX.start {w0 w : World} {g : Nat} {d : Array ByteArray} (h : RowS w0 w g d) (r : Int) : RowX w0 (w.alloc (.cells #[.int .u64 r] 77)) g d w.heap.size :=
  ⟨h.below ((Below.refl _ _).alloc (Nat.le_refl _) _), h.1.size, r, by show (w.heap.push _)[w.heap.size]? = _; simp⟩

def PermPost (w0 : World) (g : Nat) (d : Array ByteArray) (a b : Nat) (e : Ending) (w' : World) : Prop := e = .returned (.tuple #[]) ∧ ∃ d', RowS w0 w' g d' ∧ PermIn a b d d'

set_option maxHeartbeats 2000000 in
theorem break_any (g cap a b : Nat) (d : Array ByteArray) (w0 w : World) (fv : Value) (S : RowS w0 w g d) (hb : b ≤ d.size) (hl : a + 13 ≤ b) (hsz : d.size ≤ 49) :
    Calls Try.prog 64 #[.slice (some ⟨g, 0, none⟩) d.size cap, .int .i64 a, .int .i64 b, fv] w (PermPost w0 g d a b) := by
  obtain ⟨l, hbl⟩ : ∃ l, b = a + l := ⟨b - a, by omega⟩
  have hlz : (b : Int) - a = (l : Int) := by omega
  have h8 : (8 : Int) ≤ (l : Int) := by omega
  obtain ⟨q, hq⟩ : ∃ q, q = l / 4 := ⟨_, rfl⟩
  have hqz : (l : Int) / 4 = (q : Int) := by omega
  obtain ⟨m, hm⟩ : ∃ m, m = a + q * 2 := ⟨_, rfl⟩
  have hmz : (a : Int) + q * 2 = (m : Int) := by omega
  obtain ⟨M, hM⟩ : ∃ M : Nat, M = 2 ^ bl l := ⟨_, rfl⟩
  have hMl : M ≤ 2 * l ∧ 1 ≤ M := by
    have := (pow_facts l (by omega) (by omega)).2.2
    have h0 : 0 < 2 ^ bl l := Nat.pow_pos (by omega)
    omega
  have S0 := Lib.hid (RowX.start S (l : Int))
  have HN := Lib.hid (fun w => np2_any l w (by omega) (by omega))
  replace hq := Lib.hid hq
  replace hbl := Lib.hid hbl
  have hmb : a + 6 ≤ m ∧ m + 6 ≤ b := by have := hq.out; have := hbl.out; omega
  replace hm := Lib.hid hm
  replace hM := Lib.hid hM
  have zq : (0 : Int) ≤ q := by omega
  have zl : (l : Int) ≤ 49 := by have := hbl.out; omega
  have zq2 : (q : Int) ≤ 49 := by omega
  have za : (0 : Int) ≤ a := by omega
  have za2 : (a : Int) ≤ 49 := by omega
  have zm : (m : Int) ≤ 49 := by omega
  have zm1 : (6 : Int) ≤ m := by omega
  clear S
  go_enter Try.func64, Try.ntmps64
  go_wp2_with (go_at_call 73; refine (HN.out _).mono ?_; rintro e w' ⟨rfl, rfl⟩; rw [← hM.out])
  generalize hcc : w.heap.size = c at S0
  generalize w.alloc (Obj.cells #[Value.int IntKind.u64 ↑l] 77) = w1 at S0
  clear hcc
  go_loopg [11] 3 (fun gk vi wr => ∃ (k : Nat) (dk : Array ByteArray), vi = .int .i64 k ∧ m - 1 ≤ k ∧ k ≤ m + 2 ∧ m + 2 - k ≤ gk ∧ dk.size = d.size ∧ RowX w0 wr g dk c ∧ PermIn a b d dk)
  case atStart => exact ⟨m - 1, d, by first | rfl | go_num | (congr 1; omega), by omega, by omega, by omega, rfl, S0.out, permIn_refl d a b⟩
  case round =>
    obtain ⟨k, dk, rfl, hk1, hk2, hkg, hsk, S1, hP⟩ := hrel
    replace S1 := Lib.hid S1
    replace hP := Lib.hid hP
    clear S0
    have zk : (5 : Int) ≤ k := by omega
    have zk2 : (k : Int) < d.size := by have := hbl.out; omega
    by_cases hend : (k : Int) ≤ (m : Int) + 1
    · obtain ⟨r, hc, hf⟩ := S1.out.cell
      go_wp2_with fail
      refine (next_any c r wr hc hf).mono ?_
      rintro e w' ⟨v, hv, rfl, kk, rfl⟩
      have S2 := Lib.hid (S1.out.next v kk)
      clear hc hf S1
      generalize ((wr.setCell ⟨c, 0, none⟩ (.int .u64 (v : Int))).drewN kk) = w2 at S2
      obtain ⟨o, hoz, hoM⟩ : ∃ o : Nat, bits BinOp.and IntKind.u64 (v : Int) ((M : Int) - 1) = (o : Int) ∧ o < M := by
        refine ⟨v &&& (M - 1), ?_, ?_⟩
        · rw [show ((M : Int) - 1) = ((M - 1 : Nat) : Int) by omega, bits_and_u64_nat v (M - 1) hv (by have := hbl.out; omega)]
        · have := @Nat.and_le_right v (M - 1); omega
      have zo : (o : Int) ≤ 98 := by have := hbl.out; omega
      have zM : (1 : Int) ≤ M := by omega
      have zM2 : (M : Int) ≤ 98 := by have := hbl.out; omega
      by_cases hol : (l : Int) ≤ o
      · obtain ⟨p, hp⟩ : ∃ p, p = o - l := ⟨_, rfl⟩
        have hpz : (o : Int) - l = (p : Int) := by omega
        have hpl : p < l := by omega
        replace hp := Lib.hid hp
        obtain ⟨ap, hap⟩ : ∃ ap, ap = a + p := ⟨_, rfl⟩
        have hapz : (a : Int) + p = (ap : Int) := by omega
        replace hap := Lib.hid hap
        have zp : (0 : Int) ≤ p := by omega
        have zap : (ap : Int) < d.size := by have := hap.out; have := hbl.out; omega
        have zap0 : (0 : Int) ≤ ap := by omega
        obtain ⟨d1, d2, f1, f2, u, d3⟩ := S2.out.1.two k ap (by omega) (by have := hap.out; omega)
        have S3 := Lib.hid (S2.out.swp k ap)
        generalize dk[k]! = x at d1 d2 d3 S3
        generalize dk[ap]! = y at d2 d3 S3
        go_wp2_with fail
        go_region
        generalize ((w2.setCell ⟨g, k, none⟩ (.string y)).setCell ⟨g, ap, none⟩ (.string x)).drew = w3 at S3
        clear d1 d2 d3 f1 f2
        go_wp2_with fail
        go_roundg (m + 2 - (k + 1))
        case measure => omega
        case rel => exact ⟨k + 1, swp dk k ap, by first | rfl | go_num, by omega, by omega, by omega, by simpa [swp] using hsk, S3.out, permIn_trans _ _ _ _ _ hP.out (swp_permIn _ _ _ _ _ (by omega) (by omega) (by have := hap.out; omega) (by have := hap.out; have := hbl.out; omega) (by omega))⟩
      · have hpl : o < l := by omega
        obtain ⟨ap, hap⟩ : ∃ ap, ap = a + o := ⟨_, rfl⟩
        have hapz : (a : Int) + o = (ap : Int) := by omega
        replace hap := Lib.hid hap
        have zap : (ap : Int) < d.size := by have := hap.out; have := hbl.out; omega
        have zap0 : (0 : Int) ≤ ap := by omega
        have zo0 : (0 : Int) ≤ o := by omega
        obtain ⟨d1, d2, f1, f2, u, d3⟩ := S2.out.1.two k ap (by omega) (by have := hap.out; omega)
        have S3 := Lib.hid (S2.out.swp k ap)
        generalize dk[k]! = x at d1 d2 d3 S3
        generalize dk[ap]! = y at d2 d3 S3
        go_wp2_with fail
        go_region
        generalize ((w2.setCell ⟨g, k, none⟩ (.string y)).setCell ⟨g, ap, none⟩ (.string x)).drew = w3 at S3
        clear d1 d2 d3 f1 f2
        go_wp2_with fail
        go_roundg (m + 2 - (k + 1))
        case measure => omega
        case rel => exact ⟨k + 1, swp dk k ap, by first | rfl | go_num, by omega, by omega, by omega, by simpa [swp] using hsk, S3.out, permIn_trans _ _ _ _ _ hP.out (swp_permIn _ _ _ _ _ (by omega) (by omega) (by have := hap.out; omega) (by have := hap.out; have := hbl.out; omega) (by omega))⟩
    · go_wp2_with fail
      go_end0
      exact ⟨rfl, dk, S1.out.1, hP.out⟩
end Go.Proofs.Ytgfnajpmaaomnaa
