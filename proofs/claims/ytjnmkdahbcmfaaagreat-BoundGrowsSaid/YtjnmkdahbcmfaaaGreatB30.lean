/- Walks and plain laws, part 30 of 30: BoundNumbers: all texts. Conditions: none beyond those that each theorem states. -/
import Derived.Test.YtjnmkdahbcmfaaaGreatB29
/- BoundNumbers: all texts. -/
namespace Go.Proofs.YtjnmkdahbcmfaaaGreat
open Go.ChangeShapes Go.WideShapes Go.ChangeAt Go.RowKit Go.Ev
set_option linter.unusedVariables false
set_option maxRecDepth 100000
structure ClsOK (r : Nat) (s : ByteArray) : Prop where
  ok : ∃ X ea ee la le, preOK s X = true ∧ (canT X).length ≤ 100000 ∧ refB (bif decide (r = 5) then spoil X else X) ea ee la le = true ∧ Pro (bif decide (r = 5) then spoil X else X) ea ee la le
theorem mkCls {r : Nat} {s : ByteArray} {X : DTr} {ea ee la le : Int} (x : DTr) (hx : x = bif decide (r = 5) then spoil X else X) (h1 : (preOK s X && (decide ((canT X).length ≤ 1000) && refB x ea ee la le)) = true) (h2 : Pro x ea ee la le) : ClsOK r s := by
  subst hx
  simp only [Bool.and_eq_true, decide_eq_true_eq] at h1
  exact ⟨X, ea, ee, la, le, h1.1, by have := h1.2.1; omega, h1.2.2, h2⟩
theorem c0ff : ClsOK 0 (textB 0 false false) := mkCls (X0ff) rfl ((Bool.and_eq_true_iff.1 runA0x4).1) (Pro.of ((Bool.and_eq_true_iff.1 runC0x3).1))
theorem c0ft : ClsOK 0 (textB 0 false true) := mkCls (X0ft) rfl ((Bool.and_eq_true_iff.1 (Bool.and_eq_true_iff.1 runA0x4).2).1) (Pro.of ((Bool.and_eq_true_iff.1 (Bool.and_eq_true_iff.1 runC0x3).2).1))
theorem c0tf : ClsOK 0 (textB 0 true false) := mkCls (X0tf) rfl ((Bool.and_eq_true_iff.1 (Bool.and_eq_true_iff.1 (Bool.and_eq_true_iff.1 runA0x4).2).2).1) (Pro.of ((Bool.and_eq_true_iff.1 (Bool.and_eq_true_iff.1 runC0x3).2).2))
theorem c0tt : ClsOK 0 (textB 0 true true) := mkCls (X0tt) rfl ((Bool.and_eq_true_iff.1 (Bool.and_eq_true_iff.1 (Bool.and_eq_true_iff.1 runA0x4).2).2).2) (Pro.of ((Bool.and_eq_true_iff.1 runC3x3).1))
theorem c1ff : ClsOK 1 (textB 1 false false) := mkCls (X1ff) rfl ((Bool.and_eq_true_iff.1 runA4x4).1) (Pro.of ((Bool.and_eq_true_iff.1 (Bool.and_eq_true_iff.1 runC3x3).2).1))
theorem c1ft : ClsOK 1 (textB 1 false true) := mkCls (X1ft) rfl ((Bool.and_eq_true_iff.1 (Bool.and_eq_true_iff.1 runA4x4).2).1) (Pro.of ((Bool.and_eq_true_iff.1 (Bool.and_eq_true_iff.1 runC3x3).2).2))
theorem c1tf : ClsOK 1 (textB 1 true false) := mkCls (X1tf) rfl ((Bool.and_eq_true_iff.1 (Bool.and_eq_true_iff.1 (Bool.and_eq_true_iff.1 runA4x4).2).2).1) (Pro.of ((Bool.and_eq_true_iff.1 runC6x3).1))
theorem c1tt : ClsOK 1 (textB 1 true true) := mkCls (X1tt) rfl ((Bool.and_eq_true_iff.1 (Bool.and_eq_true_iff.1 (Bool.and_eq_true_iff.1 runA4x4).2).2).2) (Pro.of ((Bool.and_eq_true_iff.1 (Bool.and_eq_true_iff.1 runC6x3).2).1))
theorem c2ff : ClsOK 2 (textB 2 false false) := mkCls (X2ff) rfl ((Bool.and_eq_true_iff.1 runA8x4).1) (Pro.of ((Bool.and_eq_true_iff.1 (Bool.and_eq_true_iff.1 runC6x3).2).2))
theorem c2ft : ClsOK 2 (textB 2 false true) := mkCls (X2ft) rfl ((Bool.and_eq_true_iff.1 (Bool.and_eq_true_iff.1 runA8x4).2).1) (Pro.of ((Bool.and_eq_true_iff.1 runC9x3).1))
theorem c3ff : ClsOK 3 (textB 3 false false) := mkCls (X3ff) rfl ((Bool.and_eq_true_iff.1 (Bool.and_eq_true_iff.1 (Bool.and_eq_true_iff.1 runA8x4).2).2).1) (Pro.of ((Bool.and_eq_true_iff.1 (Bool.and_eq_true_iff.1 runC9x3).2).1))
theorem c3ft : ClsOK 3 (textB 3 false true) := mkCls (X3ft) rfl ((Bool.and_eq_true_iff.1 (Bool.and_eq_true_iff.1 (Bool.and_eq_true_iff.1 runA8x4).2).2).2) (Pro.of ((Bool.and_eq_true_iff.1 (Bool.and_eq_true_iff.1 runC9x3).2).2))
theorem c4ff : ClsOK 4 (textB 4 false false) := mkCls (X4ff) rfl ((Bool.and_eq_true_iff.1 runA12x4).1) (Pro.of ((Bool.and_eq_true_iff.1 runC12x3).1))
theorem c4ft : ClsOK 4 (textB 4 false true) := mkCls (X4ft) rfl ((Bool.and_eq_true_iff.1 (Bool.and_eq_true_iff.1 runA12x4).2).1) (Pro.of ((Bool.and_eq_true_iff.1 (Bool.and_eq_true_iff.1 runC12x3).2).1))
theorem c4tf : ClsOK 4 (textB 4 true false) := mkCls (X4tf) rfl ((Bool.and_eq_true_iff.1 (Bool.and_eq_true_iff.1 (Bool.and_eq_true_iff.1 runA12x4).2).2).1) (Pro.of ((Bool.and_eq_true_iff.1 (Bool.and_eq_true_iff.1 runC12x3).2).2))
theorem c4tt : ClsOK 4 (textB 4 true true) := mkCls (X4tt) rfl ((Bool.and_eq_true_iff.1 (Bool.and_eq_true_iff.1 (Bool.and_eq_true_iff.1 runA12x4).2).2).2) (Pro.of (runC15x1))
theorem c5ff : ClsOK 5 (textB 5 false false) := mkCls (spoil X5ff) rfl ((Bool.and_eq_true_iff.1 runA16x2).1) (Pro.of (runC16x1))
theorem c5ft : ClsOK 5 (textB 5 false true) := mkCls (spoil X5ft) rfl ((Bool.and_eq_true_iff.1 runA16x2).2) (Pro.of (runC17x1))
theorem c5tf : ClsOK 5 (textB 5 true false) := mkCls (spoil X5tf) rfl (runA18x1) (Pro.of (runC18x1))
theorem c5tt : ClsOK 5 (textB 5 true true) := mkCls (spoil X5tt) rfl (runA19x1) (Pro.of (runC19x1))
theorem c6ff : ClsOK 6 (textB 6 false false) := mkCls (X6ff) rfl ((Bool.and_eq_true_iff.1 runA20x2).1) (Pro.of (runC20x1))
theorem c6ft : ClsOK 6 (textB 6 false true) := mkCls (X6ft) rfl ((Bool.and_eq_true_iff.1 runA20x2).2) (Pro.of (runC21x1))
theorem c7ff : ClsOK 7 (textB 7 false false) := mkCls (X7ff) rfl ((Bool.and_eq_true_iff.1 runA22x2).1) (Pro.of (runC22x1))
theorem c7ft : ClsOK 7 (textB 7 false true) := mkCls (X7ft) rfl ((Bool.and_eq_true_iff.1 runA22x2).2) (Pro.of (runC23x1))
theorem c7tf : ClsOK 7 (textB 7 true false) := mkCls (X7tf) rfl ((Bool.and_eq_true_iff.1 runA24x2).1) (Pro.of (runC24x1))
theorem c7tt : ClsOK 7 (textB 7 true true) := mkCls (X7tt) rfl ((Bool.and_eq_true_iff.1 runA24x2).2) (Pro.of (runC25x1))
theorem c8ff : ClsOK 8 (textB 8 false false) := mkCls (X8ff) rfl ((Bool.and_eq_true_iff.1 runA26x2).1) (Pro.of (runC26x1))
theorem c8ft : ClsOK 8 (textB 8 false true) := mkCls (X8ft) rfl ((Bool.and_eq_true_iff.1 runA26x2).2) (Pro.of ((Bool.and_eq_true_iff.1 runC27x3).1))
theorem c9ff : ClsOK 9 (textB 9 false false) := mkCls (X9ff) rfl ((Bool.and_eq_true_iff.1 runA28x4).1) (Pro.of ((Bool.and_eq_true_iff.1 (Bool.and_eq_true_iff.1 runC27x3).2).1))
theorem c9ft : ClsOK 9 (textB 9 false true) := mkCls (X9ft) rfl ((Bool.and_eq_true_iff.1 (Bool.and_eq_true_iff.1 runA28x4).2).1) (Pro.of ((Bool.and_eq_true_iff.1 (Bool.and_eq_true_iff.1 runC27x3).2).2))
theorem c9tf : ClsOK 9 (textB 9 true false) := mkCls (X9tf) rfl ((Bool.and_eq_true_iff.1 (Bool.and_eq_true_iff.1 (Bool.and_eq_true_iff.1 runA28x4).2).2).1) (Pro.of (runC30x1))
theorem c9tt : ClsOK 9 (textB 9 true true) := mkCls (X9tt) rfl ((Bool.and_eq_true_iff.1 (Bool.and_eq_true_iff.1 (Bool.and_eq_true_iff.1 runA28x4).2).2).2) (Pro.of (runC31x1))
theorem c10ff : ClsOK 10 (textB 10 false false) := mkCls (X10ff) rfl ((Bool.and_eq_true_iff.1 runA32x2).1) (Pro.of (runC32x1))
theorem c10ft : ClsOK 10 (textB 10 false true) := mkCls (X10ft) rfl ((Bool.and_eq_true_iff.1 runA32x2).2) (Pro.of (runC33x1))
theorem c11ff : ClsOK 11 (textB 11 false false) := mkCls (X11ff) rfl (runA34x1) (Pro.of (runC34x1))
theorem c11tf : ClsOK 11 (textB 11 true false) := mkCls (X11tf) rfl (runA35x1) (runS35)
theorem c12ff : ClsOK 12 (textB 12 false false) := mkCls (X12ff) rfl ((Bool.and_eq_true_iff.1 runA36x4).1) (Pro.of ((Bool.and_eq_true_iff.1 runC36x3).1))
theorem c12ft : ClsOK 12 (textB 12 false true) := mkCls (X12ft) rfl ((Bool.and_eq_true_iff.1 (Bool.and_eq_true_iff.1 runA36x4).2).1) (Pro.of ((Bool.and_eq_true_iff.1 (Bool.and_eq_true_iff.1 runC36x3).2).1))
theorem c13ff : ClsOK 13 (textB 13 false false) := mkCls (X13ff) rfl ((Bool.and_eq_true_iff.1 (Bool.and_eq_true_iff.1 (Bool.and_eq_true_iff.1 runA36x4).2).2).1) (Pro.of ((Bool.and_eq_true_iff.1 (Bool.and_eq_true_iff.1 runC36x3).2).2))
theorem c13ft : ClsOK 13 (textB 13 false true) := mkCls (X13ft) rfl ((Bool.and_eq_true_iff.1 (Bool.and_eq_true_iff.1 (Bool.and_eq_true_iff.1 runA36x4).2).2).2) (Pro.of ((Bool.and_eq_true_iff.1 runC39x3).1))
theorem c13tf : ClsOK 13 (textB 13 true false) := mkCls (X13tf) rfl ((Bool.and_eq_true_iff.1 runA40x4).1) (Pro.of ((Bool.and_eq_true_iff.1 (Bool.and_eq_true_iff.1 runC39x3).2).1))
theorem c13tt : ClsOK 13 (textB 13 true true) := mkCls (X13tt) rfl ((Bool.and_eq_true_iff.1 (Bool.and_eq_true_iff.1 runA40x4).2).1) (Pro.of ((Bool.and_eq_true_iff.1 (Bool.and_eq_true_iff.1 runC39x3).2).2))
theorem c14ff : ClsOK 14 (textB 14 false false) := mkCls (X14ff) rfl ((Bool.and_eq_true_iff.1 (Bool.and_eq_true_iff.1 (Bool.and_eq_true_iff.1 runA40x4).2).2).1) (Pro.of (runC42x1))
theorem c14ft : ClsOK 14 (textB 14 false true) := mkCls (X14ft) rfl ((Bool.and_eq_true_iff.1 (Bool.and_eq_true_iff.1 (Bool.and_eq_true_iff.1 runA40x4).2).2).2) (Pro.of (runC43x1))
theorem c15ff : ClsOK 15 (textB 15 false false) := mkCls (X15ff) rfl ((Bool.and_eq_true_iff.1 runA44x2).1) (Pro.of (runC44x1))
theorem c15ft : ClsOK 15 (textB 15 false true) := mkCls (X15ft) rfl ((Bool.and_eq_true_iff.1 runA44x2).2) (Pro.of (runC45x1))
theorem c15tf : ClsOK 15 (textB 15 true false) := mkCls (X15tf) rfl ((Bool.and_eq_true_iff.1 runA46x2).1) (Pro.of (runC46x1))
theorem c15tt : ClsOK 15 (textB 15 true true) := mkCls (X15tt) rfl ((Bool.and_eq_true_iff.1 runA46x2).2) (Pro.of (runC47x1))
theorem cr0 (a b : Bool) : ClsOK 0 (textB 0 a b) := by
  cases a <;> cases b
  · exact c0ff
  · exact c0ft
  · exact c0tf
  · exact c0tt
theorem cr1 (a b : Bool) : ClsOK 1 (textB 1 a b) := by
  cases a <;> cases b
  · exact c1ff
  · exact c1ft
  · exact c1tf
  · exact c1tt
theorem cr2 (a b : Bool) : ClsOK 2 (textB 2 a b) := by
  cases a <;> cases b
  · exact c2ff
  · exact c2ft
  · rw [show textB 2 true false = textB 2 false false from rfl]; exact c2ff
  · rw [show textB 2 true true = textB 2 false true from rfl]; exact c2ft
theorem cr3 (a b : Bool) : ClsOK 3 (textB 3 a b) := by
  cases a <;> cases b
  · exact c3ff
  · exact c3ft
  · rw [show textB 3 true false = textB 3 false false from rfl]; exact c3ff
  · rw [show textB 3 true true = textB 3 false true from rfl]; exact c3ft
theorem cr4 (a b : Bool) : ClsOK 4 (textB 4 a b) := by
  cases a <;> cases b
  · exact c4ff
  · exact c4ft
  · exact c4tf
  · exact c4tt
theorem cr5 (a b : Bool) : ClsOK 5 (textB 5 a b) := by
  cases a <;> cases b
  · exact c5ff
  · exact c5ft
  · exact c5tf
  · exact c5tt
theorem cr6 (a b : Bool) : ClsOK 6 (textB 6 a b) := by
  cases a <;> cases b
  · exact c6ff
  · exact c6ft
  · rw [show textB 6 true false = textB 6 false false from rfl]; exact c6ff
  · rw [show textB 6 true true = textB 6 false true from rfl]; exact c6ft
theorem cr7 (a b : Bool) : ClsOK 7 (textB 7 a b) := by
  cases a <;> cases b
  · exact c7ff
  · exact c7ft
  · exact c7tf
  · exact c7tt
theorem cr8 (a b : Bool) : ClsOK 8 (textB 8 a b) := by
  cases a <;> cases b
  · exact c8ff
  · exact c8ft
  · rw [show textB 8 true false = textB 8 false false from rfl]; exact c8ff
  · rw [show textB 8 true true = textB 8 false true from rfl]; exact c8ft
theorem cr9 (a b : Bool) : ClsOK 9 (textB 9 a b) := by
  cases a <;> cases b
  · exact c9ff
  · exact c9ft
  · exact c9tf
  · exact c9tt
theorem cr10 (a b : Bool) : ClsOK 10 (textB 10 a b) := by
  cases a <;> cases b
  · exact c10ff
  · exact c10ft
  · rw [show textB 10 true false = textB 10 false false from rfl]; exact c10ff
  · rw [show textB 10 true true = textB 10 false true from rfl]; exact c10ft
theorem cr11 (a b : Bool) : ClsOK 11 (textB 11 a b) := by
  cases a <;> cases b
  · exact c11ff
  · rw [show textB 11 false true = textB 11 false false from rfl]; exact c11ff
  · exact c11tf
  · rw [show textB 11 true true = textB 11 true false from rfl]; exact c11tf
theorem cr12 (a b : Bool) : ClsOK 12 (textB 12 a b) := by
  cases a <;> cases b
  · exact c12ff
  · exact c12ft
  · rw [show textB 12 true false = textB 12 false false from rfl]; exact c12ff
  · rw [show textB 12 true true = textB 12 false true from rfl]; exact c12ft
theorem cr13 (a b : Bool) : ClsOK 13 (textB 13 a b) := by
  cases a <;> cases b
  · exact c13ff
  · exact c13ft
  · exact c13tf
  · exact c13tt
theorem cr14 (a b : Bool) : ClsOK 14 (textB 14 a b) := by
  cases a <;> cases b
  · exact c14ff
  · exact c14ft
  · rw [show textB 14 true false = textB 14 false false from rfl]; exact c14ff
  · rw [show textB 14 true true = textB 14 false true from rfl]; exact c14ft
theorem cr15 (a b : Bool) : ClsOK 15 (textB 15 a b) := by
  cases a <;> cases b
  · exact c15ff
  · exact c15ft
  · exact c15tf
  · exact c15tt
theorem crAll (r : Nat) (h : r < 16) (a b : Bool) : ClsOK r (textB r a b) := by
  rcases (show r = 0 ∨ r = 1 ∨ r = 2 ∨ r = 3 ∨ r = 4 ∨ r = 5 ∨ r = 6 ∨ r = 7 ∨ r = 8 ∨ r = 9 ∨ r = 10 ∨ r = 11 ∨ r = 12 ∨ r = 13 ∨ r = 14 ∨ r = 15 by omega) with rfl | rfl | rfl | rfl | rfl | rfl | rfl | rfl | rfl | rfl | rfl | rfl | rfl | rfl | rfl | rfl
  · exact cr0 a b
  · exact cr1 a b
  · exact cr2 a b
  · exact cr3 a b
  · exact cr4 a b
  · exact cr5 a b
  · exact cr6 a b
  · exact cr7 a b
  · exact cr8 a b
  · exact cr9 a b
  · exact cr10 a b
  · exact cr11 a b
  · exact cr12 a b
  · exact cr13 a b
  · exact cr14 a b
  · exact cr15 a b
theorem numbers_walk (n d b : Int) (w : World) (wn : (Lit.int .i64 n).wf = true) (wd : (Lit.int .i64 d).wf = true) (wb : (Lit.int .i64 b).wf = true) :
    Calls Tryz.prog 3 #[.int .i64 n, .int .i64 d, .int .i64 b] w fun e w' => e = .returned (.bool true) ∧ Below w.heap.size w w' := by
  have hr : txR n < 16 := by unfold txR; omega
  obtain ⟨X, ea, ee, la, le, h1, h2, h3, h4⟩ := (crAll (txR n) hr (txA n) (txB n)).ok
  have hsp : decide (txR n = 5) = decide (n % 16 = 5) := by
    have : txR n = 5 ↔ n % 16 = 5 := by unfold txR; omega
    simp only [this]
  exact numbers_class n d b _ X _ hsp h1 h2 h3 h4 w wn (fun W => text_any n W wn)
end Go.Proofs.YtjnmkdahbcmfaaaGreat
