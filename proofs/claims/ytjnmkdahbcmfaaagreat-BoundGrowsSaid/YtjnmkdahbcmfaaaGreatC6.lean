/- Walks and plain laws, part 6 of 6: BoundGrows: the class theorem; BoundGrows: all texts. Conditions: none beyond those that each theorem states. -/
import Derived.Test.YtjnmkdahbcmfaaaGreatC5
/- BoundGrows: the class theorem. -/
namespace Go.Proofs.YtjnmkdahbcmfaaaGreat
open Go.ChangeShapes Go.WideShapes Go.ChangeAt Go.RowKit Go.Ev
set_option linter.unusedVariables false
set_option maxRecDepth 100000
theorem proB_at {x : DTr} {ea la : Int} (e2 : kX x = true) (hC : Pro x ea 0 la 0) : ∃ z : Int, 0 ≤ z ∧ z ≤ 100 ∧ 0 ≤ kOf x ∧ kOf x ≤ 10 ∧ nOf x ≤ 1000 ∧ 0 ≤ ea ∧ ea ≤ 1000 ∧ 0 ≤ la ∧ la ≤ 1000 ∧ ∀ d : Int, 1 ≤ d → d ≤ 64 →
    (∀ W v, DatV Tryz.prog W x v → Calls Tryz.prog 12 #[v, .int .i64 d] W (Ret2 W (workF (kOf x) (nOf x) ea la d) 0)) ∧
    (∀ W v, DatV Tryz.prog W x v → Calls Tryz.prog 16 #[v, .int .i64 d] W (Ret2 W (imF (kOf x) d z (canT x).length) 0)) ∧ 0 ≤ workF (kOf x) (nOf x) ea la d ∧ workF (kOf x) (nOf x) ea la d ≤ 1000000 := by
  obtain ⟨S, hS, hC⟩ := hC
  unfold proS at hC
  simp only [Bool.and_eq_true, decide_eq_true_eq] at hC
  obtain ⟨h1, h2, h4, e3⟩ := hC
  rw [if_pos trivial] at e3
  have c0 : ∀ W v, DatV Tryz.prog W x v → Calls Tryz.prog 8 #[v] W (Ret2 W ea 0) := fun W v hv => callP_s hS h2 (dat1 hv)
  have c2 : ∀ W v, DatV Tryz.prog W x v → Calls Tryz.prog 10 #[v] W (Ret2 W la 0) := fun W v hv => callP_s hS h4 (dat1 hv)
  have cc : ∀ W v, DatV Tryz.prog W x v → Calls Tryz.prog 23 #[v] W (Ret1 W 0) := fun W v hv => callI_s hS h1 (dat1 hv)
  unfold okB at e3
  cases g0 : callI noSums 41 [.v (.int .u64 (.ofNat (canT x).length))] with
  | none => rw [g0] at e3; cases e3
  | some z =>
  rw [g0] at e3
  simp only [Bool.and_eq_true, decide_eq_true_eq, List.all_eq_true] at e3
  obtain ⟨z0, z1, k0, k1, n1, m0, m1, l0, l1, _, hs, hall⟩ := e3
  refine ⟨z, z0, z1, k0, k1, n1, m0, m1, l0, l1, fun d hd0 hd1 => ?_⟩
  obtain ⟨i, hi⟩ : ∃ i : Nat, d = ((i + 1 : Nat) : Int) := ⟨(d - 1).toNat, by omega⟩
  have hk := hall i (List.mem_range.2 (by omega))
  unfold dchk at hk
  cases g3 : callP S 16 [x, I (i + 1)] with
  | none => rw [g3] at hk; cases hk
  | some p3 =>
  rw [g3] at hk
  simp only [Bool.and_eq_true, decide_eq_true_eq] at hk
  obtain ⟨rfl, k4, k5⟩ := hk
  rw [← hi] at k4 k5 g3
  have hWB : WorkB (kOf x) (nOf x) ea la d := ⟨k0, k1, by omega, by omega, m0, m1, l0, l1, by omega, by omega⟩
  have hck : ∀ W v, DatV Tryz.prog W x v → Calls Tryz.prog 31 #[v, .int .i64 d] W (Ret1 W 0) := by
    intro W v hv
    obtain ⟨a1, a2, A, c, a4, a5, a6, rfl⟩ := kX_dat e2 hv
    have := checked_ok _ a1 a2 A _ c a4 a5 a6 _ d W (fun W' hW' => cc W' _ (DatV.step hW' _ _ hv))
    rwa [show dOK d = 0 by unfold dOK; rw [if_neg (by omega)]] at this
  refine ⟨?_, ?_, k4, k5⟩
  · intro W v hv
    obtain ⟨a1, a2, A, c, a4, a5, a6, rfl⟩ := kX_dat e2 hv
    exact work_ok _ a1 a2 A _ c a4 a5 a6 _ ea la d hWB W (fun W' hW' => hck W' _ (DatV.step hW' _ _ hv)) (fun W' hW' => c0 W' _ (DatV.step hW' _ _ hv)) (fun W' hW' => c2 W' _ (DatV.step hW' _ _ hv))
  · intro W v hv
    have := callP_s hS g3 (dat2 hv (i + 1))
    rwa [← hi] at this
theorem work_lt {k n ea la d : Int} (k0 : 0 ≤ k) (n0 : 0 ≤ n) (e0 : 0 ≤ ea) (l0 : 0 ≤ la) (d0 : 1 ≤ d) : workF k n ea la d < workF k n ea la (d + 1) ∧ 3 * k ≤ workF k n ea la d := by
  unfold workF
  have hm : 0 ≤ 2 * ea * la := Int.mul_nonneg (by omega) l0
  generalize 2 * ea * la = t at *
  have h1 : (d + 1 + n) * (1 + t) = (d + n) * (1 + t) + (1 + t) := by rw [show d + 1 + n = (d + n) + 1 by omega, Int.add_mul, Int.one_mul]
  have h2 : 1 ≤ (d + n) * (1 + t) := by
    have : 1 * 1 ≤ (d + n) * (1 + t) := Int.mul_le_mul (by omega) (by omega) (by omega) (by omega)
    omega
  rw [h1]
  generalize (d + n) * (1 + t) = y at *
  have h3 : (k + 1) * (y + (1 + t) + 2) = (k + 1) * (y + 2) + (k + 1) * (1 + t) := by rw [show y + (1 + t) + 2 = (y + 2) + (1 + t) by omega, Int.mul_add]
  have h4 : 1 ≤ (k + 1) * (1 + t) := by
    have : 1 * 1 ≤ (k + 1) * (1 + t) := Int.mul_le_mul (by omega) (by omega) (by omega) (by omega)
    omega
  have h5 : (k + 1) * 3 ≤ (k + 1) * (y + 2) := Int.mul_le_mul_of_nonneg_left (by omega) (by omega)
  rw [h3]
  omega
theorem grows_class (n dp on tw : Int) (s : ByteArray) (X : DTr) {ea la : Int} (h1 : preOK s X = true) (h2 : (canT X).length ≤ 1000) (hC : Pro X ea 0 la 0) (w : World) (wd : (Lit.int .i64 dp).wf = true) (wo : (Lit.int .i64 on).wf = true) (wt : (Lit.int .i64 tw).wf = true)
    (hT : ∀ W, Calls Tryz.prog 47 #[.int .i64 n] W fun e w' => e = .returned (.string s) ∧ Below W.heap.size W w') :
    Calls Tryz.prog 5 #[.int .i64 n, .int .i64 dp, .int .i64 on, .int .i64 tw] w fun e w' => e = .returned (.bool true) ∧ Below w.heap.size w w' := by
  have hkx : kX X = true := by
    unfold preOK at h1
    simp only [Bool.and_eq_true] at h1
    exact h1.2.2.2.2.2.2.2.2.2
  obtain ⟨z, z0, z1, k0, k1, n1, m0, m1, l0, l1, H⟩ := proB_at hkx hC
  have b1 : 0 ≤ dp % 63 := by omega
  have b2 : dp % 63 < 63 := by omega
  obtain ⟨w1, i1, f1, f2⟩ := H (1 + dp % 63) (by omega) (by omega)
  obtain ⟨w2, i2, f3, f4⟩ := H (1 + dp % 63 + 1) (by omega) (by omega)
  obtain ⟨g1, g2⟩ := work_lt (k := kOf X) (n := nOf X) (ea := ea) (la := la) (d := 1 + dp % 63) k0 (by omega) m0 l0 (by omega)
  have hi : imF (kOf X) (1 + dp % 63 + 1) z (canT X).length = imF (kOf X) (1 + dp % 63) z (canT X).length + 2 := by unfold imF; omega
  rw [hi] at i2
  have hfeed : ∀ (b : Int), 0 ≤ b → b ≤ 20000 → ∀ W v, DatV Tryz.prog W X v → Calls Tryz.prog 14 #[v, .int .i64 (1 + dp % 63), .int .i64 b] W (Ret2 W ((b + 1) * workF (kOf X) (nOf X) ea la (1 + dp % 63)) 0) := by
    intro b hb0 hb1 W v hv
    obtain ⟨a1, a2, A, c, a4, a5, a6, rfl⟩ := kX_dat hkx hv
    have := feed_any _ a1 a2 A _ c a4 a5 a6 _ _ 0 (1 + dp % 63) b f1 f2 W (fun W' hW' => w1 W' _ (DatV.step hW' _ _ hv))
    rwa [show feedA (workF (kOf X) (nOf X) ea la (1 + dp % 63)) 0 b = (b + 1) * workF (kOf X) (nOf X) ea la (1 + dp % 63) by unfold feedA; rw [if_neg (by omega), if_neg (by omega)], show feedE 0 b = 0 by unfold feedE; rw [if_neg (by omega), if_neg (by omega)]] at this
  have hX : ∀ W, Below w.heap.size w W → Calls Tryz.prog 6 #[.int .i64 n] W fun e w' => ∃ (x1A : Option Addr) (x1n x1c : Nat) (x2 : ByteArray) (x3A : Option Addr) (x3n x3c : Nat) (x4 : Int) (x5A : Option Addr) (x5n x5c : Nat) (x6A : Option Addr) (x6n x6c : Nat) (x7 : ByteArray), e = .returned (.agg #[.int .i64 (kOf X), .slice x1A x1n x1c, .string x2, .slice x3A x3n x3c, .int .i64 x4, .slice x5A x5n x5c, .slice x6A x6n x6c, .string x7]) ∧ DatV Tryz.prog w' X (.agg #[.int .i64 (kOf X), .slice x1A x1n x1c, .string x2, .slice x3A x3n x3c, .int .i64 x4, .slice x5A x5n x5c, .slice x6A x6n x6c, .string x7]) ∧ Below W.heap.size W w' := fun W hW =>
    (compiledK n s X h1 W (fun W' _ => hT W')).mono fun e w' hq => by
      obtain ⟨x0, x1A, x1n, x1c, x2, x3A, x3n, x3c, x4, x5A, x5n, x5c, x6A, x6n, x6c, x7, rfl, hD, hb⟩ := hq
      have hd := outB_dat hD
      obtain ⟨a1, a2, A, c, a4, a5, a6, hv⟩ := kX_dat hkx hd
      obtain ⟨e0, _⟩ := arr8 hv
      injection e0 with _ e0
      subst e0
      exact ⟨x1A, x1n, x1c, x2, x3A, x3n, x3c, x4, x5A, x5n, x5c, x6A, x6n, x6c, x7, rfl, hd, hb⟩
  generalize workF (kOf X) (nOf X) ea la (1 + dp % 63) = wa at *
  generalize workF (kOf X) (nOf X) ea la (1 + dp % 63 + 1) = wb at *
  have hp0 : 0 ≤ on % 10001 ∧ on % 10001 ≤ 10000 := by omega
  have hq0 : 0 ≤ tw % 10001 ∧ tw % 10001 ≤ 10000 := by omega
  have pa0 : 0 ≤ (on % 10001 + 1) * wa := Int.mul_nonneg (by omega) f1
  have pa1 : (on % 10001 + 1) * wa ≤ 10001 * 1000000 := Int.mul_le_mul (by omega) f2 f1 (by omega)
  have pb0 : 0 ≤ (tw % 10001 + 1) * wa := Int.mul_nonneg (by omega) f1
  have pb1 : (tw % 10001 + 1) * wa ≤ 10001 * 1000000 := Int.mul_le_mul (by omega) f2 f1 (by omega)
  have hsum : (on % 10001 + tw % 10001 + 1) * wa ≤ (on % 10001 + 1) * wa + (tw % 10001 + 1) * wa := by
    rw [← Int.add_mul]
    exact Int.mul_le_mul_of_nonneg_right (by omega) f1
  have him : 0 ≤ imF (kOf X) (1 + dp % 63) z (canT X).length ∧ imF (kOf X) (1 + dp % 63) z (canT X).length + 2 ≤ 8000 := by unfold imF; omega
  exact grows_any n dp on tw _ _ _ (kOf X) wa wb _ _ _ _ w wd wo wt rfl rfl rfl (fun W v => DatV Tryz.prog W X v) (fun W W' v hb hv => DatV.step hb X v hv) hX w1 w2 (hfeed _ (by omega) (by omega)) (hfeed _ (by omega) (by omega)) (hfeed _ (by omega) (by omega)) i1 i2
    (fun W => ground sN_s awake_run W) g1 k0 k1 g2 hsum pa0 (by omega) pb0 (by omega) him.1 him.2
end Go.Proofs.YtjnmkdahbcmfaaaGreat

/- BoundGrows: all texts. -/
namespace Go.Proofs.YtjnmkdahbcmfaaaGreat
open Go.ChangeShapes Go.WideShapes Go.ChangeAt Go.RowKit Go.Ev
set_option linter.unusedVariables false
set_option maxRecDepth 100000
structure GrOK (s : ByteArray) : Prop where
  ok : ∃ X ea la, preOK s X = true ∧ (canT X).length ≤ 1000 ∧ Pro X ea 0 la 0
theorem mkGr {s : ByteArray} {X x : DTr} {ea ee la le ea' la' : Int} (h1 : (preOK s X && (decide ((canT X).length ≤ 1000) && refB x ea ee la le)) = true) (h2 : Pro X ea' 0 la' 0) : GrOK s := by
  simp only [Bool.and_eq_true, decide_eq_true_eq] at h1
  exact ⟨X, ea', la', h1.1, h1.2.1, h2⟩
theorem g0ff : GrOK (textB 0 false false) := mkGr ((Bool.and_eq_true_iff.1 runA0x4).1) (Pro.of ((Bool.and_eq_true_iff.1 runC0x3).1))
theorem g0ft : GrOK (textB 0 false true) := mkGr ((Bool.and_eq_true_iff.1 (Bool.and_eq_true_iff.1 runA0x4).2).1) (Pro.of ((Bool.and_eq_true_iff.1 (Bool.and_eq_true_iff.1 runC0x3).2).1))
theorem g0tf : GrOK (textB 0 true false) := mkGr ((Bool.and_eq_true_iff.1 (Bool.and_eq_true_iff.1 (Bool.and_eq_true_iff.1 runA0x4).2).2).1) (Pro.of ((Bool.and_eq_true_iff.1 (Bool.and_eq_true_iff.1 runC0x3).2).2))
theorem g0tt : GrOK (textB 0 true true) := mkGr ((Bool.and_eq_true_iff.1 (Bool.and_eq_true_iff.1 (Bool.and_eq_true_iff.1 runA0x4).2).2).2) (Pro.of ((Bool.and_eq_true_iff.1 runC3x3).1))
theorem g1ff : GrOK (textB 1 false false) := mkGr ((Bool.and_eq_true_iff.1 runA4x4).1) (Pro.of ((Bool.and_eq_true_iff.1 (Bool.and_eq_true_iff.1 runC3x3).2).1))
theorem g1ft : GrOK (textB 1 false true) := mkGr ((Bool.and_eq_true_iff.1 (Bool.and_eq_true_iff.1 runA4x4).2).1) (Pro.of ((Bool.and_eq_true_iff.1 (Bool.and_eq_true_iff.1 runC3x3).2).2))
theorem g1tf : GrOK (textB 1 true false) := mkGr ((Bool.and_eq_true_iff.1 (Bool.and_eq_true_iff.1 (Bool.and_eq_true_iff.1 runA4x4).2).2).1) (Pro.of ((Bool.and_eq_true_iff.1 runC6x3).1))
theorem g1tt : GrOK (textB 1 true true) := mkGr ((Bool.and_eq_true_iff.1 (Bool.and_eq_true_iff.1 (Bool.and_eq_true_iff.1 runA4x4).2).2).2) (Pro.of ((Bool.and_eq_true_iff.1 (Bool.and_eq_true_iff.1 runC6x3).2).1))
theorem g2ff : GrOK (textB 2 false false) := mkGr ((Bool.and_eq_true_iff.1 runA8x4).1) (Pro.of ((Bool.and_eq_true_iff.1 (Bool.and_eq_true_iff.1 runC6x3).2).2))
theorem g2ft : GrOK (textB 2 false true) := mkGr ((Bool.and_eq_true_iff.1 (Bool.and_eq_true_iff.1 runA8x4).2).1) (Pro.of ((Bool.and_eq_true_iff.1 runC9x3).1))
theorem g3ff : GrOK (textB 3 false false) := mkGr ((Bool.and_eq_true_iff.1 (Bool.and_eq_true_iff.1 (Bool.and_eq_true_iff.1 runA8x4).2).2).1) (Pro.of ((Bool.and_eq_true_iff.1 (Bool.and_eq_true_iff.1 runC9x3).2).1))
theorem g3ft : GrOK (textB 3 false true) := mkGr ((Bool.and_eq_true_iff.1 (Bool.and_eq_true_iff.1 (Bool.and_eq_true_iff.1 runA8x4).2).2).2) (Pro.of ((Bool.and_eq_true_iff.1 (Bool.and_eq_true_iff.1 runC9x3).2).2))
theorem g4ff : GrOK (textB 4 false false) := mkGr ((Bool.and_eq_true_iff.1 runA12x4).1) (Pro.of ((Bool.and_eq_true_iff.1 runC12x3).1))
theorem g4ft : GrOK (textB 4 false true) := mkGr ((Bool.and_eq_true_iff.1 (Bool.and_eq_true_iff.1 runA12x4).2).1) (Pro.of ((Bool.and_eq_true_iff.1 (Bool.and_eq_true_iff.1 runC12x3).2).1))
theorem g4tf : GrOK (textB 4 true false) := mkGr ((Bool.and_eq_true_iff.1 (Bool.and_eq_true_iff.1 (Bool.and_eq_true_iff.1 runA12x4).2).2).1) (Pro.of ((Bool.and_eq_true_iff.1 (Bool.and_eq_true_iff.1 runC12x3).2).2))
theorem g4tt : GrOK (textB 4 true true) := mkGr ((Bool.and_eq_true_iff.1 (Bool.and_eq_true_iff.1 (Bool.and_eq_true_iff.1 runA12x4).2).2).2) (Pro.of (runC15x1))
theorem g5ff : GrOK (textB 5 false false) := mkGr ((Bool.and_eq_true_iff.1 runA16x2).1) (Pro.of (runG16x1))
theorem g5ft : GrOK (textB 5 false true) := mkGr ((Bool.and_eq_true_iff.1 runA16x2).2) (Pro.of (runG17x1))
theorem g5tf : GrOK (textB 5 true false) := mkGr (runA18x1) (Pro.of (runG18x1))
theorem g5tt : GrOK (textB 5 true true) := mkGr (runA19x1) (runS19)
theorem g6ff : GrOK (textB 6 false false) := mkGr ((Bool.and_eq_true_iff.1 runA20x2).1) (Pro.of (runC20x1))
theorem g6ft : GrOK (textB 6 false true) := mkGr ((Bool.and_eq_true_iff.1 runA20x2).2) (Pro.of (runC21x1))
theorem g7ff : GrOK (textB 7 false false) := mkGr ((Bool.and_eq_true_iff.1 runA22x2).1) (Pro.of (runC22x1))
theorem g7ft : GrOK (textB 7 false true) := mkGr ((Bool.and_eq_true_iff.1 runA22x2).2) (Pro.of (runC23x1))
theorem g7tf : GrOK (textB 7 true false) := mkGr ((Bool.and_eq_true_iff.1 runA24x2).1) (Pro.of (runC24x1))
theorem g7tt : GrOK (textB 7 true true) := mkGr ((Bool.and_eq_true_iff.1 runA24x2).2) (Pro.of (runC25x1))
theorem g8ff : GrOK (textB 8 false false) := mkGr ((Bool.and_eq_true_iff.1 runA26x2).1) (Pro.of (runC26x1))
theorem g8ft : GrOK (textB 8 false true) := mkGr ((Bool.and_eq_true_iff.1 runA26x2).2) (Pro.of ((Bool.and_eq_true_iff.1 runC27x3).1))
theorem g9ff : GrOK (textB 9 false false) := mkGr ((Bool.and_eq_true_iff.1 runA28x4).1) (Pro.of ((Bool.and_eq_true_iff.1 (Bool.and_eq_true_iff.1 runC27x3).2).1))
theorem g9ft : GrOK (textB 9 false true) := mkGr ((Bool.and_eq_true_iff.1 (Bool.and_eq_true_iff.1 runA28x4).2).1) (Pro.of ((Bool.and_eq_true_iff.1 (Bool.and_eq_true_iff.1 runC27x3).2).2))
theorem g9tf : GrOK (textB 9 true false) := mkGr ((Bool.and_eq_true_iff.1 (Bool.and_eq_true_iff.1 (Bool.and_eq_true_iff.1 runA28x4).2).2).1) (Pro.of (runC30x1))
theorem g9tt : GrOK (textB 9 true true) := mkGr ((Bool.and_eq_true_iff.1 (Bool.and_eq_true_iff.1 (Bool.and_eq_true_iff.1 runA28x4).2).2).2) (Pro.of (runC31x1))
theorem g10ff : GrOK (textB 10 false false) := mkGr ((Bool.and_eq_true_iff.1 runA32x2).1) (Pro.of (runC32x1))
theorem g10ft : GrOK (textB 10 false true) := mkGr ((Bool.and_eq_true_iff.1 runA32x2).2) (Pro.of (runC33x1))
theorem g11ff : GrOK (textB 11 false false) := mkGr (runA34x1) (Pro.of (runC34x1))
theorem g11tf : GrOK (textB 11 true false) := mkGr (runA35x1) (runS35)
theorem g12ff : GrOK (textB 12 false false) := mkGr ((Bool.and_eq_true_iff.1 runA36x4).1) (Pro.of ((Bool.and_eq_true_iff.1 runC36x3).1))
theorem g12ft : GrOK (textB 12 false true) := mkGr ((Bool.and_eq_true_iff.1 (Bool.and_eq_true_iff.1 runA36x4).2).1) (Pro.of ((Bool.and_eq_true_iff.1 (Bool.and_eq_true_iff.1 runC36x3).2).1))
theorem g13ff : GrOK (textB 13 false false) := mkGr ((Bool.and_eq_true_iff.1 (Bool.and_eq_true_iff.1 (Bool.and_eq_true_iff.1 runA36x4).2).2).1) (Pro.of ((Bool.and_eq_true_iff.1 (Bool.and_eq_true_iff.1 runC36x3).2).2))
theorem g13ft : GrOK (textB 13 false true) := mkGr ((Bool.and_eq_true_iff.1 (Bool.and_eq_true_iff.1 (Bool.and_eq_true_iff.1 runA36x4).2).2).2) (Pro.of ((Bool.and_eq_true_iff.1 runC39x3).1))
theorem g13tf : GrOK (textB 13 true false) := mkGr ((Bool.and_eq_true_iff.1 runA40x4).1) (Pro.of ((Bool.and_eq_true_iff.1 (Bool.and_eq_true_iff.1 runC39x3).2).1))
theorem g13tt : GrOK (textB 13 true true) := mkGr ((Bool.and_eq_true_iff.1 (Bool.and_eq_true_iff.1 runA40x4).2).1) (Pro.of ((Bool.and_eq_true_iff.1 (Bool.and_eq_true_iff.1 runC39x3).2).2))
theorem g14ff : GrOK (textB 14 false false) := mkGr ((Bool.and_eq_true_iff.1 (Bool.and_eq_true_iff.1 (Bool.and_eq_true_iff.1 runA40x4).2).2).1) (Pro.of (runC42x1))
theorem g14ft : GrOK (textB 14 false true) := mkGr ((Bool.and_eq_true_iff.1 (Bool.and_eq_true_iff.1 (Bool.and_eq_true_iff.1 runA40x4).2).2).2) (Pro.of (runC43x1))
theorem g15ff : GrOK (textB 15 false false) := mkGr ((Bool.and_eq_true_iff.1 runA44x2).1) (Pro.of (runC44x1))
theorem g15ft : GrOK (textB 15 false true) := mkGr ((Bool.and_eq_true_iff.1 runA44x2).2) (Pro.of (runC45x1))
theorem g15tf : GrOK (textB 15 true false) := mkGr ((Bool.and_eq_true_iff.1 runA46x2).1) (Pro.of (runC46x1))
theorem g15tt : GrOK (textB 15 true true) := mkGr ((Bool.and_eq_true_iff.1 runA46x2).2) (Pro.of (runC47x1))
theorem gr0 (a b : Bool) : GrOK (textB 0 a b) := by
  cases a <;> cases b
  · exact g0ff
  · exact g0ft
  · exact g0tf
  · exact g0tt
theorem gr1 (a b : Bool) : GrOK (textB 1 a b) := by
  cases a <;> cases b
  · exact g1ff
  · exact g1ft
  · exact g1tf
  · exact g1tt
theorem gr2 (a b : Bool) : GrOK (textB 2 a b) := by
  cases a <;> cases b
  · exact g2ff
  · exact g2ft
  · rw [show textB 2 true false = textB 2 false false from rfl]; exact g2ff
  · rw [show textB 2 true true = textB 2 false true from rfl]; exact g2ft
theorem gr3 (a b : Bool) : GrOK (textB 3 a b) := by
  cases a <;> cases b
  · exact g3ff
  · exact g3ft
  · rw [show textB 3 true false = textB 3 false false from rfl]; exact g3ff
  · rw [show textB 3 true true = textB 3 false true from rfl]; exact g3ft
theorem gr4 (a b : Bool) : GrOK (textB 4 a b) := by
  cases a <;> cases b
  · exact g4ff
  · exact g4ft
  · exact g4tf
  · exact g4tt
theorem gr5 (a b : Bool) : GrOK (textB 5 a b) := by
  cases a <;> cases b
  · exact g5ff
  · exact g5ft
  · exact g5tf
  · exact g5tt
theorem gr6 (a b : Bool) : GrOK (textB 6 a b) := by
  cases a <;> cases b
  · exact g6ff
  · exact g6ft
  · rw [show textB 6 true false = textB 6 false false from rfl]; exact g6ff
  · rw [show textB 6 true true = textB 6 false true from rfl]; exact g6ft
theorem gr7 (a b : Bool) : GrOK (textB 7 a b) := by
  cases a <;> cases b
  · exact g7ff
  · exact g7ft
  · exact g7tf
  · exact g7tt
theorem gr8 (a b : Bool) : GrOK (textB 8 a b) := by
  cases a <;> cases b
  · exact g8ff
  · exact g8ft
  · rw [show textB 8 true false = textB 8 false false from rfl]; exact g8ff
  · rw [show textB 8 true true = textB 8 false true from rfl]; exact g8ft
theorem gr9 (a b : Bool) : GrOK (textB 9 a b) := by
  cases a <;> cases b
  · exact g9ff
  · exact g9ft
  · exact g9tf
  · exact g9tt
theorem gr10 (a b : Bool) : GrOK (textB 10 a b) := by
  cases a <;> cases b
  · exact g10ff
  · exact g10ft
  · rw [show textB 10 true false = textB 10 false false from rfl]; exact g10ff
  · rw [show textB 10 true true = textB 10 false true from rfl]; exact g10ft
theorem gr11 (a b : Bool) : GrOK (textB 11 a b) := by
  cases a <;> cases b
  · exact g11ff
  · rw [show textB 11 false true = textB 11 false false from rfl]; exact g11ff
  · exact g11tf
  · rw [show textB 11 true true = textB 11 true false from rfl]; exact g11tf
theorem gr12 (a b : Bool) : GrOK (textB 12 a b) := by
  cases a <;> cases b
  · exact g12ff
  · exact g12ft
  · rw [show textB 12 true false = textB 12 false false from rfl]; exact g12ff
  · rw [show textB 12 true true = textB 12 false true from rfl]; exact g12ft
theorem gr13 (a b : Bool) : GrOK (textB 13 a b) := by
  cases a <;> cases b
  · exact g13ff
  · exact g13ft
  · exact g13tf
  · exact g13tt
theorem gr14 (a b : Bool) : GrOK (textB 14 a b) := by
  cases a <;> cases b
  · exact g14ff
  · exact g14ft
  · rw [show textB 14 true false = textB 14 false false from rfl]; exact g14ff
  · rw [show textB 14 true true = textB 14 false true from rfl]; exact g14ft
theorem gr15 (a b : Bool) : GrOK (textB 15 a b) := by
  cases a <;> cases b
  · exact g15ff
  · exact g15ft
  · exact g15tf
  · exact g15tt
theorem grAll (r : Nat) (h : r < 16) (a b : Bool) : GrOK (textB r a b) := by
  rcases (show r = 0 ∨ r = 1 ∨ r = 2 ∨ r = 3 ∨ r = 4 ∨ r = 5 ∨ r = 6 ∨ r = 7 ∨ r = 8 ∨ r = 9 ∨ r = 10 ∨ r = 11 ∨ r = 12 ∨ r = 13 ∨ r = 14 ∨ r = 15 by omega) with rfl | rfl | rfl | rfl | rfl | rfl | rfl | rfl | rfl | rfl | rfl | rfl | rfl | rfl | rfl | rfl
  · exact gr0 a b
  · exact gr1 a b
  · exact gr2 a b
  · exact gr3 a b
  · exact gr4 a b
  · exact gr5 a b
  · exact gr6 a b
  · exact gr7 a b
  · exact gr8 a b
  · exact gr9 a b
  · exact gr10 a b
  · exact gr11 a b
  · exact gr12 a b
  · exact gr13 a b
  · exact gr14 a b
  · exact gr15 a b
theorem grows_walk (n dp on tw : Int) (w : World) (wn : (Lit.int .i64 n).wf = true) (wd : (Lit.int .i64 dp).wf = true) (wo : (Lit.int .i64 on).wf = true) (wt : (Lit.int .i64 tw).wf = true) :
    Calls Tryz.prog 5 #[.int .i64 n, .int .i64 dp, .int .i64 on, .int .i64 tw] w fun e w' => e = .returned (.bool true) ∧ Below w.heap.size w w' := by
  have hr : txR n < 16 := by unfold txR; omega
  obtain ⟨X, ea, la, h1, h2, h3⟩ := (grAll (txR n) hr (txA n) (txB n)).ok
  exact grows_class n dp on tw _ X h1 h2 h3 w wd wo wt (fun W => text_any n W wn)
end Go.Proofs.YtjnmkdahbcmfaaaGreat
