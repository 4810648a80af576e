/- Walks and plain laws, part 1 of 6: BoundGrows: the walk. (printed by tools/mkbg.py). Conditions: none beyond those that each theorem states. -/
import Derived.Test.YtjnmkdahbcmfaaaGreatB30
/- BoundGrows: the walk. (printed by tools/mkbg.py) -/
namespace Go.Proofs.YtjnmkdahbcmfaaaGreat
open Go.ChangeShapes Go.WideShapes Go.ChangeAt Go.RowKit
set_option linter.unusedVariables false
set_option maxRecDepth 100000 in
set_option maxHeartbeats 8000000 in
theorem grows_any (n dp on tw m p q : Int) (k w1 w2 fa fb fc i1 : Int) (w : World) (wd : (Lit.int .i64 dp).wf = true) (wo : (Lit.int .i64 on).wf = true) (wt : (Lit.int .i64 tw).wf = true) (hm : dp % 63 = m) (hp : on % 10001 = p) (hq : tw % 10001 = q)
    (DX : World → Value → Prop) (lX : Later DX)
    (hX : ∀ W, Below w.heap.size w W → Calls Tryz.prog 6 #[.int .i64 n] W fun e w' => ∃ (x1A : Option Addr) (x1n x1c : Nat) (x2 : ByteArray) (x3A : Option Addr) (x3n x3c : Nat) (x4 : Int) (x5A : Option Addr) (x5n x5c : Nat) (x6A : Option Addr) (x6n x6c : Nat) (x7 : ByteArray), e = .returned (.agg #[.int .i64 k, .slice x1A x1n x1c, .string x2, .slice x3A x3n x3c, .int .i64 x4, .slice x5A x5n x5c, .slice x6A x6n x6c, .string x7]) ∧ DX w' (.agg #[.int .i64 k, .slice x1A x1n x1c, .string x2, .slice x3A x3n x3c, .int .i64 x4, .slice x5A x5n x5c, .slice x6A x6n x6c, .string x7]) ∧ Below W.heap.size W w')
    (h0 : ∀ W v, DX W v → Calls Tryz.prog 12 #[v, .int .i64 (1 + m)] W (Ret2 W w1 0)) (h1 : ∀ W v, DX W v → Calls Tryz.prog 12 #[v, .int .i64 (1 + m + 1)] W (Ret2 W w2 0))
    (h2 : ∀ W v, DX W v → Calls Tryz.prog 14 #[v, .int .i64 (1 + m), .int .i64 p] W (Ret2 W fa 0)) (h3 : ∀ W v, DX W v → Calls Tryz.prog 14 #[v, .int .i64 (1 + m), .int .i64 q] W (Ret2 W fb 0)) (h4 : ∀ W v, DX W v → Calls Tryz.prog 14 #[v, .int .i64 (1 + m), .int .i64 (p + q)] W (Ret2 W fc 0))
    (h5 : ∀ W v, DX W v → Calls Tryz.prog 16 #[v, .int .i64 (1 + m)] W (Ret2 W i1 0)) (h6 : ∀ W v, DX W v → Calls Tryz.prog 16 #[v, .int .i64 (1 + m + 1)] W (Ret2 W (i1 + 2) 0))
    (h10 : ∀ W, Calls Tryz.prog 18 #[] W fun e w' => e = .returned (.bool true) ∧ Below W.heap.size W w')
    (hw : w1 < w2) (hk0 : 0 ≤ k) (hk1 : k ≤ 10) (hk : 3 * k ≤ w1) (hf : fc ≤ fa + fb) (fa0 : 0 ≤ fa) (fa1 : fa ≤ 100000000000) (fb0 : 0 ≤ fb) (fb1 : fb ≤ 100000000000) (i0 : 0 ≤ i1) (i8 : i1 + 2 ≤ 8000) :
    Calls Tryz.prog 5 #[.int .i64 n, .int .i64 dp, .int .i64 on, .int .i64 tw] w fun e w' => e = .returned (.bool true) ∧ Below w.heap.size w w' := by
  refine opq fun RR hR => ?_
  have c0 := Lib.hid h0
  have c1 := Lib.hid h1
  have c2 := Lib.hid h2
  have c3 := Lib.hid h3
  have c4 := Lib.hid h4
  have c5 := Lib.hid h5
  have c6 := Lib.hid h6
  have c10 := Lib.hid h10
  have lX' := Lib.hid lX
  have hX' := Lib.hid (hX w (Below.refl _ _))
  have hM := Lib.hid (fun W => mod_any dp 63 W wd (by omega) (by omega))
  have hM1 := Lib.hid (fun W => mod_any on 10001 W wo (by omega) (by omega))
  have hM2 := Lib.hid (fun W => mod_any tw 10001 W wt (by omega) (by omega))
  rw [hm] at hM
  rw [hp] at hM1
  rw [hq] at hM2
  have m0 : 0 ≤ m ∧ m < 63 := by omega
  have p0 : 0 ≤ p ∧ p < 10001 := by omega
  have q0 : 0 ≤ q ∧ q < 10001 := by omega
  have e1 : IntKind.i64.wrap (1 + m) = 1 + m := IntWalk.i64_in _ (by omega)
  have e2 : IntKind.i64.wrap (1 + m + 1) = 1 + m + 1 := IntWalk.i64_in _ (by omega)
  have e3 : IntKind.i64.wrap (p + q) = p + q := IntWalk.i64_in _ (by omega)
  have e4 : IntKind.i64.wrap (3 * k) = 3 * k := IntWalk.i64_in _ (by omega)
  have e5 : IntKind.i64.wrap (fa + fb) = fa + fb := IntWalk.i64_in _ (by omega)
  have e6 : IntKind.i64.wrap (i1 + 2) = i1 + 2 := IntWalk.i64_in _ (by omega)
  have t1 : ¬ w2 ≤ w1 := by omega
  have t2 : ¬ w1 < 3 * k := by omega
  have t3 : ¬ fa + fb < fc := by omega
  clear h0 h1 h2 h3 h4 h5 h6 h10 lX hX hm hp hq hw hk hf
  go_enter Tryz.func5, Tryz.ntmps5
  go_upto_region 2 with (go_at_call 6; refine hX'.out.mono ?_; clear hX'; rintro e v2 ⟨x1A, x1n, x1c, x2, x3A, x3n, x3c, x4, x5A, x5n, x5c, x6A, x6n, x6c, x7, rfl, hD2, hb2⟩)
  have hYY := Lib.hid hD2
  clear hD2
  have q9 : Blk (v2.alloc (.cells #[.int .i64 k, .slice x1A x1n x1c, .string x2, .slice x3A x3n x3c, .int .i64 x4, .slice x5A x5n x5c, .slice x6A x6n x6c, .string x7] 28)) v2.heap.size 28 #[.int .i64 k, .slice x1A x1n x1c, .string x2, .slice x3A x3n x3c, .int .i64 x4, .slice x5A x5n x5c, .slice x6A x6n x6c, .string x7] := Blk.new _ _ _
  have g9 : Below v2.heap.size v2 (v2.alloc (.cells #[.int .i64 k, .slice x1A x1n x1c, .string x2, .slice x3A x3n x3c, .int .i64 x4, .slice x5A x5n x5c, .slice x6A x6n x6c, .string x7] 28)) := bAlc (Below.refl _ _) _
  generalize v2.alloc (.cells #[.int .i64 k, .slice x1A x1n x1c, .string x2, .slice x3A x3n x3c, .int .i64 x4, .slice x5A x5n x5c, .slice x6A x6n x6c, .string x7] 28) = W3 at *
  have d0 := q9.cell 0
  have d1 := q9.cell 1
  have d2 := q9.cell 2
  have d3 := q9.cell 3
  have d4 := q9.cell 4
  have d5 := q9.cell 5
  have d6 := q9.cell 6
  have d7 := q9.cell 7
  simp only [List.getElem?_toArray, List.getElem?_cons_zero, List.getElem?_cons_succ] at d0 d1 d2 d3 d4 d5 d6 d7
  go_wp2_with (go_at_call 7; refine (hM.out _).mono ?_; clear hM; rintro e w9 ⟨rfl, rfl⟩)
  refine (c0.out _ _ (lX'.out _ _ _ g9 hYY.out)).mono ?_
  rintro e V0 ⟨rfl, hb20⟩
  have q10 := q9.step hb20
  have g10 := bStep g9 hb20
  clear d0 d1 d2 d3 d4 d5 d6 d7 q9 g9 hb20 c0
  have d0 := q10.cell 0
  have d1 := q10.cell 1
  have d2 := q10.cell 2
  have d3 := q10.cell 3
  have d4 := q10.cell 4
  have d5 := q10.cell 5
  have d6 := q10.cell 6
  have d7 := q10.cell 7
  simp only [List.getElem?_toArray, List.getElem?_cons_zero, List.getElem?_cons_succ] at d0 d1 d2 d3 d4 d5 d6 d7
  go_wp2_with (fail)
  refine (c1.out _ _ (lX'.out _ _ _ g10 hYY.out)).mono ?_
  rintro e V1 ⟨rfl, hb21⟩
  have q11 := q10.step hb21
  have g11 := bStep g10 hb21
  clear d0 d1 d2 d3 d4 d5 d6 d7 q10 g10 hb21 c1
  have d0 := q11.cell 0
  have d1 := q11.cell 1
  have d2 := q11.cell 2
  have d3 := q11.cell 3
  have d4 := q11.cell 4
  have d5 := q11.cell 5
  have d6 := q11.cell 6
  have d7 := q11.cell 7
  simp only [List.getElem?_toArray, List.getElem?_cons_zero, List.getElem?_cons_succ] at d0 d1 d2 d3 d4 d5 d6 d7
  go_wp2_with (first | (go_at_call 7; refine (hM1.out _).mono ?_; clear hM1; rintro e w9 ⟨rfl, rfl⟩) | (go_at_call 7; refine (hM2.out _).mono ?_; clear hM2; rintro e w9 ⟨rfl, rfl⟩))
  refine (c2.out _ _ (lX'.out _ _ _ g11 hYY.out)).mono ?_
  rintro e V2 ⟨rfl, hb22⟩
  have q12 := q11.step hb22
  have g12 := bStep g11 hb22
  clear d0 d1 d2 d3 d4 d5 d6 d7 q11 g11 hb22 c2
  have d0 := q12.cell 0
  have d1 := q12.cell 1
  have d2 := q12.cell 2
  have d3 := q12.cell 3
  have d4 := q12.cell 4
  have d5 := q12.cell 5
  have d6 := q12.cell 6
  have d7 := q12.cell 7
  simp only [List.getElem?_toArray, List.getElem?_cons_zero, List.getElem?_cons_succ] at d0 d1 d2 d3 d4 d5 d6 d7
  go_wp2_with (fail)
  refine (c3.out _ _ (lX'.out _ _ _ g12 hYY.out)).mono ?_
  rintro e V3 ⟨rfl, hb23⟩
  have q13 := q12.step hb23
  have g13 := bStep g12 hb23
  clear d0 d1 d2 d3 d4 d5 d6 d7 q12 g12 hb23 c3
  have d0 := q13.cell 0
  have d1 := q13.cell 1
  have d2 := q13.cell 2
  have d3 := q13.cell 3
  have d4 := q13.cell 4
  have d5 := q13.cell 5
  have d6 := q13.cell 6
  have d7 := q13.cell 7
  simp only [List.getElem?_toArray, List.getElem?_cons_zero, List.getElem?_cons_succ] at d0 d1 d2 d3 d4 d5 d6 d7
  go_wp2_with (fail)
  refine (c4.out _ _ (lX'.out _ _ _ g13 hYY.out)).mono ?_
  rintro e V4 ⟨rfl, hb24⟩
  have q14 := q13.step hb24
  have g14 := bStep g13 hb24
  clear d0 d1 d2 d3 d4 d5 d6 d7 q13 g13 hb24 c4
  have d0 := q14.cell 0
  have d1 := q14.cell 1
  have d2 := q14.cell 2
  have d3 := q14.cell 3
  have d4 := q14.cell 4
  have d5 := q14.cell 5
  have d6 := q14.cell 6
  have d7 := q14.cell 7
  simp only [List.getElem?_toArray, List.getElem?_cons_zero, List.getElem?_cons_succ] at d0 d1 d2 d3 d4 d5 d6 d7
  go_wp2_with (fail)
  refine (c5.out _ _ (lX'.out _ _ _ g14 hYY.out)).mono ?_
  rintro e V5 ⟨rfl, hb25⟩
  have q15 := q14.step hb25
  have g15 := bStep g14 hb25
  clear d0 d1 d2 d3 d4 d5 d6 d7 q14 g14 hb25 c5
  have d0 := q15.cell 0
  have d1 := q15.cell 1
  have d2 := q15.cell 2
  have d3 := q15.cell 3
  have d4 := q15.cell 4
  have d5 := q15.cell 5
  have d6 := q15.cell 6
  have d7 := q15.cell 7
  simp only [List.getElem?_toArray, List.getElem?_cons_zero, List.getElem?_cons_succ] at d0 d1 d2 d3 d4 d5 d6 d7
  go_wp2_with (fail)
  refine (c6.out _ _ (lX'.out _ _ _ g15 hYY.out)).mono ?_
  rintro e V6 ⟨rfl, hb26⟩
  have q16 := q15.step hb26
  have g16 := bStep g15 hb26
  clear d0 d1 d2 d3 d4 d5 d6 d7 q15 g15 hb26 c6
  have d0 := q16.cell 0
  have d1 := q16.cell 1
  have d2 := q16.cell 2
  have d3 := q16.cell 3
  have d4 := q16.cell 4
  have d5 := q16.cell 5
  have d6 := q16.cell 6
  have d7 := q16.cell 7
  simp only [List.getElem?_toArray, List.getElem?_cons_zero, List.getElem?_cons_succ] at d0 d1 d2 d3 d4 d5 d6 d7
  go_wp2_with fail
  refine (c10.out _).mono ?_
  rintro e V10 ⟨rfl, hb30⟩
  have gF := Lib.hid (bStep hb2 (bStep g16 hb30))
  go_wp2_with fail
  exact hR.out _ _ ⟨rfl, gF.out⟩
end Go.Proofs.YtjnmkdahbcmfaaaGreat
