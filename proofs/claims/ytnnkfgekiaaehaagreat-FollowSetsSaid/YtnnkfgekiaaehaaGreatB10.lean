/- Walks and plain laws, part 10 of 11: The reference 16: Behind; errors of both; look.Check; follow.Has and follow.Ends; follow.Uses. Conditions: none beyond those that each theorem states. -/
import Derived.Test.YtnnkfgekiaaehaaGreatB9
import Derived.Laws.CopyOwn
/- The reference 16: Behind; errors of both. -/
namespace Go.Proofs.YtnnkfgekiaaehaaGreat
open Go.ChangeShapes Go.WideShapes Go.ChangeAt Go.RowKit
set_option linter.unusedVariables false

/-- FIRST and FOLLOW of the reference give what is behind -/
theorem bset_sum {g : Gr} (hok : gchk g = 0) {k : Nat} (hkk : k = g.k.toNat) {ss fs ss2 : List (List Lk)} (h1 : SetsFit k ss) (h2 : SoundF g.prods k ss) (h3 : ClosedF g.prods k ss) (f1 : SetsFit k fs) (f2 : SoundO g.prods k g.start fs) (f3 : SetsFit k ss2) (f4 : SoundF g.prods k ss2) (f5 : ClosedF g.prods k ss2) (f6 : ClosedO g.prods k g.start ss2 fs)
    {p : Pr} (hp : p ∈ g.prods) (d : Nat) : BSet g p d (sumR k (tailL k ss (p.right.drop d)) (fs.getD (p.left - 16).toNat [])) := by
  subst hkk
  have hk := gok_of hok
  have hdr : ∀ z ∈ p.right.drop d, SymOk g.names.length z := fun z hz => hk.sym hp z (List.mem_of_mem_drop hz)
  have hT := tail_fit hk.k1 hk.k4 h1 _ hdr
  have hL := setsFit_get f1 (p.left - 16).toNat
  refine ⟨sumR_asc hk.k4 hT hL, fun y => ?_⟩
  rw [sumR_mem hk.k4 hT hL]
  have e1 := fun x => first_iff hk.k1 hk.k4 h1 h2 h3 (fun p hp => hk.sym hp) _ hdr x
  have e2 := fun z => follow_iff hk.k1 hk.k4 f3 f1 f4 f5 (fun p hp => ⟨(hk.pr p hp).1.1, hk.sym hp⟩) f2 f6 p.left (hk.pr p hp).1.1 z
  constructor
  · rintro ⟨x, hx, z, hz, rfl⟩; exact ⟨x, z, (e1 x).1 hx, (e2 z).1 hz, rfl⟩
  · rintro ⟨x, z, hx, hz, rfl⟩; exact ⟨x, (e1 x).2 hx, z, (e2 z).2 hz, rfl⟩
theorem bh_right {g : Gr} (hok : gchk g = 0) {p : Pr} (hp : p ∈ g.prods) {d : Nat} {y : Lk} (h : BH g.prods g.k.toNat g.start p d y) : y.right g.toks.length ∧ y.l.length ≤ g.k.toNat := by
  have hk := gok_of hok
  obtain ⟨x, z, hx, hz, rfl⟩ := h
  have r1 := fl_rightG hk (fun s hs h16 => by have := (hk.pr p hp).2.2 s (List.mem_of_mem_drop hs); omega) hx
  have r2 := fo_rightG hk hz
  exact ⟨lplus_right hk.k4 r1 r2, by rw [lplus_l hk.k4, List.length_take]; omega⟩

/-- a grammar that is not right -/
theorem behind_err (g : Gr) (a : GA) (i d : Int) (w : World) (hg : GrAt w w.heap.size g a) (hs : Small g) (hE : gchk g ≠ 0) :
    Calls Tryz.prog 8 #[gval g a, .int .i64 i, .int .i64 d] w fun e w' => e = .returned (.tuple #[.slice none 0 0, .int .i64 (gchk g)]) ∧ Below w.heap.size w w' := by
  obtain ⟨ta, tc, na, nc, pa, pc⟩ := a
  have hG0 := GB.start hg
  have hC := Lib.hid (fun (W : World) (h : GrAt W W.heap.size g ⟨ta, tc, na, nc, pa, pc⟩) => gcheck_any g ⟨ta, tc, na, nc, pa, pc⟩ W h hs)
  clear hg hs
  unfold gval at *
  unfold gcells at *
  dsimp only at *
  obtain ⟨E, hE0⟩ : ∃ E, E = gchk g := ⟨_, rfl⟩
  rw [← hE0] at hC hE ⊢
  have hEb : (E != 0) = true := by simpa using hE
  replace hE0 := Lib.hid hE0
  go_enter Tryz.func8, Tryz.ntmps8
  go_wp2_with (go_at_call 33; refine (hC.out _ ((hG0.2.1).mono hG0.2.2.size)).mono ?_; rintro e w1 ⟨rfl, hb1⟩)
  go_ret2
  exact ⟨rfl, (hG0.step hb1).2.2⟩
theorem refbehind_err (g : Gr) (a : GA) (i d : Int) (w : World) (hg : GrAt w w.heap.size g a) (hs : Small g) (hE : gchk g ≠ 0) :
    Calls Tryz.prog 9 #[gval g a, .int .i64 i, .int .i64 d] w fun e w' => e = .returned (.tuple #[.slice none 0 0, .int .i64 (gchk g)]) ∧ Below w.heap.size w w' := by
  obtain ⟨ta, tc, na, nc, pa, pc⟩ := a
  have hG0 := GB.start hg
  have hC := Lib.hid (fun (W : World) (h : GrAt W W.heap.size g ⟨ta, tc, na, nc, pa, pc⟩) => rcheckg_any g ⟨ta, tc, na, nc, pa, pc⟩ W h hs)
  clear hg hs
  unfold gval at *
  unfold gcells at *
  dsimp only at *
  obtain ⟨E, hE0⟩ : ∃ E, E = gchk g := ⟨_, rfl⟩
  rw [← hE0] at hC hE ⊢
  have hEb : (E != 0) = true := by simpa using hE
  replace hE0 := Lib.hid hE0
  go_enter Tryz.func9, Tryz.ntmps9
  go_wp2_with (go_at_call 39; refine (hC.out _ ((hG0.2.1).mono hG0.2.2.size)).mono ?_; rintro e w1 ⟨rfl, hb1⟩)
  go_ret2
  exact ⟨rfl, (hG0.step hb1).2.2⟩
set_option maxRecDepth 100000 in
set_option maxHeartbeats 4000000 in
theorem refbehind_bad (g : Gr) (a : GA) (i d : Int) (w : World) (hg : GrAt w w.heap.size g a) (hok : gchk g = 0) (hno : noPlace g i d) :
    Calls Tryz.prog 9 #[gval g a, .int .i64 i, .int .i64 d] w fun e w' => e = .returned (.tuple #[.slice none 0 0, .int .i64 2]) ∧ Below w.heap.size w w' := by
  obtain ⟨ta, tc, na, nc, pa, pc⟩ := a
  have hG0 := GB.start hg
  have hC := Lib.hid (fun (W : World) (h : GrAt W W.heap.size g ⟨ta, tc, na, nc, pa, pc⟩) => rcheckg_any g ⟨ta, tc, na, nc, pa, pc⟩ W h (small_of hok))
  rw [hok] at hC
  have hgp := Lib.hid hg.prods
  have hpl := (gok_of hok).pl
  clear hg hok
  unfold gval at *
  unfold gcells at *
  dsimp only at *
  go_enter Tryz.func9, Tryz.ntmps9
  go_upto_region 4 with (go_at_call 39; refine (hC.out _ ((hG0.2.1).mono hG0.2.2.size)).mono ?_; rintro e w1 ⟨rfl, hb1⟩)
  have hG1 := hG0.step hb1
  clear hG0 hb1
  obtain ⟨c0, c1, c2, c3, c4, c5⟩ := hG1.cells
  dsimp only at c1 c3 c5
  have hbW := Lib.hid hG1.2.2
  by_cases h1 : i < 0
  · clear hG1 hno
    go_wp2_with fail
    go_ret2
    exact ⟨rfl, hbW.out⟩
  by_cases h2 : (g.prods.length : Int) ≤ i
  · clear hG1 hno
    go_wp2_with fail
    go_ret2
    exact ⟨rfl, hbW.out⟩
  by_cases h3 : d < 0
  · clear hG1 hno
    go_wp2_with fail
    go_ret2
    exact ⟨rfl, hbW.out⟩
  obtain ⟨p, hp, hd⟩ : ∃ p, g.prods[i.toNat]? = some p ∧ (p.right.length : Int) < d := by
    rcases hno with h | h | h | h
    · exact absurd h h1
    · exact absurd h h2
    · exact absurd h h3
    · exact h
  obtain ⟨n, hn⟩ := Int.eq_ofNat_of_zero_le (show 0 ≤ i by omega)
  subst hn
  rw [Int.toNat_natCast] at hp
  obtain ⟨b, off, rfl, hbt, x0, RA, rc, x1, hx2, hx3, hx4⟩ := hgp.out.get hp
  have y1 := (hG1.2.2.cell (p := ⟨b, off + n * 2 + 1, none⟩) hbt).trans x1
  clear x0 x1 hx2
  replace hp := Lib.hid hp
  have hz1 : (0 : Int) ≤ n := by omega
  have hz2 : (n : Int) < g.prods.length := by omega
  have hz3 : ¬ d ≤ (p.right.length : Int) := by omega
  go_wp2_with fail
  go_ret2
  exact ⟨rfl, hbW.out⟩

/-- what Behind of the reference hands back -/
def RetBs (g : Gr) (p : Pr) (d : Nat) (w : World) (e : Ending) (w' : World) : Prop := ∃ L A c, e = .returned (.tuple #[.slice A L.length c, .int .i64 0]) ∧ BSet g p d L ∧ SetAt w' g.toks.length A L.length c L ∧ Below w.heap.size w w'

set_option maxRecDepth 100000 in
set_option maxHeartbeats 8000000 in
theorem refbehind_any (g : Gr) (a : GA) (i d : Nat) (p : Pr) (w : World) (hg : GrAt w w.heap.size g a) (hok : gchk g = 0) (hp : g.prods[i]? = some p) (hd : d ≤ p.right.length) (hfew : FewB g p d) :
    Calls Tryz.prog 9 #[gval g a, .int .i64 i, .int .i64 d] w (RetBs g p d w) := by
  obtain ⟨ta, tc, na, nc, pa, pc⟩ := a
  have hk := gok_of hok
  have hpm := List.mem_of_getElem? hp
  have hpr := hk.pr p hpm
  have hi : i < g.prods.length := (List.getElem?_eq_some_iff.1 hp).1
  have hG0 := GB.start hg
  obtain ⟨b, off, hA, hbt, x0, RA, rc, x1, hx2, hx3, hx4⟩ := hg.prods.get hp
  dsimp only at hA
  subst hA
  have hC := Lib.hid (fun (W : World) (h : GrAt W W.heap.size g ⟨ta, tc, na, nc, some ⟨b, off, none⟩, pc⟩) => rcheckg_any g ⟨ta, tc, na, nc, some ⟨b, off, none⟩, pc⟩ W h (small_of hok))
  rw [hok] at hC
  have hP := Lib.hid (fun (L : List Lk) (A : Option Addr) (c : Nat) (w' : World) (h1 : BSet g p d L) (h2 : SetAt w' g.toks.length A L.length c L) (h3 : Below w.heap.size w w') => (show RetBs g p d w (.returned (.tuple #[.slice A L.length c, .int .i64 0])) w' from ⟨L, A, c, rfl, h1, h2, h3⟩))
  obtain ⟨jx, hjx⟩ := Int.eq_ofNat_of_zero_le (show 0 ≤ p.left - 16 by have := hpr.1; omega)
  have hjxn : (p.left - 16).toNat = jx := by omega
  have hjxi : jx < g.names.length := by have := hpr.1; omega
  have hjr : p.left - 16 = (jx : Int) := hjx
  have zwj : IntKind.i64.wrap (p.left - 16) = (jx : Int) := by rw [hjx]; exact IntWalk.i64_in _ (by have := hk.nm; omega)
  have hzjx : (0 : Int) ≤ jx := by omega
  have hzjy : (jx : Int) < g.names.length := by omega
  have hz1 : (0 : Int) ≤ i := by omega
  have hz2 : (i : Int) < g.prods.length := by omega
  have hz3 : (0 : Int) ≤ d := by omega
  have hz4 : (d : Int) ≤ p.right.length := by omega
  have hz5 : (d : Int) ≤ rc := by omega
  have hzl : g.prods.length ≤ 24 := hk.pl
  have hr6 : p.right.length ≤ 6 := hpr.2.1
  have hn8 : g.names.length ≤ 8 := hk.nm.2
  have hkk : g.k = (g.k.toNat : Int) := hk.hk
  have hm := hk.tk
  have hdr : ∀ z ∈ p.right.drop d, (0 ≤ z ∧ z < g.toks.length) ∨ (16 ≤ z ∧ z < 16 + (g.names.length : Int)) := fun z hz => hpr.2.2 z (List.mem_of_mem_drop hz)
  have hFiA := Lib.hid (fun (W : World) (h : GrAt W W.heap.size g ⟨ta, tc, na, nc, some ⟨b, off, none⟩, pc⟩) => firsts_any g ⟨ta, tc, na, nc, some ⟨b, off, none⟩, pc⟩ g.k.toNat hk W h)
  have hFoA := Lib.hid (fun (W : World) (h : GrAt W W.heap.size g ⟨ta, tc, na, nc, some ⟨b, off, none⟩, pc⟩) => follows_any g ⟨ta, tc, na, nc, some ⟨b, off, none⟩, pc⟩ g.k.toNat hk W h)
  have hOfA := Lib.hid (fun (l : List Int) hl (bo : Nat) (ss : List (List Lk)) (RA : Option Addr) (rc : Nat) (W : World) hg hS hf hR hln => refof_ok g ⟨ta, tc, na, nc, some ⟨b, off, none⟩, pc⟩ g.k.toNat hk l hl bo ss RA rc W hg hS hf hR hln)
  have hBS : Hid (∀ ss fs ss2, SetsFit g.k.toNat ss → SoundF g.prods g.k.toNat ss → ClosedF g.prods g.k.toNat ss → SetsFit g.k.toNat fs → SoundO g.prods g.k.toNat g.start fs → SetsFit g.k.toNat ss2 → SoundF g.prods g.k.toNat ss2 → ClosedF g.prods g.k.toNat ss2 → ClosedO g.prods g.k.toNat g.start ss2 fs → BSet g p d (sumR g.k.toNat (tailL g.k.toNat ss (p.right.drop d)) (fs.getD jx []))) :=
    Lib.hid fun ss fs ss2 h1 h2 h3 h4 h5 h6 h7 h8 h9 => by
      have := bset_sum hok rfl h1 h2 h3 h4 h5 h6 h7 h8 h9 hpm d
      rwa [hjxn] at this
  have hTfit : ∀ ss, SetsFit g.k.toNat ss → ∀ x ∈ tailL g.k.toNat ss (p.right.drop d), Fit g.k.toNat x := fun ss h => tail_fit hk.k1 hk.k4 h _ fun z hz => hk.sym hpm z (List.mem_of_mem_drop hz)
  have hSm : Hid (∀ ss fs A1 k1 Xf xcf W', SetsFit g.k.toNat ss → SetsFit g.k.toNat fs → SetAt W' g.toks.length A1 (tailL g.k.toNat ss (p.right.drop d)).length k1 (tailL g.k.toNat ss (p.right.drop d)) → SetAt W' g.toks.length Xf (fs.getD jx []).length xcf (fs.getD jx []) →
      Calls Tryz.prog 40 #[.int .i64 g.toks.length, .int .i64 g.k, .slice A1 (tailL g.k.toNat ss (p.right.drop d)).length k1, .slice Xf (fs.getD jx []).length xcf] W' (RetL0 W' (sumR g.k.toNat (tailL g.k.toNat ss (p.right.drop d)) (fs.getD jx [])))) :=
    Lib.hid fun ss fs A1 k1 Xf xcf W' h1 h2 h3 h4 => by
      have := sum_ok g.toks.length g.k.toNat A1 Xf _ _ k1 xcf _ _ W' (by omega) (by omega) hk.k1 hk.k4 h3 h4 (hTfit ss h1) (setsFit_get h2 jx)
      rwa [← hkk] at this
  have hOwn : Hid (∀ ss fs (W' : World) (base : Nat) (v : Value), SetsFit g.k.toNat ss → SoundF g.prods g.k.toNat ss → SetsFit g.k.toNat fs → SoundO g.prods g.k.toNat g.start fs → OwnL W' base v (sumR g.k.toNat (tailL g.k.toNat ss (p.right.drop d)) (fs.getD jx [])) →
      ∃ A c, v = .slice A (sumR g.k.toNat (tailL g.k.toNat ss (p.right.drop d)) (fs.getD jx [])).length c ∧ SetAt W' g.toks.length A (sumR g.k.toNat (tailL g.k.toNat ss (p.right.drop d)) (fs.getD jx [])).length c (sumR g.k.toNat (tailL g.k.toNat ss (p.right.drop d)) (fs.getD jx []))) :=
    Lib.hid fun ss fs W' base v h1 h2 h3 h4 ho => by
      refine SetAt.of_own ho (fun x hx => ?_) (by omega) (sumR_asc hk.k4 (hTfit ss h1) (setsFit_get h3 jx))
      obtain ⟨y, hy, z, hz, rfl⟩ := (sumR_mem hk.k4 (hTfit ss h1) (setsFit_get h3 jx) x).1 hx
      exact lplus_right hk.k4 (fl_rightG hk (fun s hs h16 => by have := hdr s hs; omega) (tail_sound hk.k1 hk.k4 h1 h2 _ (fun z hz => hk.sym hpm z (List.mem_of_mem_drop hz)) y hy)) (fo_rightG hk (h4 _ z hz))
  have hfewR : Hid (∀ L, BSet g p d L → ¬ (600 : Int) < L.length) := Lib.hid fun L h => by
    have := hfew L (asc_nodup h.1) fun y hy => (h.2 y).1 hy
    omega
  replace hp := Lib.hid hp
  replace hpm := Lib.hid hpm
  replace hpr := Lib.hid hpr
  replace hjx := Lib.hid hjx
  replace hjr := Lib.hid hjr
  replace hjxn := Lib.hid hjxn
  replace hkk := Lib.hid hkk
  replace hk := Lib.hid hk
  replace hdr := Lib.hid hdr
  replace hTfit := Lib.hid hTfit
  clear hg hok hfew
  unfold maxLen at hx4
  unfold gval at *
  unfold gcells at *
  dsimp only at *
  go_enter Tryz.func9, Tryz.ntmps9
  go_upto_region 4 with (go_at_call 39; refine (hC.out _ ((hG0.2.1).mono hG0.2.2.size)).mono ?_; rintro e w1 ⟨rfl, hb1⟩)
  have hG1 := hG0.step hb1
  clear hG0 hb1 hC
  obtain ⟨c0, c1, c2, c3, c4, c5⟩ := hG1.cells
  dsimp only at c1 c3 c5
  have y0 := (hG1.2.2.cell (p := ⟨b, off + i * 2, none⟩) hbt).trans x0
  have y1 := (hG1.2.2.cell (p := ⟨b, off + i * 2 + 1, none⟩) hbt).trans x1
  clear x0 x1
  go_upto_region 7 with (fail)
  have hbA : Below w1.heap.size w1 (w1.alloc (.cells #[.int .i64 p.left, .slice RA p.right.length rc] 47)) := bAlc (Below.refl _ _) _
  have q7 := Blk.new w1 47 #[.int .i64 p.left, .slice RA p.right.length rc]
  have hG2 := hG1.step hbA
  clear c0 c1 c2 c3 c4 c5 y0 y1 hG1 hbA
  generalize w1.alloc (.cells #[.int .i64 p.left, .slice RA p.right.length rc] 47) = W at *
  generalize w1.heap.size = gp at *
  obtain ⟨c0, c1, c2, c3, c4, c5⟩ := hG2.cells
  dsimp only at c1 c3 c5
  have p0 := q7.cell 0
  have p1 := q7.cell 1
  simp only [List.getElem?_toArray, List.getElem?_cons_zero, List.getElem?_cons_succ] at p0 p1
  have hszw := hG2.lt
  have hFi : Hid (∀ W', Below W.heap.size W W' → Calls Tryz.prog 42 #[.agg #[.int .i64 g.k, .slice ta g.toks.length tc, .string g.sep, .slice na g.names.length nc, .int .i64 g.start, .slice (some ⟨b, off, none⟩) g.prods.length pc]] W' (RetFs g g.k.toNat W')) := Lib.hid fun W' hb => hFiA.out W' (((hG2.step hb).2.1).mono (by have := hb.size; omega))
  have hFo : Hid (∀ W', Below W.heap.size W W' → Calls Tryz.prog 43 #[.agg #[.int .i64 g.k, .slice ta g.toks.length tc, .string g.sep, .slice na g.names.length nc, .int .i64 g.start, .slice (some ⟨b, off, none⟩) g.prods.length pc]] W' (RetFo g g.k.toNat W')) := Lib.hid fun W' hb => hFoA.out W' (((hG2.step hb).2.1).mono (by have := hb.size; omega))
  have hOf : Hid (∀ bf ss SA sn sc W', sn = (p.right.drop d).length → Rd1 W' W'.heap.size SA sn (ints (p.right.drop d)) → Below W.heap.size W W' → SetsA W' bf g.names.length g.toks.length ss → SetsFit g.k.toNat ss → Calls Tryz.prog 41 #[.agg #[.int .i64 g.k, .slice ta g.toks.length tc, .string g.sep, .slice na g.names.length nc, .int .i64 g.start, .slice (some ⟨b, off, none⟩) g.prods.length pc], .slice (some ⟨bf, 0, none⟩) g.names.length g.names.length, .slice SA sn sc] W' (RetSt g.toks.length (tailL g.k.toNat ss (p.right.drop d)) W')) :=
    Lib.hid fun bf ss SA sn sc W' hsn hr hb hS hf => by
      subst hsn
      exact hOfA.out (p.right.drop d) hdr.out bf ss SA sc W' (((hG2.step hb).2.1).mono (by have := hb.size; omega)) hS hf hr (by rw [List.length_drop]; omega)
  have hx2d : Rd1 W w.heap.size (if rc = d then RA else RA.map (·.add d)) (p.right.length - d) (ints (p.right.drop d)) := by
    have := (hx2.drop d rc (by omega) hx3).below hG2.2.2
    rwa [show (ints p.right).drop d = ints (p.right.drop d) by simp [ints]] at this
  have hsn : Hid (p.right.length - d = (p.right.drop d).length) := Lib.hid (by rw [List.length_drop])
  clear hFiA hFoA hOfA
  have hbW := Lib.hid hG2.2.2
  go_cut [10] (fun s10 wx => ∃ L A2 c2, s10 = .slice A2 L.length c2 ∧ BSet g p d L ∧ SetAt wx g.toks.length A2 L.length c2 L ∧ Below W.heap.size W wx)
  case first =>
    by_cases hdl : d < p.right.length
    · have hsd : (ints p.right)[d]? = some (.int .i64 (p.right.getD d 0)) := by simp [ints, hdl]
      obtain ⟨rb, roff, hRA, _, _⟩ := hx2.get hsd
      subst hRA
      have hcap : ¬ rc = d := by omega
      have hadd : (some (⟨rb, roff, none⟩ : Addr)).map (·.add d) = some ⟨rb, roff + d, none⟩ := by rw [Option.map_some, add_off]
      rw [if_neg hcap, hadd] at hx2d
      clear hadd hsd
      have hT : Hid (∀ bf ss W', Below W.heap.size W W' → SetsA W' bf g.names.length g.toks.length ss → SetsFit g.k.toNat ss → Calls Tryz.prog 41 #[.agg #[.int .i64 g.k, .slice ta g.toks.length tc, .string g.sep, .slice na g.names.length nc, .int .i64 g.start, .slice (some ⟨b, off, none⟩) g.prods.length pc], .slice (some ⟨bf, 0, none⟩) g.names.length g.names.length, .slice (some ⟨rb, roff + d, none⟩) (p.right.length - d) (rc - d)] W' (RetSt g.toks.length (tailL g.k.toNat ss (p.right.drop d)) W')) :=
        Lib.hid fun bf ss W' hb hS hf => hOf.out bf ss _ _ _ W' hsn.out (((hx2d.mono (by omega)).below hb).mono hb.size) hb hS hf
      have hAll : Hid (∀ w', Below W.heap.size W w' → w'.cell? ⟨w.heap.size, 0, none⟩ = some (.int .i64 g.k) ∧ w'.cell? ⟨w.heap.size, 1, none⟩ = some (.slice ta g.toks.length tc) ∧ w'.cell? ⟨w.heap.size, 2, none⟩ = some (.string g.sep) ∧ w'.cell? ⟨w.heap.size, 3, none⟩ = some (.slice na g.names.length nc) ∧ w'.cell? ⟨w.heap.size, 4, none⟩ = some (.int .i64 g.start) ∧ w'.cell? ⟨w.heap.size, 5, none⟩ = some (.slice (some ⟨b, off, none⟩) g.prods.length pc) ∧ w'.cell? ⟨gp, 0, none⟩ = some (.int .i64 p.left) ∧ w'.cell? ⟨gp, 1, none⟩ = some (.slice (some ⟨rb, roff, none⟩) p.right.length rc) ∧ Below W.heap.size W w') := Lib.hid fun w' h => ⟨cell_later h c0, cell_later h c1, cell_later h c2, cell_later h c3, cell_later h c4, cell_later h c5, cell_later h p0, cell_later h p1, h⟩
      clear hOf hx2d hx2 q7 hG2 c0 c1 c2 c3 c4 c5 p0 p1 hfewR hP hbW
      refine wp_region_held_drew (S := (fun w' => w'.cell? ⟨w.heap.size, 0, none⟩ = some (.int .i64 g.k) ∧ w'.cell? ⟨w.heap.size, 1, none⟩ = some (.slice ta g.toks.length tc) ∧ w'.cell? ⟨w.heap.size, 2, none⟩ = some (.string g.sep) ∧ w'.cell? ⟨w.heap.size, 3, none⟩ = some (.slice na g.names.length nc) ∧ w'.cell? ⟨w.heap.size, 4, none⟩ = some (.int .i64 g.start) ∧ w'.cell? ⟨w.heap.size, 5, none⟩ = some (.slice (some ⟨b, off, none⟩) g.prods.length pc) ∧ w'.cell? ⟨gp, 0, none⟩ = some (.int .i64 p.left) ∧ w'.cell? ⟨gp, 1, none⟩ = some (.slice (some ⟨rb, roff, none⟩) p.right.length rc) ∧ Below W.heap.size W w')) (by kernel_rfl) (hAll.out _ (bDrw (Below.refl _ _))) (fun hHeld => ?_)
      refine wpAnyH_take (i := 0) (oi := ⟨some 47, _, _, _, _, _⟩) (v := ?vba1) rfl (by kernel_rfl) (by kernel_rfl) (by kernel_rfl) (fun _ _ _ h => h) (Or.inl ⟨by rfl, ?hyba1⟩) (by assumption) ?restba1
      case hyba1 => (intro w hSw; (try dsimp only at hSw); go_simp <;> with_reducible rfl)
      try simp only [Act.put, List.setIfInBounds_toArray, List.set_cons_zero, List.set_cons_succ]
      refine wpAnyH_take (i := 1) (oi := ⟨some 48, _, _, _, _, _⟩) (v := ?vba2) rfl (by kernel_rfl) (by kernel_rfl) (by kernel_rfl) (fun _ _ _ h => h) (Or.inl ⟨by rfl, ?hyba2⟩) (by assumption) ?restba2
      case hyba2 => (intro w hSw; (try dsimp only at hSw); go_simp <;> with_reducible rfl)
      try simp only [Act.put, List.setIfInBounds_toArray, List.set_cons_zero, List.set_cons_succ]
      refine wpAnyH_take (i := 2) (oi := ⟨some 49, _, _, _, _, _⟩) (v := ?vba3) rfl (by kernel_rfl) (by kernel_rfl) (by kernel_rfl) (fun _ _ _ h => h) (Or.inl ⟨by rfl, ?hyba3⟩) (by assumption) ?restba3
      case hyba3 => (intro w hSw; (try dsimp only at hSw); go_simp <;> with_reducible rfl)
      try simp only [Act.put, List.setIfInBounds_toArray, List.set_cons_zero, List.set_cons_succ]
      refine wpAnyH_take (i := 3) (oi := ⟨some 50, _, _, _, _, _⟩) (v := ?vba4) rfl (by kernel_rfl) (by kernel_rfl) (by kernel_rfl) (fun _ _ _ h => h) (Or.inl ⟨by rfl, ?hyba4⟩) (by assumption) ?restba4
      case hyba4 => (intro w hSw; (try dsimp only at hSw); go_simp <;> with_reducible rfl)
      try simp only [Act.put, List.setIfInBounds_toArray, List.set_cons_zero, List.set_cons_succ]
      refine wpAnyH_take (i := 4) (oi := ⟨some 51, _, _, _, _, _⟩) (v := ?vba5) rfl (by kernel_rfl) (by kernel_rfl) (by kernel_rfl) (fun _ _ _ h => h) (Or.inl ⟨by rfl, ?hyba5⟩) (by assumption) ?restba5
      case hyba5 => (intro w hSw; (try dsimp only at hSw); go_simp <;> with_reducible rfl)
      try simp only [Act.put, List.setIfInBounds_toArray, List.set_cons_zero, List.set_cons_succ]
      refine wpAnyH_take (i := 5) (oi := ⟨some 52, _, _, _, _, _⟩) (v := ?vba6) rfl (by kernel_rfl) (by kernel_rfl) (by kernel_rfl) (fun _ _ _ h => h) (Or.inl ⟨by rfl, ?hyba6⟩) (by assumption) ?restba6
      case hyba6 => (intro w hSw; (try dsimp only at hSw); go_simp <;> with_reducible rfl)
      try simp only [Act.put, List.setIfInBounds_toArray, List.set_cons_zero, List.set_cons_succ]
      refine wpAnyH_take (i := 6) (oi := ⟨some 53, _, _, _, _, _⟩) (v := ?vba7) rfl (by kernel_rfl) (by kernel_rfl) (by kernel_rfl) (fun _ _ _ h => h) (Or.inl ⟨by rfl, ?hyba7⟩) (by assumption) ?restba7
      case hyba7 => (intro w hSw; (try dsimp only at hSw); go_simp <;> with_reducible rfl)
      try simp only [Act.put, List.setIfInBounds_toArray, List.set_cons_zero, List.set_cons_succ]
      refine wpAnyH_take (i := 8) (oi := ⟨some 55, _, _, _, _, _⟩) (v := ?vba8) rfl (by kernel_rfl) (by kernel_rfl) (by kernel_rfl) (fun _ _ _ h => h) (Or.inl ⟨by rfl, ?hyba8⟩) (by assumption) ?restba8
      case hyba8 => (intro w hSw; (try dsimp only at hSw); go_simp <;> with_reducible rfl)
      try simp only [Act.put, List.setIfInBounds_toArray, List.set_cons_zero, List.set_cons_succ]
      refine wpAnyH_take (i := 9) (oi := ⟨some 56, _, _, _, _, _⟩) (v := ?vba9) rfl (by kernel_rfl) (by kernel_rfl) (by kernel_rfl) (fun _ _ _ h => h) (Or.inl ⟨by rfl, ?hyba9⟩) (by assumption) ?restba9
      case hyba9 => (intro w hSw; (try dsimp only at hSw); go_simp <;> with_reducible rfl)
      try simp only [Act.put, List.setIfInBounds_toArray, List.set_cons_zero, List.set_cons_succ]
      refine wpAnyH_take (i := 10) (oi := ⟨some 57, _, _, _, _, _⟩) (v := ?vba10) rfl (by kernel_rfl) (by kernel_rfl) (by kernel_rfl) (fun _ _ _ h => h) (Or.inl ⟨by rfl, ?hyba10⟩) (by assumption) ?restba10
      case hyba10 => (intro w hSw; (try dsimp only at hSw); go_simp <;> with_reducible rfl)
      try simp only [Act.put, List.setIfInBounds_toArray, List.set_cons_zero, List.set_cons_succ]
      refine wpAnyH_take (i := 11) (oi := ⟨some 58, _, _, _, _, _⟩) (v := ?vba11) rfl (by kernel_rfl) (by kernel_rfl) (by kernel_rfl) (fun _ _ _ h => h) (Or.inl ⟨by rfl, ?hyba11⟩) (by assumption) ?restba11
      case hyba11 => (intro w hSw; (try dsimp only at hSw); go_simp <;> with_reducible rfl)
      try simp only [Act.put, List.setIfInBounds_toArray, List.set_cons_zero, List.set_cons_succ]
      refine wpAnyH_take (i := 13) (oi := ⟨some 60, _, _, _, _, _⟩) (v := ?vba12) rfl (by kernel_rfl) (by kernel_rfl) (by kernel_rfl) (fun _ _ _ h => h) (Or.inl ⟨by rfl, ?hyba12⟩) (by assumption) ?restba12
      case hyba12 => (intro w hSw; (try dsimp only at hSw); go_simp <;> with_reducible rfl)
      try simp only [Act.put, List.setIfInBounds_toArray, List.set_cons_zero, List.set_cons_succ]
      refine wpAnyH_take (i := 15) (oi := ⟨some 62, _, _, _, _, _⟩) (v := ?vba13) rfl (by kernel_rfl) (by kernel_rfl) (by kernel_rfl) (fun _ _ _ h => h) (Or.inl ⟨by rfl, ?hyba13⟩) (by assumption) ?restba13
      case hyba13 => (intro w hSw; (try dsimp only at hSw); go_simp <;> with_reducible rfl)
      try simp only [Act.put, List.setIfInBounds_toArray, List.set_cons_zero, List.set_cons_succ]
      refine wpAnyH_take (i := 16) (oi := ⟨some 63, _, _, _, _, _⟩) (v := ?vba14) rfl (by kernel_rfl) (by kernel_rfl) (by kernel_rfl) (fun _ _ _ h => h) (Or.inl ⟨by rfl, ?hyba14⟩) (by assumption) ?restba14
      case hyba14 => (intro w hSw; (try dsimp only at hSw); go_simp <;> with_reducible rfl)
      try simp only [Act.put, List.setIfInBounds_toArray, List.set_cons_zero, List.set_cons_succ]
      refine wpAnyH_take (i := 17) (oi := ⟨some 64, _, _, _, _, _⟩) (v := ?vba15) rfl (by kernel_rfl) (by kernel_rfl) (by kernel_rfl) (fun _ _ _ h => h) (Or.inl ⟨by rfl, ?hyba15⟩) (by assumption) ?restba15
      case hyba15 => (intro w hSw; (try dsimp only at hSw); go_simp <;> with_reducible rfl)
      try simp only [Act.put, List.setIfInBounds_toArray, List.set_cons_zero, List.set_cons_succ]
      refine wpAnyH_ready (rs := [7]) (by kernel_rfl) (by simp) ?_
      refine AllReadyH.cons (o := ⟨some 54, _, _, _, _, _⟩) rfl (fun K hK => ?_) ?_
      · go_simp
        go_at_call 42
        refine (hFi.out _ (by repeat (first | assumption | exact Below.refl _ _ | (refine bStep ?_ (by assumption)) | (with_reducible refine bAlc ?_ _) | (with_reducible refine bDrw ?_)))).mono ?_
        rintro e w1 ⟨bf, ss, rfl, hSf, _, hfit, hsnd, hcls, hb1⟩
        try have hcf := cell_later hb1 hcf
        go_wp2_with fail
        refine hK.out _ _ ?_ (fun hHeld => ?_)
        · (exact hAll.out _ (by repeat (first | assumption | exact Below.refl _ _ | (refine bStep ?_ (by assumption)) | (with_reducible refine bAlc ?_ _) | (with_reducible refine bDrw ?_))))
        clear hK K
        try simp only [Act.put, List.setIfInBounds_toArray, List.set_cons_zero, List.set_cons_succ]
        refine wpAnyH_ready (rs := [12]) (by kernel_rfl) (by simp) ?_
        refine AllReadyH.cons (o := ⟨some 59, _, _, _, _, _⟩) rfl (fun K hK => ?_) ?_
        · go_simp
          go_at_call 41
          refine (hT.out bf ss _ (by repeat (first | assumption | exact Below.refl _ _ | (refine bStep ?_ (by assumption)) | (with_reducible refine bAlc ?_ _) | (with_reducible refine bDrw ?_))) (hSf.step (by repeat (first | assumption | exact Below.refl _ _ | (refine bStep ?_ (by assumption)) | (with_reducible refine bAlc ?_ _) | (with_reducible refine bDrw ?_)))) hfit).mono ?_
          rintro e w3 ⟨A1, k1, rfl, hs1, hb3⟩
          try have hcf := cell_later hb3 hcf
          go_wp2_with fail
          refine hK.out _ _ ?_ (fun hHeld => ?_)
          · (exact hAll.out _ (by repeat (first | assumption | exact Below.refl _ _ | (refine bStep ?_ (by assumption)) | (with_reducible refine bAlc ?_ _) | (with_reducible refine bDrw ?_))))
          clear hK K
          try simp only [Act.put, List.setIfInBounds_toArray, List.set_cons_zero, List.set_cons_succ]
          refine wpAnyH_ready (rs := [14]) (by kernel_rfl) (by simp) ?_
          refine AllReadyH.cons (o := ⟨some 61, _, _, _, _, _⟩) rfl (fun K hK => ?_) ?_
          · go_simp
            go_at_call 43
            refine (hFo.out _ (by repeat (first | assumption | exact Below.refl _ _ | (refine bStep ?_ (by assumption)) | (with_reducible refine bAlc ?_ _) | (with_reducible refine bDrw ?_)))).mono ?_
            rintro e w2 ⟨bo, fs, ss2, rfl, hSo, f1, f2, f3, f4, f5, f6, hb2⟩
            obtain ⟨Xf, xcf, hcf, _, hXf⟩ := hSo.get jx hjxi
            go_wp2_with fail
            refine hK.out _ _ ?_ (fun hHeld => ?_)
            · (exact hAll.out _ (by repeat (first | assumption | exact Below.refl _ _ | (refine bStep ?_ (by assumption)) | (with_reducible refine bAlc ?_ _) | (with_reducible refine bDrw ?_))))
            clear hK K
            try simp only [Act.put, List.setIfInBounds_toArray, List.set_cons_zero, List.set_cons_succ]
            refine wpAnyH_take (i := 18) (oi := ⟨some 65, _, _, _, _, _⟩) (v := ?vba16) rfl (by kernel_rfl) (by kernel_rfl) (by kernel_rfl) (fun _ _ _ h => h) (Or.inl ⟨by rfl, ?hyba16⟩) (by assumption) ?restba16
            case hyba16 => (intro w hSw; (try dsimp only at hSw); go_simp <;> with_reducible rfl)
            try simp only [Act.put, List.setIfInBounds_toArray, List.set_cons_zero, List.set_cons_succ]
            refine wpAnyH_ready (rs := [19]) (by kernel_rfl) (by simp) ?_
            refine AllReadyH.cons (o := ⟨some 66, _, _, _, _, _⟩) rfl (fun K hK => ?_) ?_
            · go_simp
              refine hK.out _ _ ?_ (fun hHeld => ?_)
              · (exact hAll.out _ (by repeat (first | assumption | exact Below.refl _ _ | (refine bStep ?_ (by assumption)) | (with_reducible refine bAlc ?_ _) | (with_reducible refine bDrw ?_))))
              clear hK K
              try simp only [Act.put, List.setIfInBounds_toArray, List.set_cons_zero, List.set_cons_succ]
              refine wpAnyH_ready (rs := [20]) (by kernel_rfl) (by simp) ?_
              refine AllReadyH.cons (o := ⟨some 67, _, _, _, _, _⟩) rfl (fun K hK => ?_) ?_
              · go_simp
                go_at_call 40
                refine (hSm.out ss fs A1 k1 Xf xcf _ hfit f1 (hs1.step (by repeat (first | assumption | exact Below.refl _ _ | (refine bStep ?_ (by assumption)) | (with_reducible refine bAlc ?_ _) | (with_reducible refine bDrw ?_)))) (hXf.step (by repeat (first | assumption | exact Below.refl _ _ | (refine bStep ?_ (by assumption)) | (with_reducible refine bAlc ?_ _) | (with_reducible refine bDrw ?_))))).mono ?_
                rintro e w4 ⟨v4, rfl, ho4, hb4⟩
                obtain ⟨A4, k4, rfl, hs4⟩ := hOwn.out _ _ _ _ _ hfit hsnd f1 f2 ho4
                go_wp2_with fail
                refine hK.out _ _ ?_ (fun hHeld => ?_)
                · (exact hAll.out _ (by repeat (first | assumption | exact Below.refl _ _ | (refine bStep ?_ (by assumption)) | (with_reducible refine bAlc ?_ _) | (with_reducible refine bDrw ?_))))
                clear hK K
                try simp only [Act.put, List.setIfInBounds_toArray, List.set_cons_zero, List.set_cons_succ]
                refine wpAnyH_take (i := 21) (oi := ⟨some 46, _, _, _, _, _⟩) (v := ?vba17) rfl (by kernel_rfl) (by kernel_rfl) (by kernel_rfl) (fun _ _ _ h => h) (Or.inl ⟨by rfl, ?hyba17⟩) (by assumption) ?restba17
                case hyba17 => (intro w hSw; (try dsimp only at hSw); go_simp <;> with_reducible rfl)
                try simp only [Act.put, List.setIfInBounds_toArray, List.set_cons_zero, List.set_cons_succ]
                refine wpAnyH_take (i := 22) (oi := ⟨some 68, _, _, _, _, _⟩) (v := ?vba18) rfl (by kernel_rfl) (by kernel_rfl) (by kernel_rfl) (fun _ _ _ h => h) (Or.inl ⟨by rfl, ?hyba18⟩) (by assumption) ?restba18
                case hyba18 => (intro w hSw; (try dsimp only at hSw); go_simp <;> with_reducible rfl)
                try simp only [Act.put, List.setIfInBounds_toArray, List.set_cons_zero, List.set_cons_succ]
                refine wpAnyH_take (i := 23) (oi := ⟨some 69, _, _, _, _, _⟩) (v := ?vba19) rfl (by kernel_rfl) (by kernel_rfl) (by kernel_rfl) (fun _ _ _ h => h) (Or.inl ⟨by rfl, ?hyba19⟩) (by assumption) ?restba19
                case hyba19 => (intro w hSw; (try dsimp only at hSw); go_simp <;> with_reducible rfl)
                try simp only [Act.put, List.setIfInBounds_toArray, List.set_cons_zero, List.set_cons_succ]
                refine wpAnyH_take (i := 24) (oi := ⟨some 10, _, _, _, _, _⟩) (v := ?vba20) rfl (by kernel_rfl) (by kernel_rfl) (by kernel_rfl) (fun _ _ _ h => h) (Or.inl ⟨by rfl, ?hyba20⟩) (by assumption) ?restba20
                case hyba20 => (intro w hSw; (try dsimp only at hSw); go_simp <;> with_reducible rfl)
                try simp only [Act.put, List.setIfInBounds_toArray, List.set_cons_zero, List.set_cons_succ]
                refine wpAnyH_take (i := 25) (oi := ⟨some 11, _, _, _, _, _⟩) (v := ?vba21) rfl (by kernel_rfl) (by kernel_rfl) (by kernel_rfl) (fun _ _ _ h => h) (Or.inl ⟨by rfl, ?hyba21⟩) (by assumption) ?restba21
                case hyba21 => (intro w hSw; (try dsimp only at hSw); go_simp <;> with_reducible rfl)
                try simp only [Act.put, List.setIfInBounds_toArray, List.set_cons_zero, List.set_cons_succ]
                refine wpAnyH_done (by kernel_rfl) ?_ _
                go_wp2_with fail
                go_meet
                exact ⟨_, A4, k4, rfl, hBS.out _ _ _ hfit hsnd hcls f1 f2 f3 f4 f5 f6, hs4, (by repeat (first | assumption | exact Below.refl _ _ | (refine bStep ?_ (by assumption)) | (with_reducible refine bAlc ?_ _) | (with_reducible refine bDrw ?_)))⟩
              exact AllReadyH.nil
            exact AllReadyH.nil
          exact AllReadyH.nil
        exact AllReadyH.nil
      exact AllReadyH.nil
    · have hde : d = p.right.length := by omega
      have hT : Hid (∀ bf ss W' SA sn sc, sn = 0 → Below W.heap.size W W' → SetsA W' bf g.names.length g.toks.length ss → SetsFit g.k.toNat ss → Calls Tryz.prog 41 #[.agg #[.int .i64 g.k, .slice ta g.toks.length tc, .string g.sep, .slice na g.names.length nc, .int .i64 g.start, .slice (some ⟨b, off, none⟩) g.prods.length pc], .slice (some ⟨bf, 0, none⟩) g.names.length g.names.length, .slice SA sn sc] W' (RetSt g.toks.length (tailL g.k.toNat ss (p.right.drop d)) W')) :=
        Lib.hid fun bf ss W' SA sn sc h0 hb hS hf => hOf.out bf ss SA sn sc W' (by rw [← hsn.out]; omega) (by
          rw [h0, hde, List.drop_length]; exact ⟨rfl, .inl rfl⟩) hb hS hf
      clear hOf hx2d hx2 hsn hfewR hP hbW hdr hTfit
      generalize p.right.drop d = R at *
      subst hde
      by_cases hcap : rc = p.right.length
      · subst hcap
        have hAll : Hid (∀ w', Below W.heap.size W w' → w'.cell? ⟨w.heap.size, 0, none⟩ = some (.int .i64 g.k) ∧ w'.cell? ⟨w.heap.size, 1, none⟩ = some (.slice ta g.toks.length tc) ∧ w'.cell? ⟨w.heap.size, 2, none⟩ = some (.string g.sep) ∧ w'.cell? ⟨w.heap.size, 3, none⟩ = some (.slice na g.names.length nc) ∧ w'.cell? ⟨w.heap.size, 4, none⟩ = some (.int .i64 g.start) ∧ w'.cell? ⟨w.heap.size, 5, none⟩ = some (.slice (some ⟨b, off, none⟩) g.prods.length pc) ∧ w'.cell? ⟨gp, 0, none⟩ = some (.int .i64 p.left) ∧ w'.cell? ⟨gp, 1, none⟩ = some (.slice RA p.right.length p.right.length) ∧ Below W.heap.size W w') := Lib.hid fun w' h => ⟨cell_later h c0, cell_later h c1, cell_later h c2, cell_later h c3, cell_later h c4, cell_later h c5, cell_later h p0, cell_later h p1, h⟩
        clear q7 hG2 c0 c1 c2 c3 c4 c5 p0 p1
        refine wp_region_held_drew (S := (fun w' => w'.cell? ⟨w.heap.size, 0, none⟩ = some (.int .i64 g.k) ∧ w'.cell? ⟨w.heap.size, 1, none⟩ = some (.slice ta g.toks.length tc) ∧ w'.cell? ⟨w.heap.size, 2, none⟩ = some (.string g.sep) ∧ w'.cell? ⟨w.heap.size, 3, none⟩ = some (.slice na g.names.length nc) ∧ w'.cell? ⟨w.heap.size, 4, none⟩ = some (.int .i64 g.start) ∧ w'.cell? ⟨w.heap.size, 5, none⟩ = some (.slice (some ⟨b, off, none⟩) g.prods.length pc) ∧ w'.cell? ⟨gp, 0, none⟩ = some (.int .i64 p.left) ∧ w'.cell? ⟨gp, 1, none⟩ = some (.slice RA p.right.length p.right.length) ∧ Below W.heap.size W w')) (by kernel_rfl) (hAll.out _ (bDrw (Below.refl _ _))) (fun hHeld => ?_)
        refine wpAnyH_take (i := 0) (oi := ⟨some 47, _, _, _, _, _⟩) (v := ?vbb1) rfl (by kernel_rfl) (by kernel_rfl) (by kernel_rfl) (fun _ _ _ h => h) (Or.inl ⟨by rfl, ?hybb1⟩) (by assumption) ?restbb1
        case hybb1 => (intro w hSw; (try dsimp only at hSw); go_simp <;> with_reducible rfl)
        try simp only [Act.put, List.setIfInBounds_toArray, List.set_cons_zero, List.set_cons_succ]
        refine wpAnyH_take (i := 1) (oi := ⟨some 48, _, _, _, _, _⟩) (v := ?vbb2) rfl (by kernel_rfl) (by kernel_rfl) (by kernel_rfl) (fun _ _ _ h => h) (Or.inl ⟨by rfl, ?hybb2⟩) (by assumption) ?restbb2
        case hybb2 => (intro w hSw; (try dsimp only at hSw); go_simp <;> with_reducible rfl)
        try simp only [Act.put, List.setIfInBounds_toArray, List.set_cons_zero, List.set_cons_succ]
        refine wpAnyH_take (i := 2) (oi := ⟨some 49, _, _, _, _, _⟩) (v := ?vbb3) rfl (by kernel_rfl) (by kernel_rfl) (by kernel_rfl) (fun _ _ _ h => h) (Or.inl ⟨by rfl, ?hybb3⟩) (by assumption) ?restbb3
        case hybb3 => (intro w hSw; (try dsimp only at hSw); go_simp <;> with_reducible rfl)
        try simp only [Act.put, List.setIfInBounds_toArray, List.set_cons_zero, List.set_cons_succ]
        refine wpAnyH_take (i := 3) (oi := ⟨some 50, _, _, _, _, _⟩) (v := ?vbb4) rfl (by kernel_rfl) (by kernel_rfl) (by kernel_rfl) (fun _ _ _ h => h) (Or.inl ⟨by rfl, ?hybb4⟩) (by assumption) ?restbb4
        case hybb4 => (intro w hSw; (try dsimp only at hSw); go_simp <;> with_reducible rfl)
        try simp only [Act.put, List.setIfInBounds_toArray, List.set_cons_zero, List.set_cons_succ]
        refine wpAnyH_take (i := 4) (oi := ⟨some 51, _, _, _, _, _⟩) (v := ?vbb5) rfl (by kernel_rfl) (by kernel_rfl) (by kernel_rfl) (fun _ _ _ h => h) (Or.inl ⟨by rfl, ?hybb5⟩) (by assumption) ?restbb5
        case hybb5 => (intro w hSw; (try dsimp only at hSw); go_simp <;> with_reducible rfl)
        try simp only [Act.put, List.setIfInBounds_toArray, List.set_cons_zero, List.set_cons_succ]
        refine wpAnyH_take (i := 5) (oi := ⟨some 52, _, _, _, _, _⟩) (v := ?vbb6) rfl (by kernel_rfl) (by kernel_rfl) (by kernel_rfl) (fun _ _ _ h => h) (Or.inl ⟨by rfl, ?hybb6⟩) (by assumption) ?restbb6
        case hybb6 => (intro w hSw; (try dsimp only at hSw); go_simp <;> with_reducible rfl)
        try simp only [Act.put, List.setIfInBounds_toArray, List.set_cons_zero, List.set_cons_succ]
        refine wpAnyH_take (i := 6) (oi := ⟨some 53, _, _, _, _, _⟩) (v := ?vbb7) rfl (by kernel_rfl) (by kernel_rfl) (by kernel_rfl) (fun _ _ _ h => h) (Or.inl ⟨by rfl, ?hybb7⟩) (by assumption) ?restbb7
        case hybb7 => (intro w hSw; (try dsimp only at hSw); go_simp <;> with_reducible rfl)
        try simp only [Act.put, List.setIfInBounds_toArray, List.set_cons_zero, List.set_cons_succ]
        refine wpAnyH_take (i := 8) (oi := ⟨some 55, _, _, _, _, _⟩) (v := ?vbb8) rfl (by kernel_rfl) (by kernel_rfl) (by kernel_rfl) (fun _ _ _ h => h) (Or.inl ⟨by rfl, ?hybb8⟩) (by assumption) ?restbb8
        case hybb8 => (intro w hSw; (try dsimp only at hSw); go_simp <;> with_reducible rfl)
        try simp only [Act.put, List.setIfInBounds_toArray, List.set_cons_zero, List.set_cons_succ]
        refine wpAnyH_take (i := 9) (oi := ⟨some 56, _, _, _, _, _⟩) (v := ?vbb9) rfl (by kernel_rfl) (by kernel_rfl) (by kernel_rfl) (fun _ _ _ h => h) (Or.inl ⟨by rfl, ?hybb9⟩) (by assumption) ?restbb9
        case hybb9 => (intro w hSw; (try dsimp only at hSw); go_simp <;> with_reducible rfl)
        try simp only [Act.put, List.setIfInBounds_toArray, List.set_cons_zero, List.set_cons_succ]
        refine wpAnyH_take (i := 10) (oi := ⟨some 57, _, _, _, _, _⟩) (v := ?vbb10) rfl (by kernel_rfl) (by kernel_rfl) (by kernel_rfl) (fun _ _ _ h => h) (Or.inl ⟨by rfl, ?hybb10⟩) (by assumption) ?restbb10
        case hybb10 => (intro w hSw; (try dsimp only at hSw); go_simp <;> with_reducible rfl)
        try simp only [Act.put, List.setIfInBounds_toArray, List.set_cons_zero, List.set_cons_succ]
        refine wpAnyH_take (i := 11) (oi := ⟨some 58, _, _, _, _, _⟩) (v := ?vbb11) rfl (by kernel_rfl) (by kernel_rfl) (by kernel_rfl) (fun _ _ _ h => h) (Or.inl ⟨by rfl, ?hybb11⟩) (by assumption) ?restbb11
        case hybb11 => (intro w hSw; (try dsimp only at hSw); go_simp <;> with_reducible rfl)
        try simp only [Act.put, List.setIfInBounds_toArray, List.set_cons_zero, List.set_cons_succ]
        refine wpAnyH_take (i := 13) (oi := ⟨some 60, _, _, _, _, _⟩) (v := ?vbb12) rfl (by kernel_rfl) (by kernel_rfl) (by kernel_rfl) (fun _ _ _ h => h) (Or.inl ⟨by rfl, ?hybb12⟩) (by assumption) ?restbb12
        case hybb12 => (intro w hSw; (try dsimp only at hSw); go_simp <;> with_reducible rfl)
        try simp only [Act.put, List.setIfInBounds_toArray, List.set_cons_zero, List.set_cons_succ]
        refine wpAnyH_take (i := 15) (oi := ⟨some 62, _, _, _, _, _⟩) (v := ?vbb13) rfl (by kernel_rfl) (by kernel_rfl) (by kernel_rfl) (fun _ _ _ h => h) (Or.inl ⟨by rfl, ?hybb13⟩) (by assumption) ?restbb13
        case hybb13 => (intro w hSw; (try dsimp only at hSw); go_simp <;> with_reducible rfl)
        try simp only [Act.put, List.setIfInBounds_toArray, List.set_cons_zero, List.set_cons_succ]
        refine wpAnyH_take (i := 16) (oi := ⟨some 63, _, _, _, _, _⟩) (v := ?vbb14) rfl (by kernel_rfl) (by kernel_rfl) (by kernel_rfl) (fun _ _ _ h => h) (Or.inl ⟨by rfl, ?hybb14⟩) (by assumption) ?restbb14
        case hybb14 => (intro w hSw; (try dsimp only at hSw); go_simp <;> with_reducible rfl)
        try simp only [Act.put, List.setIfInBounds_toArray, List.set_cons_zero, List.set_cons_succ]
        refine wpAnyH_take (i := 17) (oi := ⟨some 64, _, _, _, _, _⟩) (v := ?vbb15) rfl (by kernel_rfl) (by kernel_rfl) (by kernel_rfl) (fun _ _ _ h => h) (Or.inl ⟨by rfl, ?hybb15⟩) (by assumption) ?restbb15
        case hybb15 => (intro w hSw; (try dsimp only at hSw); go_simp <;> with_reducible rfl)
        try simp only [Act.put, List.setIfInBounds_toArray, List.set_cons_zero, List.set_cons_succ]
        refine wpAnyH_ready (rs := [7]) (by kernel_rfl) (by simp) ?_
        refine AllReadyH.cons (o := ⟨some 54, _, _, _, _, _⟩) rfl (fun K hK => ?_) ?_
        · go_simp
          go_at_call 42
          refine (hFi.out _ (by repeat (first | assumption | exact Below.refl _ _ | (refine bStep ?_ (by assumption)) | (with_reducible refine bAlc ?_ _) | (with_reducible refine bDrw ?_)))).mono ?_
          rintro e w1 ⟨bf, ss, rfl, hSf, _, hfit, hsnd, hcls, hb1⟩
          try have hcf := cell_later hb1 hcf
          go_wp2_with fail
          refine hK.out _ _ ?_ (fun hHeld => ?_)
          · (exact hAll.out _ (by repeat (first | assumption | exact Below.refl _ _ | (refine bStep ?_ (by assumption)) | (with_reducible refine bAlc ?_ _) | (with_reducible refine bDrw ?_))))
          clear hK K
          try simp only [Act.put, List.setIfInBounds_toArray, List.set_cons_zero, List.set_cons_succ]
          refine wpAnyH_ready (rs := [12]) (by kernel_rfl) (by simp) ?_
          refine AllReadyH.cons (o := ⟨some 59, _, _, _, _, _⟩) rfl (fun K hK => ?_) ?_
          · go_simp
            go_at_call 41
            refine (hT.out bf ss _ _ _ _ (by first | rfl | omega) (by repeat (first | assumption | exact Below.refl _ _ | (refine bStep ?_ (by assumption)) | (with_reducible refine bAlc ?_ _) | (with_reducible refine bDrw ?_))) (hSf.step (by repeat (first | assumption | exact Below.refl _ _ | (refine bStep ?_ (by assumption)) | (with_reducible refine bAlc ?_ _) | (with_reducible refine bDrw ?_)))) hfit).mono ?_
            rintro e w3 ⟨A1, k1, rfl, hs1, hb3⟩
            try have hcf := cell_later hb3 hcf
            go_wp2_with fail
            refine hK.out _ _ ?_ (fun hHeld => ?_)
            · (exact hAll.out _ (by repeat (first | assumption | exact Below.refl _ _ | (refine bStep ?_ (by assumption)) | (with_reducible refine bAlc ?_ _) | (with_reducible refine bDrw ?_))))
            clear hK K
            try simp only [Act.put, List.setIfInBounds_toArray, List.set_cons_zero, List.set_cons_succ]
            refine wpAnyH_ready (rs := [14]) (by kernel_rfl) (by simp) ?_
            refine AllReadyH.cons (o := ⟨some 61, _, _, _, _, _⟩) rfl (fun K hK => ?_) ?_
            · go_simp
              go_at_call 43
              refine (hFo.out _ (by repeat (first | assumption | exact Below.refl _ _ | (refine bStep ?_ (by assumption)) | (with_reducible refine bAlc ?_ _) | (with_reducible refine bDrw ?_)))).mono ?_
              rintro e w2 ⟨bo, fs, ss2, rfl, hSo, f1, f2, f3, f4, f5, f6, hb2⟩
              obtain ⟨Xf, xcf, hcf, _, hXf⟩ := hSo.get jx hjxi
              go_wp2_with fail
              refine hK.out _ _ ?_ (fun hHeld => ?_)
              · (exact hAll.out _ (by repeat (first | assumption | exact Below.refl _ _ | (refine bStep ?_ (by assumption)) | (with_reducible refine bAlc ?_ _) | (with_reducible refine bDrw ?_))))
              clear hK K
              try simp only [Act.put, List.setIfInBounds_toArray, List.set_cons_zero, List.set_cons_succ]
              refine wpAnyH_take (i := 18) (oi := ⟨some 65, _, _, _, _, _⟩) (v := ?vbb16) rfl (by kernel_rfl) (by kernel_rfl) (by kernel_rfl) (fun _ _ _ h => h) (Or.inl ⟨by rfl, ?hybb16⟩) (by assumption) ?restbb16
              case hybb16 => (intro w hSw; (try dsimp only at hSw); go_simp <;> with_reducible rfl)
              try simp only [Act.put, List.setIfInBounds_toArray, List.set_cons_zero, List.set_cons_succ]
              refine wpAnyH_ready (rs := [19]) (by kernel_rfl) (by simp) ?_
              refine AllReadyH.cons (o := ⟨some 66, _, _, _, _, _⟩) rfl (fun K hK => ?_) ?_
              · go_simp
                refine hK.out _ _ ?_ (fun hHeld => ?_)
                · (exact hAll.out _ (by repeat (first | assumption | exact Below.refl _ _ | (refine bStep ?_ (by assumption)) | (with_reducible refine bAlc ?_ _) | (with_reducible refine bDrw ?_))))
                clear hK K
                try simp only [Act.put, List.setIfInBounds_toArray, List.set_cons_zero, List.set_cons_succ]
                refine wpAnyH_ready (rs := [20]) (by kernel_rfl) (by simp) ?_
                refine AllReadyH.cons (o := ⟨some 67, _, _, _, _, _⟩) rfl (fun K hK => ?_) ?_
                · go_simp
                  go_at_call 40
                  refine (hSm.out ss fs A1 k1 Xf xcf _ hfit f1 (hs1.step (by repeat (first | assumption | exact Below.refl _ _ | (refine bStep ?_ (by assumption)) | (with_reducible refine bAlc ?_ _) | (with_reducible refine bDrw ?_)))) (hXf.step (by repeat (first | assumption | exact Below.refl _ _ | (refine bStep ?_ (by assumption)) | (with_reducible refine bAlc ?_ _) | (with_reducible refine bDrw ?_))))).mono ?_
                  rintro e w4 ⟨v4, rfl, ho4, hb4⟩
                  obtain ⟨A4, k4, rfl, hs4⟩ := hOwn.out _ _ _ _ _ hfit hsnd f1 f2 ho4
                  go_wp2_with fail
                  refine hK.out _ _ ?_ (fun hHeld => ?_)
                  · (exact hAll.out _ (by repeat (first | assumption | exact Below.refl _ _ | (refine bStep ?_ (by assumption)) | (with_reducible refine bAlc ?_ _) | (with_reducible refine bDrw ?_))))
                  clear hK K
                  try simp only [Act.put, List.setIfInBounds_toArray, List.set_cons_zero, List.set_cons_succ]
                  refine wpAnyH_take (i := 21) (oi := ⟨some 46, _, _, _, _, _⟩) (v := ?vbb17) rfl (by kernel_rfl) (by kernel_rfl) (by kernel_rfl) (fun _ _ _ h => h) (Or.inl ⟨by rfl, ?hybb17⟩) (by assumption) ?restbb17
                  case hybb17 => (intro w hSw; (try dsimp only at hSw); go_simp <;> with_reducible rfl)
                  try simp only [Act.put, List.setIfInBounds_toArray, List.set_cons_zero, List.set_cons_succ]
                  refine wpAnyH_take (i := 22) (oi := ⟨some 68, _, _, _, _, _⟩) (v := ?vbb18) rfl (by kernel_rfl) (by kernel_rfl) (by kernel_rfl) (fun _ _ _ h => h) (Or.inl ⟨by rfl, ?hybb18⟩) (by assumption) ?restbb18
                  case hybb18 => (intro w hSw; (try dsimp only at hSw); go_simp <;> with_reducible rfl)
                  try simp only [Act.put, List.setIfInBounds_toArray, List.set_cons_zero, List.set_cons_succ]
                  refine wpAnyH_take (i := 23) (oi := ⟨some 69, _, _, _, _, _⟩) (v := ?vbb19) rfl (by kernel_rfl) (by kernel_rfl) (by kernel_rfl) (fun _ _ _ h => h) (Or.inl ⟨by rfl, ?hybb19⟩) (by assumption) ?restbb19
                  case hybb19 => (intro w hSw; (try dsimp only at hSw); go_simp <;> with_reducible rfl)
                  try simp only [Act.put, List.setIfInBounds_toArray, List.set_cons_zero, List.set_cons_succ]
                  refine wpAnyH_take (i := 24) (oi := ⟨some 10, _, _, _, _, _⟩) (v := ?vbb20) rfl (by kernel_rfl) (by kernel_rfl) (by kernel_rfl) (fun _ _ _ h => h) (Or.inl ⟨by rfl, ?hybb20⟩) (by assumption) ?restbb20
                  case hybb20 => (intro w hSw; (try dsimp only at hSw); go_simp <;> with_reducible rfl)
                  try simp only [Act.put, List.setIfInBounds_toArray, List.set_cons_zero, List.set_cons_succ]
                  refine wpAnyH_take (i := 25) (oi := ⟨some 11, _, _, _, _, _⟩) (v := ?vbb21) rfl (by kernel_rfl) (by kernel_rfl) (by kernel_rfl) (fun _ _ _ h => h) (Or.inl ⟨by rfl, ?hybb21⟩) (by assumption) ?restbb21
                  case hybb21 => (intro w hSw; (try dsimp only at hSw); go_simp <;> with_reducible rfl)
                  try simp only [Act.put, List.setIfInBounds_toArray, List.set_cons_zero, List.set_cons_succ]
                  refine wpAnyH_done (by kernel_rfl) ?_ _
                  go_wp2_with fail
                  go_meet
                  exact ⟨_, A4, k4, rfl, hBS.out _ _ _ hfit hsnd hcls f1 f2 f3 f4 f5 f6, hs4, (by repeat (first | assumption | exact Below.refl _ _ | (refine bStep ?_ (by assumption)) | (with_reducible refine bAlc ?_ _) | (with_reducible refine bDrw ?_)))⟩
                exact AllReadyH.nil
              exact AllReadyH.nil
            exact AllReadyH.nil
          exact AllReadyH.nil
        exact AllReadyH.nil
      · have hAll : Hid (∀ w', Below W.heap.size W w' → w'.cell? ⟨w.heap.size, 0, none⟩ = some (.int .i64 g.k) ∧ w'.cell? ⟨w.heap.size, 1, none⟩ = some (.slice ta g.toks.length tc) ∧ w'.cell? ⟨w.heap.size, 2, none⟩ = some (.string g.sep) ∧ w'.cell? ⟨w.heap.size, 3, none⟩ = some (.slice na g.names.length nc) ∧ w'.cell? ⟨w.heap.size, 4, none⟩ = some (.int .i64 g.start) ∧ w'.cell? ⟨w.heap.size, 5, none⟩ = some (.slice (some ⟨b, off, none⟩) g.prods.length pc) ∧ w'.cell? ⟨gp, 0, none⟩ = some (.int .i64 p.left) ∧ w'.cell? ⟨gp, 1, none⟩ = some (.slice RA p.right.length rc) ∧ Below W.heap.size W w') := Lib.hid fun w' h => ⟨cell_later h c0, cell_later h c1, cell_later h c2, cell_later h c3, cell_later h c4, cell_later h c5, cell_later h p0, cell_later h p1, h⟩
        clear q7 hG2 c0 c1 c2 c3 c4 c5 p0 p1
        refine wp_region_held_drew (S := (fun w' => w'.cell? ⟨w.heap.size, 0, none⟩ = some (.int .i64 g.k) ∧ w'.cell? ⟨w.heap.size, 1, none⟩ = some (.slice ta g.toks.length tc) ∧ w'.cell? ⟨w.heap.size, 2, none⟩ = some (.string g.sep) ∧ w'.cell? ⟨w.heap.size, 3, none⟩ = some (.slice na g.names.length nc) ∧ w'.cell? ⟨w.heap.size, 4, none⟩ = some (.int .i64 g.start) ∧ w'.cell? ⟨w.heap.size, 5, none⟩ = some (.slice (some ⟨b, off, none⟩) g.prods.length pc) ∧ w'.cell? ⟨gp, 0, none⟩ = some (.int .i64 p.left) ∧ w'.cell? ⟨gp, 1, none⟩ = some (.slice RA p.right.length rc) ∧ Below W.heap.size W w')) (by kernel_rfl) (hAll.out _ (bDrw (Below.refl _ _))) (fun hHeld => ?_)
        refine wpAnyH_take (i := 0) (oi := ⟨some 47, _, _, _, _, _⟩) (v := ?vbc1) rfl (by kernel_rfl) (by kernel_rfl) (by kernel_rfl) (fun _ _ _ h => h) (Or.inl ⟨by rfl, ?hybc1⟩) (by assumption) ?restbc1
        case hybc1 => (intro w hSw; (try dsimp only at hSw); go_simp <;> with_reducible rfl)
        try simp only [Act.put, List.setIfInBounds_toArray, List.set_cons_zero, List.set_cons_succ]
        refine wpAnyH_take (i := 1) (oi := ⟨some 48, _, _, _, _, _⟩) (v := ?vbc2) rfl (by kernel_rfl) (by kernel_rfl) (by kernel_rfl) (fun _ _ _ h => h) (Or.inl ⟨by rfl, ?hybc2⟩) (by assumption) ?restbc2
        case hybc2 => (intro w hSw; (try dsimp only at hSw); go_simp <;> with_reducible rfl)
        try simp only [Act.put, List.setIfInBounds_toArray, List.set_cons_zero, List.set_cons_succ]
        refine wpAnyH_take (i := 2) (oi := ⟨some 49, _, _, _, _, _⟩) (v := ?vbc3) rfl (by kernel_rfl) (by kernel_rfl) (by kernel_rfl) (fun _ _ _ h => h) (Or.inl ⟨by rfl, ?hybc3⟩) (by assumption) ?restbc3
        case hybc3 => (intro w hSw; (try dsimp only at hSw); go_simp <;> with_reducible rfl)
        try simp only [Act.put, List.setIfInBounds_toArray, List.set_cons_zero, List.set_cons_succ]
        refine wpAnyH_take (i := 3) (oi := ⟨some 50, _, _, _, _, _⟩) (v := ?vbc4) rfl (by kernel_rfl) (by kernel_rfl) (by kernel_rfl) (fun _ _ _ h => h) (Or.inl ⟨by rfl, ?hybc4⟩) (by assumption) ?restbc4
        case hybc4 => (intro w hSw; (try dsimp only at hSw); go_simp <;> with_reducible rfl)
        try simp only [Act.put, List.setIfInBounds_toArray, List.set_cons_zero, List.set_cons_succ]
        refine wpAnyH_take (i := 4) (oi := ⟨some 51, _, _, _, _, _⟩) (v := ?vbc5) rfl (by kernel_rfl) (by kernel_rfl) (by kernel_rfl) (fun _ _ _ h => h) (Or.inl ⟨by rfl, ?hybc5⟩) (by assumption) ?restbc5
        case hybc5 => (intro w hSw; (try dsimp only at hSw); go_simp <;> with_reducible rfl)
        try simp only [Act.put, List.setIfInBounds_toArray, List.set_cons_zero, List.set_cons_succ]
        refine wpAnyH_take (i := 5) (oi := ⟨some 52, _, _, _, _, _⟩) (v := ?vbc6) rfl (by kernel_rfl) (by kernel_rfl) (by kernel_rfl) (fun _ _ _ h => h) (Or.inl ⟨by rfl, ?hybc6⟩) (by assumption) ?restbc6
        case hybc6 => (intro w hSw; (try dsimp only at hSw); go_simp <;> with_reducible rfl)
        try simp only [Act.put, List.setIfInBounds_toArray, List.set_cons_zero, List.set_cons_succ]
        refine wpAnyH_take (i := 6) (oi := ⟨some 53, _, _, _, _, _⟩) (v := ?vbc7) rfl (by kernel_rfl) (by kernel_rfl) (by kernel_rfl) (fun _ _ _ h => h) (Or.inl ⟨by rfl, ?hybc7⟩) (by assumption) ?restbc7
        case hybc7 => (intro w hSw; (try dsimp only at hSw); go_simp <;> with_reducible rfl)
        try simp only [Act.put, List.setIfInBounds_toArray, List.set_cons_zero, List.set_cons_succ]
        refine wpAnyH_take (i := 8) (oi := ⟨some 55, _, _, _, _, _⟩) (v := ?vbc8) rfl (by kernel_rfl) (by kernel_rfl) (by kernel_rfl) (fun _ _ _ h => h) (Or.inl ⟨by rfl, ?hybc8⟩) (by assumption) ?restbc8
        case hybc8 => (intro w hSw; (try dsimp only at hSw); go_simp <;> with_reducible rfl)
        try simp only [Act.put, List.setIfInBounds_toArray, List.set_cons_zero, List.set_cons_succ]
        refine wpAnyH_take (i := 9) (oi := ⟨some 56, _, _, _, _, _⟩) (v := ?vbc9) rfl (by kernel_rfl) (by kernel_rfl) (by kernel_rfl) (fun _ _ _ h => h) (Or.inl ⟨by rfl, ?hybc9⟩) (by assumption) ?restbc9
        case hybc9 => (intro w hSw; (try dsimp only at hSw); go_simp <;> with_reducible rfl)
        try simp only [Act.put, List.setIfInBounds_toArray, List.set_cons_zero, List.set_cons_succ]
        refine wpAnyH_take (i := 10) (oi := ⟨some 57, _, _, _, _, _⟩) (v := ?vbc10) rfl (by kernel_rfl) (by kernel_rfl) (by kernel_rfl) (fun _ _ _ h => h) (Or.inl ⟨by rfl, ?hybc10⟩) (by assumption) ?restbc10
        case hybc10 => (intro w hSw; (try dsimp only at hSw); go_simp <;> with_reducible rfl)
        try simp only [Act.put, List.setIfInBounds_toArray, List.set_cons_zero, List.set_cons_succ]
        refine wpAnyH_take (i := 11) (oi := ⟨some 58, _, _, _, _, _⟩) (v := ?vbc11) rfl (by kernel_rfl) (by kernel_rfl) (by kernel_rfl) (fun _ _ _ h => h) (Or.inl ⟨by rfl, ?hybc11⟩) (by assumption) ?restbc11
        case hybc11 => (intro w hSw; (try dsimp only at hSw); go_simp <;> with_reducible rfl)
        try simp only [Act.put, List.setIfInBounds_toArray, List.set_cons_zero, List.set_cons_succ]
        refine wpAnyH_take (i := 13) (oi := ⟨some 60, _, _, _, _, _⟩) (v := ?vbc12) rfl (by kernel_rfl) (by kernel_rfl) (by kernel_rfl) (fun _ _ _ h => h) (Or.inl ⟨by rfl, ?hybc12⟩) (by assumption) ?restbc12
        case hybc12 => (intro w hSw; (try dsimp only at hSw); go_simp <;> with_reducible rfl)
        try simp only [Act.put, List.setIfInBounds_toArray, List.set_cons_zero, List.set_cons_succ]
        refine wpAnyH_take (i := 15) (oi := ⟨some 62, _, _, _, _, _⟩) (v := ?vbc13) rfl (by kernel_rfl) (by kernel_rfl) (by kernel_rfl) (fun _ _ _ h => h) (Or.inl ⟨by rfl, ?hybc13⟩) (by assumption) ?restbc13
        case hybc13 => (intro w hSw; (try dsimp only at hSw); go_simp <;> with_reducible rfl)
        try simp only [Act.put, List.setIfInBounds_toArray, List.set_cons_zero, List.set_cons_succ]
        refine wpAnyH_take (i := 16) (oi := ⟨some 63, _, _, _, _, _⟩) (v := ?vbc14) rfl (by kernel_rfl) (by kernel_rfl) (by kernel_rfl) (fun _ _ _ h => h) (Or.inl ⟨by rfl, ?hybc14⟩) (by assumption) ?restbc14
        case hybc14 => (intro w hSw; (try dsimp only at hSw); go_simp <;> with_reducible rfl)
        try simp only [Act.put, List.setIfInBounds_toArray, List.set_cons_zero, List.set_cons_succ]
        refine wpAnyH_take (i := 17) (oi := ⟨some 64, _, _, _, _, _⟩) (v := ?vbc15) rfl (by kernel_rfl) (by kernel_rfl) (by kernel_rfl) (fun _ _ _ h => h) (Or.inl ⟨by rfl, ?hybc15⟩) (by assumption) ?restbc15
        case hybc15 => (intro w hSw; (try dsimp only at hSw); go_simp <;> with_reducible rfl)
        try simp only [Act.put, List.setIfInBounds_toArray, List.set_cons_zero, List.set_cons_succ]
        refine wpAnyH_ready (rs := [7]) (by kernel_rfl) (by simp) ?_
        refine AllReadyH.cons (o := ⟨some 54, _, _, _, _, _⟩) rfl (fun K hK => ?_) ?_
        · go_simp
          go_at_call 42
          refine (hFi.out _ (by repeat (first | assumption | exact Below.refl _ _ | (refine bStep ?_ (by assumption)) | (with_reducible refine bAlc ?_ _) | (with_reducible refine bDrw ?_)))).mono ?_
          rintro e w1 ⟨bf, ss, rfl, hSf, _, hfit, hsnd, hcls, hb1⟩
          try have hcf := cell_later hb1 hcf
          go_wp2_with fail
          refine hK.out _ _ ?_ (fun hHeld => ?_)
          · (exact hAll.out _ (by repeat (first | assumption | exact Below.refl _ _ | (refine bStep ?_ (by assumption)) | (with_reducible refine bAlc ?_ _) | (with_reducible refine bDrw ?_))))
          clear hK K
          try simp only [Act.put, List.setIfInBounds_toArray, List.set_cons_zero, List.set_cons_succ]
          refine wpAnyH_ready (rs := [12]) (by kernel_rfl) (by simp) ?_
          refine AllReadyH.cons (o := ⟨some 59, _, _, _, _, _⟩) rfl (fun K hK => ?_) ?_
          · go_simp
            go_at_call 41
            refine (hT.out bf ss _ _ _ _ (by first | rfl | omega) (by repeat (first | assumption | exact Below.refl _ _ | (refine bStep ?_ (by assumption)) | (with_reducible refine bAlc ?_ _) | (with_reducible refine bDrw ?_))) (hSf.step (by repeat (first | assumption | exact Below.refl _ _ | (refine bStep ?_ (by assumption)) | (with_reducible refine bAlc ?_ _) | (with_reducible refine bDrw ?_)))) hfit).mono ?_
            rintro e w3 ⟨A1, k1, rfl, hs1, hb3⟩
            try have hcf := cell_later hb3 hcf
            go_wp2_with fail
            refine hK.out _ _ ?_ (fun hHeld => ?_)
            · (exact hAll.out _ (by repeat (first | assumption | exact Below.refl _ _ | (refine bStep ?_ (by assumption)) | (with_reducible refine bAlc ?_ _) | (with_reducible refine bDrw ?_))))
            clear hK K
            try simp only [Act.put, List.setIfInBounds_toArray, List.set_cons_zero, List.set_cons_succ]
            refine wpAnyH_ready (rs := [14]) (by kernel_rfl) (by simp) ?_
            refine AllReadyH.cons (o := ⟨some 61, _, _, _, _, _⟩) rfl (fun K hK => ?_) ?_
            · go_simp
              go_at_call 43
              refine (hFo.out _ (by repeat (first | assumption | exact Below.refl _ _ | (refine bStep ?_ (by assumption)) | (with_reducible refine bAlc ?_ _) | (with_reducible refine bDrw ?_)))).mono ?_
              rintro e w2 ⟨bo, fs, ss2, rfl, hSo, f1, f2, f3, f4, f5, f6, hb2⟩
              obtain ⟨Xf, xcf, hcf, _, hXf⟩ := hSo.get jx hjxi
              go_wp2_with fail
              refine hK.out _ _ ?_ (fun hHeld => ?_)
              · (exact hAll.out _ (by repeat (first | assumption | exact Below.refl _ _ | (refine bStep ?_ (by assumption)) | (with_reducible refine bAlc ?_ _) | (with_reducible refine bDrw ?_))))
              clear hK K
              try simp only [Act.put, List.setIfInBounds_toArray, List.set_cons_zero, List.set_cons_succ]
              refine wpAnyH_take (i := 18) (oi := ⟨some 65, _, _, _, _, _⟩) (v := ?vbc16) rfl (by kernel_rfl) (by kernel_rfl) (by kernel_rfl) (fun _ _ _ h => h) (Or.inl ⟨by rfl, ?hybc16⟩) (by assumption) ?restbc16
              case hybc16 => (intro w hSw; (try dsimp only at hSw); go_simp <;> with_reducible rfl)
              try simp only [Act.put, List.setIfInBounds_toArray, List.set_cons_zero, List.set_cons_succ]
              refine wpAnyH_ready (rs := [19]) (by kernel_rfl) (by simp) ?_
              refine AllReadyH.cons (o := ⟨some 66, _, _, _, _, _⟩) rfl (fun K hK => ?_) ?_
              · go_simp
                refine hK.out _ _ ?_ (fun hHeld => ?_)
                · (exact hAll.out _ (by repeat (first | assumption | exact Below.refl _ _ | (refine bStep ?_ (by assumption)) | (with_reducible refine bAlc ?_ _) | (with_reducible refine bDrw ?_))))
                clear hK K
                try simp only [Act.put, List.setIfInBounds_toArray, List.set_cons_zero, List.set_cons_succ]
                refine wpAnyH_ready (rs := [20]) (by kernel_rfl) (by simp) ?_
                refine AllReadyH.cons (o := ⟨some 67, _, _, _, _, _⟩) rfl (fun K hK => ?_) ?_
                · go_simp
                  go_at_call 40
                  refine (hSm.out ss fs A1 k1 Xf xcf _ hfit f1 (hs1.step (by repeat (first | assumption | exact Below.refl _ _ | (refine bStep ?_ (by assumption)) | (with_reducible refine bAlc ?_ _) | (with_reducible refine bDrw ?_)))) (hXf.step (by repeat (first | assumption | exact Below.refl _ _ | (refine bStep ?_ (by assumption)) | (with_reducible refine bAlc ?_ _) | (with_reducible refine bDrw ?_))))).mono ?_
                  rintro e w4 ⟨v4, rfl, ho4, hb4⟩
                  obtain ⟨A4, k4, rfl, hs4⟩ := hOwn.out _ _ _ _ _ hfit hsnd f1 f2 ho4
                  go_wp2_with fail
                  refine hK.out _ _ ?_ (fun hHeld => ?_)
                  · (exact hAll.out _ (by repeat (first | assumption | exact Below.refl _ _ | (refine bStep ?_ (by assumption)) | (with_reducible refine bAlc ?_ _) | (with_reducible refine bDrw ?_))))
                  clear hK K
                  try simp only [Act.put, List.setIfInBounds_toArray, List.set_cons_zero, List.set_cons_succ]
                  refine wpAnyH_take (i := 21) (oi := ⟨some 46, _, _, _, _, _⟩) (v := ?vbc17) rfl (by kernel_rfl) (by kernel_rfl) (by kernel_rfl) (fun _ _ _ h => h) (Or.inl ⟨by rfl, ?hybc17⟩) (by assumption) ?restbc17
                  case hybc17 => (intro w hSw; (try dsimp only at hSw); go_simp <;> with_reducible rfl)
                  try simp only [Act.put, List.setIfInBounds_toArray, List.set_cons_zero, List.set_cons_succ]
                  refine wpAnyH_take (i := 22) (oi := ⟨some 68, _, _, _, _, _⟩) (v := ?vbc18) rfl (by kernel_rfl) (by kernel_rfl) (by kernel_rfl) (fun _ _ _ h => h) (Or.inl ⟨by rfl, ?hybc18⟩) (by assumption) ?restbc18
                  case hybc18 => (intro w hSw; (try dsimp only at hSw); go_simp <;> with_reducible rfl)
                  try simp only [Act.put, List.setIfInBounds_toArray, List.set_cons_zero, List.set_cons_succ]
                  refine wpAnyH_take (i := 23) (oi := ⟨some 69, _, _, _, _, _⟩) (v := ?vbc19) rfl (by kernel_rfl) (by kernel_rfl) (by kernel_rfl) (fun _ _ _ h => h) (Or.inl ⟨by rfl, ?hybc19⟩) (by assumption) ?restbc19
                  case hybc19 => (intro w hSw; (try dsimp only at hSw); go_simp <;> with_reducible rfl)
                  try simp only [Act.put, List.setIfInBounds_toArray, List.set_cons_zero, List.set_cons_succ]
                  refine wpAnyH_take (i := 24) (oi := ⟨some 10, _, _, _, _, _⟩) (v := ?vbc20) rfl (by kernel_rfl) (by kernel_rfl) (by kernel_rfl) (fun _ _ _ h => h) (Or.inl ⟨by rfl, ?hybc20⟩) (by assumption) ?restbc20
                  case hybc20 => (intro w hSw; (try dsimp only at hSw); go_simp <;> with_reducible rfl)
                  try simp only [Act.put, List.setIfInBounds_toArray, List.set_cons_zero, List.set_cons_succ]
                  refine wpAnyH_take (i := 25) (oi := ⟨some 11, _, _, _, _, _⟩) (v := ?vbc21) rfl (by kernel_rfl) (by kernel_rfl) (by kernel_rfl) (fun _ _ _ h => h) (Or.inl ⟨by rfl, ?hybc21⟩) (by assumption) ?restbc21
                  case hybc21 => (intro w hSw; (try dsimp only at hSw); go_simp <;> with_reducible rfl)
                  try simp only [Act.put, List.setIfInBounds_toArray, List.set_cons_zero, List.set_cons_succ]
                  refine wpAnyH_done (by kernel_rfl) ?_ _
                  go_wp2_with fail
                  go_meet
                  exact ⟨_, A4, k4, rfl, hBS.out _ _ _ hfit hsnd hcls f1 f2 f3 f4 f5 f6, hs4, (by repeat (first | assumption | exact Below.refl _ _ | (refine bStep ?_ (by assumption)) | (with_reducible refine bAlc ?_ _) | (with_reducible refine bDrw ?_)))⟩
                exact AllReadyH.nil
              exact AllReadyH.nil
            exact AllReadyH.nil
          exact AllReadyH.nil
        exact AllReadyH.nil
  case rest =>
    obtain ⟨L, A2, c2, rfl, hL, hs, hbx⟩ := hcut
    have hz6 := hfewR.out L hL
    replace hL := Lib.hid hL
    have hb9 := Lib.hid (bStep hbW.out hbx)
    clear hG2 q7 c0 c1 c3 c4 c5 p0 p1 hx2d hx2 hOf hFi hFo hSm hOwn hBS hbx
    go_wp2_with fail
    go_ret2
    exact hP.out _ _ _ _ hL.out hs hb9.out
end Go.Proofs.YtnnkfgekiaaehaaGreat

/- look.Check. -/
namespace Go.Proofs.YtnnkfgekiaaehaaGreat
open Go.ChangeShapes Go.WideShapes Go.ChangeAt Go.RowKit
set_option linter.unusedVariables false

theorem splice_of (l : List Int) (h : l.length ≤ 4) : (splice [Value.int .i64 0, .int .i64 0, .int .i64 0, .int .i64 0, .int .i64 0] 1 (ints l)).toArray = #[.int .i64 0, .int .i64 (Lk.of l).a, .int .i64 (Lk.of l).b, .int .i64 (Lk.of l).c, .int .i64 (Lk.of l).d] := by
  match l, h with
  | [], _ => rfl
  | [a], _ => rfl
  | [a, b], _ => rfl
  | [a, b, c], _ => rfl
  | [a, b, c, d], _ => rfl
  | a :: b :: c :: d :: e :: l, h => exfalso; simp at h
theorem size3 : (Tryz.prog.info? 3).map (·.size) = some 1 := by kernel_rfl
theorem copy_look {W1 : World} {g B : Nat} (q : Blk W1 g 41 #[.int .i64 0, .int .i64 0, .int .i64 0, .int .i64 0, .int .i64 0]) {A : Option Addr} {n : Nat} (c : Nat) {l : List Int} (h : Rd1 W1 B A n (ints l)) (hn : n ≤ 4) :
    ∃ W2, (Builtin.copy_ #[34, 34] 3 #[.slice (some ⟨g, 1, none⟩) 4 4, .slice A n c]).run Tryz.prog W1 = .ok (.int .i64 n) W2 ∧
      Blk W2 g 41 #[.int .i64 0, .int .i64 (Lk.of l).a, .int .i64 (Lk.of l).b, .int .i64 (Lk.of l).c, .int .i64 (Lk.of l).d] ∧ ∀ W0, Below W0.heap.size W0 W1 → W0.heap.size ≤ g → Below W0.heap.size W0 W2 := by
  have hl : l.length = n := by have := h.1; simpa [ints] using this
  have hsp := splice_of l (by omega)
  by_cases h0 : n = 0
  · subst h0
    have hln : l = [] := List.eq_nil_of_length_eq_zero hl
    subst hln
    exact ⟨W1, run_copy_none (P := Tryz.prog) W1 34 34 3 3 (some ⟨g, 1, none⟩) A 4 4 0 c under22 size3 (by simp), q, fun W0 hb _ => hb⟩
  · rcases h.2 with h2 | ⟨b, off, rfl, hbt, hc⟩
    · exact absurd h2 h0
    · have hmin : (ints l).length = Nat.min n 4 := by simp only [ints, List.length_map]; rw [hl]; exact (Nat.min_eq_left hn).symm
      have hr := run_copy_row (P := Tryz.prog) W1 34 34 3 3 g 1 4 4 ⟨b, off, none⟩ n c #[.int .i64 0, .int .i64 0, .int .i64 0, .int .i64 0, .int .i64 0] 41 (ints l) under22 size3 q hmin
        (fun j v hv => by
          have hadd : (⟨b, off, none⟩ : Addr).add j = ⟨b, off + j, none⟩ := by unfold Addr.add; split <;> simp_all
          rw [hadd]; exact hc j v hv) (by simp [ints]; omega) (fun v hv => by obtain ⟨z, _, rfl⟩ := List.mem_map.1 hv; rfl)
      have hil : (ints l).length = n := by simp [ints, hl]
      rw [show goInt (ints l).length = Value.int .i64 n by rw [hil]; rfl] at hr
      have e : ((#[Value.int .i64 0, .int .i64 0, .int .i64 0, .int .i64 0, .int .i64 0] : Array Value).toList.take 1 ++ ints l ++ (#[Value.int .i64 0, .int .i64 0, .int .i64 0, .int .i64 0, .int .i64 0] : Array Value).toList.drop (1 + (ints l).length)).toArray = #[.int .i64 0, .int .i64 (Lk.of l).a, .int .i64 (Lk.of l).b, .int .i64 (Lk.of l).c, .int .i64 (Lk.of l).d] := by
        rw [List.append_assoc]; exact hsp
      rw [e] at hr
      exact ⟨_, hr, setRow_heap W1 g _ _ 41 _ q, fun W0 hb hg => below_setRow hb hg _⟩
set_option maxRecDepth 100000 in
theorem lookof_any (A : Option Addr) (n c : Nat) (l : List Int) (w : World) (h : Rd1 w w.heap.size A n (ints l)) (hn : n ≤ 4) : Calls Tryz.prog 97 #[.slice A n c] w fun e w' => e = .returned (Lk.of l).v ∧ Below w.heap.size w w' := by
  have hl : l.length = n := by have := h.1; simpa [ints] using this
  have hyn : (Lk.of l).n = n := by rw [of_n, hl]
  have hb1 : Below w.heap.size w (w.alloc (.cells #[.int .i64 0, .int .i64 0, .int .i64 0, .int .i64 0, .int .i64 0] 41)) := bAlc (Below.refl _ _) _
  obtain ⟨W2, hrun, q3, hb2⟩ := copy_look (Blk.new w 41 #[.int .i64 0, .int .i64 0, .int .i64 0, .int .i64 0, .int .i64 0]) c (h.below hb1) hn
  have hB2 := hb2 w hb1 (Nat.le_refl _)
  replace hl := Lib.hid hl
  clear h hb2
  generalize Lk.of l = y at *
  obtain ⟨yn, ya, yb, yc, yd⟩ := y
  dsimp only at hyn q3
  subst hyn
  unfold Lk.v
  go_enter Tryz.func97, Tryz.ntmps97
  have z0 := q3.cell 0
  have z1 := q3.frozen 0
  simp only [List.getElem?_toArray, List.getElem?_cons_zero] at z0
  go_upto_region 1 with (fail)
  generalize w.alloc (.cells #[.int .i64 0, .int .i64 0, .int .i64 0, .int .i64 0, .int .i64 0] 41) = W1 at *
  go_upto_region 2 with (fail)
  have q4 := q3.put 0 (.int .i64 n)
  have hb4 := bSet hB2 ⟨w.heap.size, 0, none⟩ (.int .i64 n) (Nat.le_refl _)
  clear z0 z1 q3 hB2 hb1 hrun
  generalize W2.setCell ⟨w.heap.size, 0, none⟩ (.int .i64 n) = W4 at *
  have q5 : Blk W4 w.heap.size 41 (Lk.cells ⟨n, ya, yb, yc, yd⟩) := q4
  have a0 := q5.cell 0
  have a1 := q5.cell 1
  have a2 := q5.cell 2
  have a3 := q5.cell 3
  have a4 := q5.cell 4
  have f0 := q5.frozen 0
  have f1 := q5.frozen 1
  have f2 := q5.frozen 2
  have f3 := q5.frozen 3
  have f4 := q5.frozen 4
  simp only [Lk.cells, List.getElem?_toArray, List.getElem?_cons_zero, List.getElem?_cons_succ] at a0 a1 a2 a3 a4
  go_wp2_with fail
  exact bodyPost_ret (results_look rfl _ _ _ ⟨n, ya, yb, yc, yd⟩ rfl (put5 q5 ⟨n, ya, yb, yc, yd⟩)) rfl ⟨rfl, bSet5 hb4 (Nat.le_refl _) _ _ _ _ _⟩

theorem pad_of {x : Lk} (h0 : 0 ≤ x.n) (h4 : x.n ≤ 4) : Lk.of x.l = x ↔ padB x = true := by
  obtain ⟨n, a, b, c, d⟩ := x
  simp only at h0 h4
  obtain ⟨k, rfl⟩ := Int.eq_ofNat_of_zero_le h0
  have : k = 0 ∨ k = 1 ∨ k = 2 ∨ k = 3 ∨ k = 4 := by omega
  rcases this with rfl | rfl | rfl | rfl | rfl <;> simp [Lk.of, Lk.l, padB, List.range_succ, Lk.s] <;> constructor <;> intro h <;> omega
theorem lk_rd {W : World} {g : Nat} {x : Lk} (h : Blk W g 41 x.cells) (k : Nat) (hk : x.n = k) (h4 : k ≤ 4) : Rd1 W W.heap.size (some ⟨g, 1, none⟩) k (ints x.l) := by
  have hl : x.l.length = k := by unfold Lk.l; rw [hk, List.length_take]; simp; omega
  refine ⟨by simp [ints, hl], .inr ⟨g, 1, rfl, h.lt, fun i v hv => ?_⟩⟩
  have hi : i < x.l.length := by have := (List.getElem?_eq_some_iff.1 hv).1; simpa [ints] using this
  rw [h.cell]
  have e : (ints x.l)[i]? = some (.int .i64 (x.s i)) := by
    have h1 : x.l[i]? = some (x.s i) := by
      unfold Lk.l
      rw [hk, List.getElem?_take, if_pos (by simp; omega)]
      rcases i with _ | _ | _ | _ | i <;> first | rfl | omega
    simp [ints, h1]
  rw [e] at hv
  cases hv
  exact Lk.cellAt x i (by omega)
theorem of_wf {x : Lk} (hx : x.wf) (h0 : 0 ≤ x.n) (h4 : x.n ≤ 4) : (Lk.of x.l).wf := by
  obtain ⟨n, a, b, c, d⟩ := x
  obtain ⟨h1, h2, h3, h5, h6⟩ := hx
  simp only at h0 h4 h1 h2 h3 h5 h6
  obtain ⟨k, rfl⟩ := Int.eq_ofNat_of_zero_le h0
  have z : (Lit.int .i64 0).wf = true := by decide
  have : k = 0 ∨ k = 1 ∨ k = 2 ∨ k = 3 ∨ k = 4 := by omega
  rcases this with rfl | rfl | rfl | rfl | rfl <;> exact ⟨h1, by first | exact h2 | exact z, by first | exact h3 | exact z, by first | exact h5 | exact z, by first | exact h6 | exact z⟩

set_option maxRecDepth 100000 in
set_option maxHeartbeats 4000000 in
theorem lcheck60_any (x : Lk) (m : Int) (w : World) (hx : x.wf) : Calls Tryz.prog 49 #[x.v, .int .i64 m] w fun e w' => e = .returned (.int .i64 (lchk x m)) ∧ Below w.heap.size w w' := by
  have q0 := Blk.new w 41 x.cells
  have hb0 : Below w.heap.size w (w.alloc (.cells x.cells 41)) := bAlc (Below.refl _ _) _
  have hOf0 := Lib.hid (fun (W : World) (k : Nat) (hk : x.n = k) (h4 : k ≤ 4) (h : Blk W w.heap.size 41 x.cells) => lookof_any (some ⟨w.heap.size, 1, none⟩) k 4 x.l W (lk_rd h k hk h4) h4)
  have hC := Lib.hid (Lk.cellAt x)
  have hpo := Lib.hid (pad_of (x := x))
  have hne := Lib.hid (fun (h0 : 0 ≤ x.n) (h4 : x.n ≤ 4) (W : World) => look_neq (Lk.of x.l) x (of_wf hx h0 h4) hx W)
  unfold Lk.v
  unfold Lk.cells at q0 hb0 hOf0
  by_cases h1 : m < 1
  · have hE : lchk x m = 2 := by unfold lchk; rw [if_pos (by omega)]
    rw [hE]; clear hE
    go_enter Tryz.func49, Tryz.ntmps49
    go_wp2_with fail
    go_ret
    exact ⟨rfl, hb0⟩
  by_cases h2 : 8 < m
  · have hE : lchk x m = 2 := by unfold lchk; rw [if_pos (by omega)]
    rw [hE]; clear hE
    go_enter Tryz.func49, Tryz.ntmps49
    go_wp2_with fail
    go_ret
    exact ⟨rfl, hb0⟩
  by_cases h3 : x.n < 0
  · have hE : lchk x m = 3 := by unfold lchk; rw [if_neg (by omega), if_pos (by omega)]
    rw [hE]; clear hE hOf0 hne hpo
    go_enter Tryz.func49, Tryz.ntmps49
    go_upto_region 3 with (fail)
    generalize w.alloc (.cells #[.int .i64 x.n, .int .i64 x.a, .int .i64 x.b, .int .i64 x.c, .int .i64 x.d] 41) = W1 at *
    have c0 := q0.cell 0
    simp only [List.getElem?_toArray, List.getElem?_cons_zero] at c0
    have hAll : Hid (∀ w', Below W1.heap.size W1 w' → w'.cell? ⟨w.heap.size, 0, none⟩ = some (.int .i64 x.n) ∧ Below W1.heap.size W1 w') := Lib.hid fun w' h => ⟨cell_later h c0, h⟩
    have hFin : Hid (∀ w', Below W1.heap.size W1 w' → Below w.heap.size w w') := Lib.hid fun w' h => bStep hb0 h
    clear c0 q0 hb0
    refine wp_region_held_drew (S := (fun w' => w'.cell? ⟨w.heap.size, 0, none⟩ = some (.int .i64 x.n) ∧ Below W1.heap.size W1 w')) (by kernel_rfl) (hAll.out _ (bDrw (Below.refl _ _))) (fun hHeld => ?_)
    refine wpAnyH_take (i := 0) (oi := ⟨some 15, _, _, _, _, _⟩) (v := ?va1) rfl (by kernel_rfl) (by kernel_rfl) (by kernel_rfl) (fun _ _ _ h => h) (Or.inl ⟨by rfl, ?hya1⟩) (by assumption) ?resta1
    case hya1 => (intro w hSw; (try dsimp only at hSw); go_simp <;> with_reducible rfl)
    try simp only [Act.put, List.setIfInBounds_toArray, List.set_cons_zero, List.set_cons_succ]
    refine wpAnyH_take (i := 1) (oi := ⟨some 16, _, _, _, _, _⟩) (v := ?va2) rfl (by kernel_rfl) (by kernel_rfl) (by kernel_rfl) (fun _ _ _ h => h) (Or.inl ⟨by rfl, ?hya2⟩) (by assumption) ?resta2
    case hya2 => (intro w hSw; (try dsimp only at hSw); go_simp <;> with_reducible rfl)
    try simp only [Act.put, List.setIfInBounds_toArray, List.set_cons_zero, List.set_cons_succ]
    refine wpAnyH_take (i := 2) (oi := ⟨some 17, _, _, _, _, _⟩) (v := ?va3) rfl (by kernel_rfl) (by kernel_rfl) (by kernel_rfl) (fun _ _ _ h => h) (Or.inl ⟨by rfl, ?hya3⟩) (by assumption) ?resta3
    case hya3 => (intro w hSw; (try dsimp only at hSw); go_simp <;> with_reducible rfl)
    try simp only [Act.put, List.setIfInBounds_toArray, List.set_cons_zero, List.set_cons_succ]
    refine wpAnyH_take (i := 3) (oi := ⟨some 18, _, _, _, _, _⟩) (v := ?va4) rfl (by kernel_rfl) (by kernel_rfl) (by kernel_rfl) (fun _ _ _ h => h) (Or.inl ⟨by rfl, ?hya4⟩) (by assumption) ?resta4
    case hya4 => (intro w hSw; (try dsimp only at hSw); go_simp <;> with_reducible rfl)
    try simp only [Act.put, List.setIfInBounds_toArray, List.set_cons_zero, List.set_cons_succ]
    refine wpAnyH_take (i := 4) (oi := ⟨some 19, _, _, _, _, _⟩) (v := undef) rfl (by kernel_rfl) (by kernel_rfl) (by kernel_rfl) (fun _ _ _ h => h) (Or.inr ⟨by rfl, rfl⟩) (by assumption) ?_
    try simp only [Act.put, List.setIfInBounds_toArray, List.set_cons_zero, List.set_cons_succ]
    refine wpAnyH_take (i := 5) (oi := ⟨some 20, _, _, _, _, _⟩) (v := undef) rfl (by kernel_rfl) (by kernel_rfl) (by kernel_rfl) (fun _ _ _ h => h) (Or.inr ⟨by rfl, rfl⟩) (by assumption) ?_
    try simp only [Act.put, List.setIfInBounds_toArray, List.set_cons_zero, List.set_cons_succ]
    refine wpAnyH_take (i := 6) (oi := ⟨some 21, _, _, _, _, _⟩) (v := undef) rfl (by kernel_rfl) (by kernel_rfl) (by kernel_rfl) (fun _ _ _ h => h) (Or.inr ⟨by rfl, rfl⟩) (by assumption) ?_
    try simp only [Act.put, List.setIfInBounds_toArray, List.set_cons_zero, List.set_cons_succ]
    refine wpAnyH_take (i := 7) (oi := ⟨some 22, _, _, _, _, _⟩) (v := ?va8) rfl (by kernel_rfl) (by kernel_rfl) (by kernel_rfl) (fun _ _ _ h => h) (Or.inl ⟨by rfl, ?hya8⟩) (by assumption) ?resta8
    case hya8 => (intro w hSw; (try dsimp only at hSw); go_simp <;> with_reducible rfl)
    try simp only [Act.put, List.setIfInBounds_toArray, List.set_cons_zero, List.set_cons_succ]
    refine wpAnyH_take (i := 8) (oi := ⟨some 23, _, _, _, _, _⟩) (v := ?va9) rfl (by kernel_rfl) (by kernel_rfl) (by kernel_rfl) (fun _ _ _ h => h) (Or.inl ⟨by rfl, ?hya9⟩) (by assumption) ?resta9
    case hya9 => (intro w hSw; (try dsimp only at hSw); go_simp <;> with_reducible rfl)
    try simp only [Act.put, List.setIfInBounds_toArray, List.set_cons_zero, List.set_cons_succ]
    refine wpAnyH_take (i := 9) (oi := ⟨some 24, _, _, _, _, _⟩) (v := undef) rfl (by kernel_rfl) (by kernel_rfl) (by kernel_rfl) (fun _ _ _ h => h) (Or.inr ⟨by rfl, rfl⟩) (by assumption) ?_
    try simp only [Act.put, List.setIfInBounds_toArray, List.set_cons_zero, List.set_cons_succ]
    refine wpAnyH_take (i := 10) (oi := ⟨some 25, _, _, _, _, _⟩) (v := undef) rfl (by kernel_rfl) (by kernel_rfl) (by kernel_rfl) (fun _ _ _ h => h) (Or.inr ⟨by rfl, rfl⟩) (by assumption) ?_
    try simp only [Act.put, List.setIfInBounds_toArray, List.set_cons_zero, List.set_cons_succ]
    refine wpAnyH_take (i := 11) (oi := ⟨some 26, _, _, _, _, _⟩) (v := undef) rfl (by kernel_rfl) (by kernel_rfl) (by kernel_rfl) (fun _ _ _ h => h) (Or.inr ⟨by rfl, rfl⟩) (by assumption) ?_
    try simp only [Act.put, List.setIfInBounds_toArray, List.set_cons_zero, List.set_cons_succ]
    refine wpAnyH_take (i := 12) (oi := ⟨some 27, _, _, _, _, _⟩) (v := undef) rfl (by kernel_rfl) (by kernel_rfl) (by kernel_rfl) (fun _ _ _ h => h) (Or.inr ⟨by rfl, rfl⟩) (by assumption) ?_
    try simp only [Act.put, List.setIfInBounds_toArray, List.set_cons_zero, List.set_cons_succ]
    refine wpAnyH_take (i := 13) (oi := ⟨some 28, _, _, _, _, _⟩) (v := undef) rfl (by kernel_rfl) (by kernel_rfl) (by kernel_rfl) (fun _ _ _ h => h) (Or.inr ⟨by rfl, rfl⟩) (by assumption) ?_
    try simp only [Act.put, List.setIfInBounds_toArray, List.set_cons_zero, List.set_cons_succ]
    refine wpAnyH_take (i := 14) (oi := ⟨some 29, _, _, _, _, _⟩) (v := undef) rfl (by kernel_rfl) (by kernel_rfl) (by kernel_rfl) (fun _ _ _ h => h) (Or.inr ⟨by rfl, rfl⟩) (by assumption) ?_
    try simp only [Act.put, List.setIfInBounds_toArray, List.set_cons_zero, List.set_cons_succ]
    refine wpAnyH_take (i := 15) (oi := ⟨some 30, _, _, _, _, _⟩) (v := undef) rfl (by kernel_rfl) (by kernel_rfl) (by kernel_rfl) (fun _ _ _ h => h) (Or.inr ⟨by rfl, rfl⟩) (by assumption) ?_
    try simp only [Act.put, List.setIfInBounds_toArray, List.set_cons_zero, List.set_cons_succ]
    refine wpAnyH_take (i := 16) (oi := ⟨some 31, _, _, _, _, _⟩) (v := ?va17) rfl (by kernel_rfl) (by kernel_rfl) (by kernel_rfl) (fun _ _ _ h => h) (Or.inl ⟨by rfl, ?hya17⟩) (by assumption) ?resta17
    case hya17 => (intro w hSw; (try dsimp only at hSw); go_simp <;> with_reducible rfl)
    try simp only [Act.put, List.setIfInBounds_toArray, List.set_cons_zero, List.set_cons_succ]
    refine wpAnyH_take (i := 17) (oi := ⟨some 14, _, _, _, _, _⟩) (v := ?va18) rfl (by kernel_rfl) (by kernel_rfl) (by kernel_rfl) (fun _ _ _ h => h) (Or.inl ⟨by rfl, ?hya18⟩) (by assumption) ?resta18
    case hya18 => (intro w hSw; (try dsimp only at hSw); go_simp <;> with_reducible rfl)
    try simp only [Act.put, List.setIfInBounds_toArray, List.set_cons_zero, List.set_cons_succ]
    refine wpAnyH_done (by kernel_rfl) ?_ _
    go_wp2_with fail
    go_ret
    exact ⟨rfl, hFin.out _ (by repeat (first | assumption | exact Below.refl _ _ | (refine bStep ?_ (by assumption)) | (with_reducible refine bAlc ?_ _) | (with_reducible refine bDrw ?_)))⟩
  by_cases h4 : 4 < x.n
  · have hE : lchk x m = 3 := by unfold lchk; rw [if_neg (by omega), if_pos (by omega)]
    rw [hE]; clear hE hOf0 hne hpo
    go_enter Tryz.func49, Tryz.ntmps49
    go_upto_region 3 with (fail)
    generalize w.alloc (.cells #[.int .i64 x.n, .int .i64 x.a, .int .i64 x.b, .int .i64 x.c, .int .i64 x.d] 41) = W1 at *
    have c0 := q0.cell 0
    simp only [List.getElem?_toArray, List.getElem?_cons_zero] at c0
    have hAll : Hid (∀ w', Below W1.heap.size W1 w' → w'.cell? ⟨w.heap.size, 0, none⟩ = some (.int .i64 x.n) ∧ Below W1.heap.size W1 w') := Lib.hid fun w' h => ⟨cell_later h c0, h⟩
    have hFin : Hid (∀ w', Below W1.heap.size W1 w' → Below w.heap.size w w') := Lib.hid fun w' h => bStep hb0 h
    clear c0 q0 hb0
    refine wp_region_held_drew (S := (fun w' => w'.cell? ⟨w.heap.size, 0, none⟩ = some (.int .i64 x.n) ∧ Below W1.heap.size W1 w')) (by kernel_rfl) (hAll.out _ (bDrw (Below.refl _ _))) (fun hHeld => ?_)
    refine wpAnyH_take (i := 0) (oi := ⟨some 15, _, _, _, _, _⟩) (v := ?vb1) rfl (by kernel_rfl) (by kernel_rfl) (by kernel_rfl) (fun _ _ _ h => h) (Or.inl ⟨by rfl, ?hyb1⟩) (by assumption) ?restb1
    case hyb1 => (intro w hSw; (try dsimp only at hSw); go_simp <;> with_reducible rfl)
    try simp only [Act.put, List.setIfInBounds_toArray, List.set_cons_zero, List.set_cons_succ]
    refine wpAnyH_take (i := 1) (oi := ⟨some 16, _, _, _, _, _⟩) (v := ?vb2) rfl (by kernel_rfl) (by kernel_rfl) (by kernel_rfl) (fun _ _ _ h => h) (Or.inl ⟨by rfl, ?hyb2⟩) (by assumption) ?restb2
    case hyb2 => (intro w hSw; (try dsimp only at hSw); go_simp <;> with_reducible rfl)
    try simp only [Act.put, List.setIfInBounds_toArray, List.set_cons_zero, List.set_cons_succ]
    refine wpAnyH_take (i := 2) (oi := ⟨some 17, _, _, _, _, _⟩) (v := ?vb3) rfl (by kernel_rfl) (by kernel_rfl) (by kernel_rfl) (fun _ _ _ h => h) (Or.inl ⟨by rfl, ?hyb3⟩) (by assumption) ?restb3
    case hyb3 => (intro w hSw; (try dsimp only at hSw); go_simp <;> with_reducible rfl)
    try simp only [Act.put, List.setIfInBounds_toArray, List.set_cons_zero, List.set_cons_succ]
    refine wpAnyH_take (i := 3) (oi := ⟨some 18, _, _, _, _, _⟩) (v := ?vb4) rfl (by kernel_rfl) (by kernel_rfl) (by kernel_rfl) (fun _ _ _ h => h) (Or.inl ⟨by rfl, ?hyb4⟩) (by assumption) ?restb4
    case hyb4 => (intro w hSw; (try dsimp only at hSw); go_simp <;> with_reducible rfl)
    try simp only [Act.put, List.setIfInBounds_toArray, List.set_cons_zero, List.set_cons_succ]
    refine wpAnyH_take (i := 4) (oi := ⟨some 19, _, _, _, _, _⟩) (v := ?vb5) rfl (by kernel_rfl) (by kernel_rfl) (by kernel_rfl) (fun _ _ _ h => h) (Or.inl ⟨by rfl, ?hyb5⟩) (by assumption) ?restb5
    case hyb5 => (intro w hSw; (try dsimp only at hSw); go_simp <;> with_reducible rfl)
    try simp only [Act.put, List.setIfInBounds_toArray, List.set_cons_zero, List.set_cons_succ]
    refine wpAnyH_take (i := 5) (oi := ⟨some 20, _, _, _, _, _⟩) (v := ?vb6) rfl (by kernel_rfl) (by kernel_rfl) (by kernel_rfl) (fun _ _ _ h => h) (Or.inl ⟨by rfl, ?hyb6⟩) (by assumption) ?restb6
    case hyb6 => (intro w hSw; (try dsimp only at hSw); go_simp <;> with_reducible rfl)
    try simp only [Act.put, List.setIfInBounds_toArray, List.set_cons_zero, List.set_cons_succ]
    refine wpAnyH_take (i := 6) (oi := ⟨some 21, _, _, _, _, _⟩) (v := ?vb7) rfl (by kernel_rfl) (by kernel_rfl) (by kernel_rfl) (fun _ _ _ h => h) (Or.inl ⟨by rfl, ?hyb7⟩) (by assumption) ?restb7
    case hyb7 => (intro w hSw; (try dsimp only at hSw); go_simp <;> with_reducible rfl)
    try simp only [Act.put, List.setIfInBounds_toArray, List.set_cons_zero, List.set_cons_succ]
    refine wpAnyH_take (i := 7) (oi := ⟨some 22, _, _, _, _, _⟩) (v := ?vb8) rfl (by kernel_rfl) (by kernel_rfl) (by kernel_rfl) (fun _ _ _ h => h) (Or.inl ⟨by rfl, ?hyb8⟩) (by assumption) ?restb8
    case hyb8 => (intro w hSw; (try dsimp only at hSw); go_simp <;> with_reducible rfl)
    try simp only [Act.put, List.setIfInBounds_toArray, List.set_cons_zero, List.set_cons_succ]
    refine wpAnyH_take (i := 8) (oi := ⟨some 23, _, _, _, _, _⟩) (v := ?vb9) rfl (by kernel_rfl) (by kernel_rfl) (by kernel_rfl) (fun _ _ _ h => h) (Or.inl ⟨by rfl, ?hyb9⟩) (by assumption) ?restb9
    case hyb9 => (intro w hSw; (try dsimp only at hSw); go_simp <;> with_reducible rfl)
    try simp only [Act.put, List.setIfInBounds_toArray, List.set_cons_zero, List.set_cons_succ]
    refine wpAnyH_take (i := 9) (oi := ⟨some 24, _, _, _, _, _⟩) (v := undef) rfl (by kernel_rfl) (by kernel_rfl) (by kernel_rfl) (fun _ _ _ h => h) (Or.inr ⟨by rfl, rfl⟩) (by assumption) ?_
    try simp only [Act.put, List.setIfInBounds_toArray, List.set_cons_zero, List.set_cons_succ]
    refine wpAnyH_take (i := 10) (oi := ⟨some 25, _, _, _, _, _⟩) (v := undef) rfl (by kernel_rfl) (by kernel_rfl) (by kernel_rfl) (fun _ _ _ h => h) (Or.inr ⟨by rfl, rfl⟩) (by assumption) ?_
    try simp only [Act.put, List.setIfInBounds_toArray, List.set_cons_zero, List.set_cons_succ]
    refine wpAnyH_take (i := 11) (oi := ⟨some 26, _, _, _, _, _⟩) (v := undef) rfl (by kernel_rfl) (by kernel_rfl) (by kernel_rfl) (fun _ _ _ h => h) (Or.inr ⟨by rfl, rfl⟩) (by assumption) ?_
    try simp only [Act.put, List.setIfInBounds_toArray, List.set_cons_zero, List.set_cons_succ]
    refine wpAnyH_take (i := 12) (oi := ⟨some 27, _, _, _, _, _⟩) (v := undef) rfl (by kernel_rfl) (by kernel_rfl) (by kernel_rfl) (fun _ _ _ h => h) (Or.inr ⟨by rfl, rfl⟩) (by assumption) ?_
    try simp only [Act.put, List.setIfInBounds_toArray, List.set_cons_zero, List.set_cons_succ]
    refine wpAnyH_take (i := 13) (oi := ⟨some 28, _, _, _, _, _⟩) (v := undef) rfl (by kernel_rfl) (by kernel_rfl) (by kernel_rfl) (fun _ _ _ h => h) (Or.inr ⟨by rfl, rfl⟩) (by assumption) ?_
    try simp only [Act.put, List.setIfInBounds_toArray, List.set_cons_zero, List.set_cons_succ]
    refine wpAnyH_take (i := 14) (oi := ⟨some 29, _, _, _, _, _⟩) (v := undef) rfl (by kernel_rfl) (by kernel_rfl) (by kernel_rfl) (fun _ _ _ h => h) (Or.inr ⟨by rfl, rfl⟩) (by assumption) ?_
    try simp only [Act.put, List.setIfInBounds_toArray, List.set_cons_zero, List.set_cons_succ]
    refine wpAnyH_take (i := 15) (oi := ⟨some 30, _, _, _, _, _⟩) (v := undef) rfl (by kernel_rfl) (by kernel_rfl) (by kernel_rfl) (fun _ _ _ h => h) (Or.inr ⟨by rfl, rfl⟩) (by assumption) ?_
    try simp only [Act.put, List.setIfInBounds_toArray, List.set_cons_zero, List.set_cons_succ]
    refine wpAnyH_take (i := 16) (oi := ⟨some 31, _, _, _, _, _⟩) (v := ?vb17) rfl (by kernel_rfl) (by kernel_rfl) (by kernel_rfl) (fun _ _ _ h => h) (Or.inl ⟨by rfl, ?hyb17⟩) (by assumption) ?restb17
    case hyb17 => (intro w hSw; (try dsimp only at hSw); go_simp <;> with_reducible rfl)
    try simp only [Act.put, List.setIfInBounds_toArray, List.set_cons_zero, List.set_cons_succ]
    refine wpAnyH_take (i := 17) (oi := ⟨some 14, _, _, _, _, _⟩) (v := ?vb18) rfl (by kernel_rfl) (by kernel_rfl) (by kernel_rfl) (fun _ _ _ h => h) (Or.inl ⟨by rfl, ?hyb18⟩) (by assumption) ?restb18
    case hyb18 => (intro w hSw; (try dsimp only at hSw); go_simp <;> with_reducible rfl)
    try simp only [Act.put, List.setIfInBounds_toArray, List.set_cons_zero, List.set_cons_succ]
    refine wpAnyH_done (by kernel_rfl) ?_ _
    go_wp2_with fail
    go_ret
    exact ⟨rfl, hFin.out _ (by repeat (first | assumption | exact Below.refl _ _ | (refine bStep ?_ (by assumption)) | (with_reducible refine bAlc ?_ _) | (with_reducible refine bDrw ?_)))⟩
  have hE : lchk x m = if padB x = false then 3 else if inB x m = false then 14 else 0 := by unfold lchk; rw [if_neg (by omega), if_neg (by omega)]
  rw [hE]; clear hE
  obtain ⟨n, hn⟩ := Int.eq_ofNat_of_zero_le (show 0 ≤ x.n by omega)
  have hI := Lib.hid (inB_iff x m)
  have hpo' := Lib.hid (hpo.out (by omega) (by omega))
  have hne' := hne.out (by omega) (by omega)
  have hOf1 := Lib.hid (fun (W : World) h => hOf0.out W n hn (by omega) h)
  clear hpo hne hOf0
  have hN := Lib.hid hn
  have hpd : decide (Lk.of x.l = x) = padB x := by
    cases h : padB x
    · exact decide_eq_false fun e => by have := hpo'.out.1 e; rw [h] at this; cases this
    · exact decide_eq_true (hpo'.out.2 h)
  rw [hpd] at hne'
  clear hpo'
  replace hpd := Lib.hid hpd
  generalize padB x = pb at *
  generalize inB x m = q at hI ⊢
  generalize hs : x.s = s at *
  clear hs
  generalize Lk.of x.l = y at *
  unfold Lk.v at hOf1 hne'
  generalize hxn : x.n = xn at *
  clear hxn
  subst hn
  go_enter Tryz.func49, Tryz.ntmps49
  go_upto_region 3 with (fail)
  generalize w.alloc (.cells #[.int .i64 n, .int .i64 x.a, .int .i64 x.b, .int .i64 x.c, .int .i64 x.d] 41) = W1 at *
  have c0 := q0.cell 0
  have c1 := q0.cell 1
  have c2 := q0.cell 2
  have c3 := q0.cell 3
  have c4 := q0.cell 4
  simp only [List.getElem?_toArray, List.getElem?_cons_zero, List.getElem?_cons_succ] at c0 c1 c2 c3 c4
  have hn0 : (0 : Int) ≤ n := by omega
  have hn4 : (n : Int) ≤ 4 := by omega
  have hAll : Hid (∀ w', Below W1.heap.size W1 w' → w'.cell? ⟨w.heap.size, 0, none⟩ = some (.int .i64 n) ∧ w'.cell? ⟨w.heap.size, 1, none⟩ = some (.int .i64 x.a) ∧ w'.cell? ⟨w.heap.size, 2, none⟩ = some (.int .i64 x.b) ∧ w'.cell? ⟨w.heap.size, 3, none⟩ = some (.int .i64 x.c) ∧ w'.cell? ⟨w.heap.size, 4, none⟩ = some (.int .i64 x.d) ∧ Below W1.heap.size W1 w') :=
    Lib.hid fun w' h => ⟨cell_later h c0, cell_later h c1, cell_later h c2, cell_later h c3, cell_later h c4, h⟩
  have hOf := Lib.hid (fun (W : World) (h : Below W1.heap.size W1 W) => hOf1.out W (q0.step h))
  clear hOf1 c0 c1 c2 c3 c4
  go_cut [14] (fun s14 wx => s14 = .bool (!pb) ∧ Below W1.heap.size W1 wx)
  case first =>
    refine wp_region_held_drew (S := (fun w' => w'.cell? ⟨w.heap.size, 0, none⟩ = some (.int .i64 n) ∧ w'.cell? ⟨w.heap.size, 1, none⟩ = some (.int .i64 x.a) ∧ w'.cell? ⟨w.heap.size, 2, none⟩ = some (.int .i64 x.b) ∧ w'.cell? ⟨w.heap.size, 3, none⟩ = some (.int .i64 x.c) ∧ w'.cell? ⟨w.heap.size, 4, none⟩ = some (.int .i64 x.d) ∧ Below W1.heap.size W1 w')) (by kernel_rfl) (hAll.out _ (bDrw (Below.refl _ _))) (fun hHeld => ?_)
    refine wpAnyH_take (i := 0) (oi := ⟨some 15, _, _, _, _, _⟩) (v := ?vc1) rfl (by kernel_rfl) (by kernel_rfl) (by kernel_rfl) (fun _ _ _ h => h) (Or.inl ⟨by rfl, ?hyc1⟩) (by assumption) ?restc1
    case hyc1 => (intro w hSw; (try dsimp only at hSw); go_simp <;> with_reducible rfl)
    try simp only [Act.put, List.setIfInBounds_toArray, List.set_cons_zero, List.set_cons_succ]
    refine wpAnyH_take (i := 1) (oi := ⟨some 16, _, _, _, _, _⟩) (v := ?vc2) rfl (by kernel_rfl) (by kernel_rfl) (by kernel_rfl) (fun _ _ _ h => h) (Or.inl ⟨by rfl, ?hyc2⟩) (by assumption) ?restc2
    case hyc2 => (intro w hSw; (try dsimp only at hSw); go_simp <;> with_reducible rfl)
    try simp only [Act.put, List.setIfInBounds_toArray, List.set_cons_zero, List.set_cons_succ]
    refine wpAnyH_take (i := 2) (oi := ⟨some 17, _, _, _, _, _⟩) (v := ?vc3) rfl (by kernel_rfl) (by kernel_rfl) (by kernel_rfl) (fun _ _ _ h => h) (Or.inl ⟨by rfl, ?hyc3⟩) (by assumption) ?restc3
    case hyc3 => (intro w hSw; (try dsimp only at hSw); go_simp <;> with_reducible rfl)
    try simp only [Act.put, List.setIfInBounds_toArray, List.set_cons_zero, List.set_cons_succ]
    refine wpAnyH_take (i := 3) (oi := ⟨some 18, _, _, _, _, _⟩) (v := ?vc4) rfl (by kernel_rfl) (by kernel_rfl) (by kernel_rfl) (fun _ _ _ h => h) (Or.inl ⟨by rfl, ?hyc4⟩) (by assumption) ?restc4
    case hyc4 => (intro w hSw; (try dsimp only at hSw); go_simp <;> with_reducible rfl)
    try simp only [Act.put, List.setIfInBounds_toArray, List.set_cons_zero, List.set_cons_succ]
    refine wpAnyH_take (i := 4) (oi := ⟨some 19, _, _, _, _, _⟩) (v := ?vc5) rfl (by kernel_rfl) (by kernel_rfl) (by kernel_rfl) (fun _ _ _ h => h) (Or.inl ⟨by rfl, ?hyc5⟩) (by assumption) ?restc5
    case hyc5 => (intro w hSw; (try dsimp only at hSw); go_simp <;> with_reducible rfl)
    try simp only [Act.put, List.setIfInBounds_toArray, List.set_cons_zero, List.set_cons_succ]
    refine wpAnyH_take (i := 5) (oi := ⟨some 20, _, _, _, _, _⟩) (v := ?vc6) rfl (by kernel_rfl) (by kernel_rfl) (by kernel_rfl) (fun _ _ _ h => h) (Or.inl ⟨by rfl, ?hyc6⟩) (by assumption) ?restc6
    case hyc6 => (intro w hSw; (try dsimp only at hSw); go_simp <;> with_reducible rfl)
    try simp only [Act.put, List.setIfInBounds_toArray, List.set_cons_zero, List.set_cons_succ]
    refine wpAnyH_take (i := 6) (oi := ⟨some 21, _, _, _, _, _⟩) (v := ?vc7) rfl (by kernel_rfl) (by kernel_rfl) (by kernel_rfl) (fun _ _ _ h => h) (Or.inl ⟨by rfl, ?hyc7⟩) (by assumption) ?restc7
    case hyc7 => (intro w hSw; (try dsimp only at hSw); go_simp <;> with_reducible rfl)
    try simp only [Act.put, List.setIfInBounds_toArray, List.set_cons_zero, List.set_cons_succ]
    refine wpAnyH_take (i := 7) (oi := ⟨some 22, _, _, _, _, _⟩) (v := ?vc8) rfl (by kernel_rfl) (by kernel_rfl) (by kernel_rfl) (fun _ _ _ h => h) (Or.inl ⟨by rfl, ?hyc8⟩) (by assumption) ?restc8
    case hyc8 => (intro w hSw; (try dsimp only at hSw); go_simp <;> with_reducible rfl)
    try simp only [Act.put, List.setIfInBounds_toArray, List.set_cons_zero, List.set_cons_succ]
    refine wpAnyH_take (i := 8) (oi := ⟨some 23, _, _, _, _, _⟩) (v := ?vc9) rfl (by kernel_rfl) (by kernel_rfl) (by kernel_rfl) (fun _ _ _ h => h) (Or.inl ⟨by rfl, ?hyc9⟩) (by assumption) ?restc9
    case hyc9 => (intro w hSw; (try dsimp only at hSw); go_simp <;> with_reducible rfl)
    try simp only [Act.put, List.setIfInBounds_toArray, List.set_cons_zero, List.set_cons_succ]
    refine wpAnyH_take (i := 9) (oi := ⟨some 24, _, _, _, _, _⟩) (v := ?vc10) rfl (by kernel_rfl) (by kernel_rfl) (by kernel_rfl) (fun _ _ _ h => h) (Or.inl ⟨by rfl, ?hyc10⟩) (by assumption) ?restc10
    case hyc10 => (intro w hSw; (try dsimp only at hSw); go_simp <;> with_reducible rfl)
    try simp only [Act.put, List.setIfInBounds_toArray, List.set_cons_zero, List.set_cons_succ]
    refine wpAnyH_take (i := 10) (oi := ⟨some 25, _, _, _, _, _⟩) (v := ?vc11) rfl (by kernel_rfl) (by kernel_rfl) (by kernel_rfl) (fun _ _ _ h => h) (Or.inl ⟨by rfl, ?hyc11⟩) (by assumption) ?restc11
    case hyc11 => (intro w hSw; (try dsimp only at hSw); go_simp <;> with_reducible rfl)
    try simp only [Act.put, List.setIfInBounds_toArray, List.set_cons_zero, List.set_cons_succ]
    refine wpAnyH_take (i := 11) (oi := ⟨some 26, _, _, _, _, _⟩) (v := ?vc12) rfl (by kernel_rfl) (by kernel_rfl) (by kernel_rfl) (fun _ _ _ h => h) (Or.inl ⟨by rfl, ?hyc12⟩) (by assumption) ?restc12
    case hyc12 => (intro w hSw; (try dsimp only at hSw); go_simp <;> with_reducible rfl)
    try simp only [Act.put, List.setIfInBounds_toArray, List.set_cons_zero, List.set_cons_succ]
    refine wpAnyH_take (i := 12) (oi := ⟨some 27, _, _, _, _, _⟩) (v := ?vc13) rfl (by kernel_rfl) (by kernel_rfl) (by kernel_rfl) (fun _ _ _ h => h) (Or.inl ⟨by rfl, ?hyc13⟩) (by assumption) ?restc13
    case hyc13 => (intro w hSw; (try dsimp only at hSw); go_simp <;> with_reducible rfl)
    try simp only [Act.put, List.setIfInBounds_toArray, List.set_cons_zero, List.set_cons_succ]
    refine wpAnyH_take (i := 14) (oi := ⟨some 29, _, _, _, _, _⟩) (v := ?vc14) rfl (by kernel_rfl) (by kernel_rfl) (by kernel_rfl) (fun _ _ _ h => h) (Or.inl ⟨by rfl, ?hyc14⟩) (by assumption) ?restc14
    case hyc14 => (intro w hSw; (try dsimp only at hSw); go_simp <;> with_reducible rfl)
    try simp only [Act.put, List.setIfInBounds_toArray, List.set_cons_zero, List.set_cons_succ]
    refine wpAnyH_ready (rs := [13]) (by kernel_rfl) (by simp) ?_
    refine AllReadyH.cons (o := ⟨some 28, _, _, _, _, _⟩) rfl (fun K hK => ?_) ?_
    · go_simp
      go_at_call 97
      refine (hOf.out _ (by repeat (first | assumption | exact Below.refl _ _ | (refine bStep ?_ (by assumption)) | (with_reducible refine bAlc ?_ _) | (with_reducible refine bDrw ?_)))).mono ?_
      rintro e w1 ⟨rfl, hb1⟩
      go_wp2_with fail
      refine hK.out _ _ ?_ (fun hHeld => ?_)
      · (refine hAll.out _ ?_; repeat (first | assumption | exact Below.refl _ _ | (refine bStep ?_ (by assumption)) | (with_reducible refine bAlc ?_ _) | (with_reducible refine bDrw ?_)))
      clear hK K
      try simp only [Act.put, List.setIfInBounds_toArray, List.set_cons_zero, List.set_cons_succ]
      refine wpAnyH_take (i := 15) (oi := ⟨some 30, _, _, _, _, _⟩) (v := ?vc15) rfl (by kernel_rfl) (by kernel_rfl) (by kernel_rfl) (fun _ _ _ h => h) (Or.inl ⟨by rfl, ?hyc15⟩) (by assumption) ?restc15
      case hyc15 => (intro w hSw; (try dsimp only at hSw); go_simp <;> with_reducible rfl)
      try simp only [Act.put, List.setIfInBounds_toArray, List.set_cons_zero, List.set_cons_succ]
      refine wpAnyH_take (i := 16) (oi := ⟨some 31, _, _, _, _, _⟩) (v := ?vc16) rfl (by kernel_rfl) (by kernel_rfl) (by kernel_rfl) (fun _ _ _ h => h) (Or.inl ⟨by rfl, ?hyc16⟩) (by assumption) ?restc16
      case hyc16 => (intro w hSw; (try dsimp only at hSw); go_simp <;> with_reducible rfl)
      try simp only [Act.put, List.setIfInBounds_toArray, List.set_cons_zero, List.set_cons_succ]
      refine wpAnyH_take (i := 17) (oi := ⟨some 14, _, _, _, _, _⟩) (v := ?vc17) rfl (by kernel_rfl) (by kernel_rfl) (by kernel_rfl) (fun _ _ _ h => h) (Or.inl ⟨by rfl, ?hyc17⟩) (by assumption) ?restc17
      case hyc17 => (intro w hSw; (try dsimp only at hSw); go_simp <;> with_reducible rfl)
      try simp only [Act.put, List.setIfInBounds_toArray, List.set_cons_zero, List.set_cons_succ]
      refine wpAnyH_done (by kernel_rfl) ?_ _
      go_wp2_with fail
      go_meet
      exact ⟨rfl, (by repeat (first | assumption | exact Below.refl _ _ | (refine bStep ?_ (by assumption)) | (with_reducible refine bAlc ?_ _) | (with_reducible refine bDrw ?_)))⟩
    exact AllReadyH.nil
  case rest =>
    obtain ⟨rfl, hbc⟩ := hcut
    have qc := q0.step hbc
    have hb := bStep hb0 hbc
    clear q0 hb0 hAll hOf hne' hbc
    cases pb
    · go_wp2_with fail
      go_ret
      exact ⟨rfl, hb⟩
    · have z0 := qc.cell 0
      simp only [List.getElem?_toArray, List.getElem?_cons_zero] at z0
      go_wp2_with fail
      go_loopg [37] n (fun k i wr => ∃ j : Nat, wr = wc ∧ i = .int .i64 j ∧ j + k = n ∧ ∀ i : Nat, i < j → 0 ≤ s i ∧ s i < m)
      case atStart => exact ⟨0, rfl, rfl, by omega, by intros; omega⟩
      case round =>
        obtain ⟨j, rfl, rfl, hj3, hg⟩ := hrel
        replace hg := Lib.hid hg
        replace hj3 := Lib.hid hj3
        by_cases hj : j < n
        · have hj4 : j < 4 := by omega
          have hc : wr.cell? ⟨w.heap.size, 1 + j, none⟩ = some (.int .i64 (s j)) := by rw [qc.cell]; exact hC.out j hj4
          by_cases hz : s j < 0
          · have hqF : q = false := by
              cases q
              · rfl
              · exact absurd (hI.out.1 rfl j hj4 (by omega)).1 (by omega)
            subst hqF
            go_wp2_with fail
            go_ret
            exact ⟨rfl, hb⟩
          · by_cases hz2 : s j < m
            · have hG := Lib.hid (show ∀ i : Nat, i < j + 1 → 0 ≤ s i ∧ s i < m by
                intro i h1
                by_cases e : i = j
                · rw [e]; exact ⟨by omega, hz2⟩
                · exact hg.out i (by omega))
              go_wp2_with fail
              go_roundg (n - (j + 1))
              case measure => have := hj3.out; omega
              case rel => exact ⟨j + 1, rfl, by go_num, by have := hj3.out; omega, hG.out⟩
            · have hqF : q = false := by
                cases q
                · rfl
                · exact absurd (hI.out.1 rfl j hj4 (by omega)).2 hz2
              subst hqF
              go_wp2_with fail
              go_ret
              exact ⟨rfl, hb⟩
        · have hqT : q = true := hI.out.2 fun i h4 hn => hg.out i (by omega)
          subst hqT
          go_wp2_with fail
          go_ret
          exact ⟨rfl, hb⟩
end Go.Proofs.YtnnkfgekiaaehaaGreat

/- follow.Has and follow.Ends. -/
namespace Go.Proofs.YtnnkfgekiaaehaaGreat
open Go.ChangeShapes Go.WideShapes Go.ChangeAt Go.RowKit
set_option linter.unusedVariables false

/-- what Has hands back: whether the look is in FOLLOW -/
def RetH (g : Gr) (s : Int) (x : Lk) (w : World) (e : Ending) (w' : World) : Prop := ∃ b : Bool, e = .returned (.tuple #[.bool b, .int .i64 0]) ∧ (b = true ↔ FO g.prods g.k.toNat g.start s x) ∧ Below w.heap.size w w'

set_option maxRecDepth 100000 in
set_option maxHeartbeats 4000000 in
theorem has35_any (g : Gr) (a : GA) (s : Int) (x : Lk) (w : World) (hg : GrAt w w.heap.size g a) (hok : gchk g = 0) (hs : ntB g s = true) (hx : x.wf) (hr : lchk x g.toks.length = 0) : Calls Tryz.prog 13 #[gval g a, .int .i64 s, x.v] w (RetH g s x w) := by
  obtain ⟨ta, tc, na, nc, pa, pc⟩ := a
  have hb := nt_bd hs
  have hk := gok_of hok
  have hn8 := hk.nm
  have hG0 := (GB.start hg).alloc (.cells x.cells 41)
  have q5 : Blk ((w.alloc (.cells (gcells g ⟨ta, tc, na, nc, pa, pc⟩) 25)).alloc (.cells x.cells 41)) (w.heap.size + 1) 41 x.cells := Blk.newAt _ _ _ _ (by simp)
  have hN := Lib.hid (fun (W : World) (h : GrAt W W.heap.size g ⟨ta, tc, na, nc, pa, pc⟩) => nonterm24_any g ⟨ta, tc, na, nc, pa, pc⟩ s W h (small_of hok) (by omega) (by omega))
  rw [(nonE_ok hok hs).1, (nonE_ok hok hs).2] at hN
  have hA := Lib.hid (fun (W : World) (h : GrAt W W.heap.size g ⟨ta, tc, na, nc, pa, pc⟩) => all_any g ⟨ta, tc, na, nc, pa, pc⟩ g.k.toNat hk W h)
  have hCh := Lib.hid (fun (W : World) => lcheck60_any x g.toks.length W hx)
  rw [hr] at hCh
  have hSet := Lib.hid (fun (ss fs : List (List Lk)) h1 h2 h3 h4 h5 h6 y => retA_set hok hs (ss := ss) (fs := fs) h1 h2 h3 h4 h5 h6 y)
  have hP := Lib.hid (fun (b : Bool) (w' : World) (h1 : b = true ↔ FO g.prods g.k.toNat g.start s x) (h3 : Below w.heap.size w w') => (show RetH g s x w (.returned (.tuple #[.bool b, .int .i64 0])) w' from ⟨b, rfl, h1, h3⟩))
  have hxw : lookKey.ok x := hx
  obtain ⟨ix, hix⟩ := Int.eq_ofNat_of_zero_le (show 0 ≤ s - 16 by omega)
  have hixn : (s - 16).toNat = ix := by omega
  have hixi : ix < g.names.length := by omega
  have hzx : (0 : Int) ≤ ix := by omega
  have hzy : (ix : Int) < g.names.length := by omega
  have hn9 : g.names.length ≤ 8 := hn8.2
  rw [hix] at hN
  rw [hixn] at hSet
  clear hg hok hs hk hb hn8 hr
  replace hxw := Lib.hid hxw
  replace hix := Lib.hid hix
  replace hixn := Lib.hid hixn
  unfold gval at *
  unfold gcells at *
  unfold Lk.cells at *
  unfold Lk.v at *
  dsimp only at *
  go_enter Tryz.func13, Tryz.ntmps13
  go_upto_region 1 with (fail)
  generalize (w.alloc (.cells #[.int .i64 g.k, .slice ta g.toks.length tc, .string g.sep, .slice na g.names.length nc, .int .i64 g.start, .slice pa g.prods.length pc] 25)).alloc (.cells #[.int .i64 x.n, .int .i64 x.a, .int .i64 x.b, .int .i64 x.c, .int .i64 x.d] 41) = W0 at *
  obtain ⟨c0, c1, c2, c3, c4, c5⟩ := hG0.cells
  dsimp only at c1 c3 c5
  go_upto_region 4 with (go_at_call 48; refine (hN.out _ ((hG0.2.1).mono hG0.2.2.size)).mono ?_; rintro e w1 ⟨rfl, hb1⟩)
  have hG1 := hG0.step hb1
  have q6 := q5.step hb1
  clear hG0 hb1 c0 c1 c2 c3 c4 c5 q5
  obtain ⟨c0, c1, c2, c3, c4, c5⟩ := hG1.cells
  dsimp only at c1 c3 c5
  have d0 := q6.cell 0
  have d1 := q6.cell 1
  have d2 := q6.cell 2
  have d3 := q6.cell 3
  have d4 := q6.cell 4
  simp only [List.getElem?_toArray, List.getElem?_cons_zero, List.getElem?_cons_succ] at d0 d1 d2 d3 d4
  go_upto_region 7 with (go_at_call 49; refine (hCh.out _).mono ?_; rintro e w2 ⟨rfl, hb2⟩)
  have hG2 := hG1.step hb2
  have q7 := q6.step hb2
  clear hG1 hb2 c0 c1 c2 c3 c4 c5 d0 d1 d2 d3 d4 q6
  obtain ⟨c0, c1, c2, c3, c4, c5⟩ := hG2.cells
  dsimp only at c1 c3 c5
  go_upto_region 8 with (go_at_call 34; refine (hA.out _ ((hG2.2.1).mono hG2.2.2.size)).mono ?_; rintro e w3 ⟨bo, fo, ss, fs, rfl, hS1, hS2, k1, k2, k3, k4, k5, k6, k7, k8, hb3⟩)
  have hG3 := hG2.step hb3
  have q8 := q7.step hb3
  obtain ⟨mb, hmb, z0, hM⟩ := hS2.at0 ix hixi
  have hmem := hSet.out ss fs k1 k2 k3 k4 k5 k6
  have hbW := Lib.hid hG3.2.2
  clear hS1 hS2 k1 k2 k3 k4 k5 k6 k7 k8 hb3 hG2 c0 c1 c2 c3 c4 c5 hSet q7 hG3
  generalize fs.getD ix [] = S at *
  have hlk : ∀ W', (W'.heap[mb]? = w3.heap[mb]?) → (Instr.lookup 69 (.map (some mb)) (.agg #[.int .i64 x.n, .int .i64 x.a, .int .i64 x.b, .int .i64 x.c, .int .i64 x.d]) false).run Tryz.prog W' = .ok (.bool (decide (x ∈ S))) W' := fun W' h => by
    have h2 : MapK lookKey W' mb S := by
      obtain ⟨es, clock, hq, r⟩ := hM
      exact ⟨es, clock, h.trans hq, r⟩
    exact h2.look under67 x hxw.out
  have hl1 := fun n : Nat => hlk (w3.drewN n) rfl
  have hfin : Hid (decide (x ∈ S) = true ↔ FO g.prods g.k.toNat g.start s x) := Lib.hid (by rw [decide_eq_true_iff]; exact hmem x)
  have d0 := q8.cell 0
  have d1 := q8.cell 1
  have d2 := q8.cell 2
  have d3 := q8.cell 3
  have d4 := q8.cell 4
  simp only [List.getElem?_toArray, List.getElem?_cons_zero, List.getElem?_cons_succ] at d0 d1 d2 d3 d4
  replace hmem := Lib.hid hmem
  replace hM := Lib.hid hM
  clear hlk
  generalize decide (x ∈ S) = R at *
  go_quiet (fail)
  go_wp2_with fail
  go_ret2
  exact hP.out _ _ hfin.out (bDrwN hbW.out _)

theorem zero_wf : (Lk.of []).wf := by refine ⟨?_, ?_, ?_, ?_, ?_⟩ <;> decide
theorem ends_any (g : Gr) (a : GA) (s : Int) (w : World) (hg : GrAt w w.heap.size g a) (hok : gchk g = 0) (hs : ntB g s = true) : Calls Tryz.prog 24 #[gval g a, .int .i64 s] w (RetH g s (Lk.of []) w) := by
  obtain ⟨ta, tc, na, nc, pa, pc⟩ := a
  have hk := gok_of hok
  have hH := Lib.hid (fun (W : World) (h : GrAt W W.heap.size g ⟨ta, tc, na, nc, pa, pc⟩) => has35_any g ⟨ta, tc, na, nc, pa, pc⟩ s (Lk.of []) W h hok hs zero_wf (nil_right _ (by have := hk.tk; omega)))
  have hG0 := GB.start hg
  have hP := Lib.hid (fun (b : Bool) (w' : World) (h1 : b = true ↔ FO g.prods g.k.toNat g.start s (Lk.of [])) (h3 : Below w.heap.size w w') => (show RetH g s (Lk.of []) w (.returned (.tuple #[.bool b, .int .i64 0])) w' from ⟨b, rfl, h1, h3⟩))
  clear hg hok hs hk
  unfold gval at *
  unfold gcells at *
  dsimp only at *
  have hz : (Lk.of []).v = .agg #[.int .i64 0, .int .i64 0, .int .i64 0, .int .i64 0, .int .i64 0] := rfl
  rw [hz] at hH
  clear hz
  go_enter Tryz.func24, Tryz.ntmps24
  go_wp2_with (go_at_call 13; refine (hH.out _ ((hG0.2.1).mono hG0.2.2.size)).mono ?_; rintro e w1 ⟨R, rfl, hR, hb1⟩; replace hR := Lib.hid hR)
  go_ret2
  exact hP.out _ _ hR.out (hG0.step hb1).2.2
end Go.Proofs.YtnnkfgekiaaehaaGreat

/- follow.Uses. -/
namespace Go.Proofs.YtnnkfgekiaaehaaGreat
open Go.RowKit Go.Shelf Go.ChangeShapes Go.WideShapes Go.ChangeAt
set_option linter.unusedVariables false
attribute [local go_sem] Oper.semAt_some

/-- the cells of places -/
def cellsQ (l : List (Nat × Nat)) : List Value := l.flatMap fun x => [.int .i64 x.1, .int .i64 x.2]
theorem cellsQ_len : ∀ l : List (Nat × Nat), (cellsQ l).length = l.length * 2
  | [] => rfl
  | x :: l => by
    have := cellsQ_len l
    simp only [cellsQ, List.flatMap_cons, List.length_append, List.length_cons, List.length_nil] at this ⊢
    omega
theorem cellsQ_app (l m : List (Nat × Nat)) : cellsQ (l ++ m) = cellsQ l ++ cellsQ m := by simp [cellsQ]
theorem cellsQ_get : ∀ (l : List (Nat × Nat)) (i : Nat) (x : Nat × Nat), l[i]? = some x → (cellsQ l)[i * 2]? = some (.int .i64 x.1) ∧ (cellsQ l)[i * 2 + 1]? = some (.int .i64 x.2)
  | [], i, x, h => by simp at h
  | y :: l, 0, x, h => by simp at h; subst h; exact ⟨rfl, rfl⟩
  | y :: l, i + 1, x, h => by
    have := cellsQ_get l i x (by simpa using h)
    rw [show (i + 1) * 2 = i * 2 + 1 + 1 by omega]
    exact this
/-- v is a slice of the call's own of places -/
def OwnQ (W : World) (base : Nat) (v : Value) (l : List (Nat × Nat)) : Prop := W.ownsRow base 100 2 v l.length (cellsQ l)
/-- the slice at A reads as places -/
def RdQ (W : World) (B : Nat) (A : Option Addr) (n : Nat) (l : List (Nat × Nat)) : Prop :=
  l.length = n ∧ (n = 0 ∨ ∃ b off, A = some ⟨b, off, none⟩ ∧ b < B ∧ ∀ (i : Nat) (x : Nat × Nat), l[i]? = some x → W.cell? ⟨b, off + i * 2, none⟩ = some (.int .i64 x.1) ∧ W.cell? ⟨b, off + i * 2 + 1, none⟩ = some (.int .i64 x.2))
theorem OwnQ.reads {W : World} {base : Nat} {v : Value} {l : List (Nat × Nat)} (h : OwnQ W base v l) : ∃ A c, v = .slice A l.length c ∧ RdQ W W.heap.size A l.length l ∧ l.length ≤ c ∧ c ≤ maxLen := by
  rcases h.2 with ⟨rfl, h0⟩ | ⟨g, cap, cur, rfl, hb, hg, hnc, hcm, hcs, ht⟩
  · exact ⟨none, 0, by rw [h0], ⟨rfl, .inl h0⟩, by omega, by simp [maxLen]⟩
  · refine ⟨some ⟨g, 0, none⟩, cap, rfl, ⟨rfl, .inr ⟨g, 0, rfl, (Array.getElem?_eq_some_iff.1 hg).1, fun i x hx => ?_⟩⟩, hnc, hcm⟩
    have hi := (List.getElem?_eq_some_iff.1 hx).1
    obtain ⟨d1, d2⟩ := cellsQ_get l i x hx
    rw [← ht, List.getElem?_take, if_pos (by omega)] at d1 d2
    refine ⟨?_, ?_⟩
    · rw [cell_of_row W g _ cur 100 (0, 0) hg, Nat.zero_add]; simpa using d1
    · rw [cell_of_row W g _ cur 100 (0, 0) hg, Nat.zero_add]; simpa using d2
theorem RdQ.below {W W' : World} {B : Nat} {A : Option Addr} {n : Nat} {l : List (Nat × Nat)} (h : RdQ W B A n l) (hb : Below B W W') : RdQ W' B A n l := by
  refine ⟨h.1, ?_⟩
  rcases h.2 with h0 | ⟨b, off, rfl, hlt, hc⟩
  · exact .inl h0
  · exact .inr ⟨b, off, rfl, hlt, fun i x hx => ⟨(hb.cell (p := ⟨b, off + i * 2, none⟩) hlt).trans (hc i x hx).1, (hb.cell (p := ⟨b, off + i * 2 + 1, none⟩) hlt).trans (hc i x hx).2⟩⟩
theorem RdQ.mono {W : World} {B B' : Nat} {A : Option Addr} {n : Nat} {l : List (Nat × Nat)} (h : RdQ W B A n l) (hb : B ≤ B') : RdQ W B' A n l := by
  refine ⟨h.1, ?_⟩
  rcases h.2 with h0 | ⟨b, off, rfl, hlt, hc⟩
  · exact .inl h0
  · exact .inr ⟨b, off, rfl, by omega, hc⟩
theorem RdQ.get {W : World} {B : Nat} {A : Option Addr} {n : Nat} {l : List (Nat × Nat)} (h : RdQ W B A n l) {i : Nat} {x : Nat × Nat} (hx : l[i]? = some x) : ∃ b off, A = some ⟨b, off, none⟩ ∧ b < B ∧ W.cell? ⟨b, off + i * 2, none⟩ = some (.int .i64 x.1) ∧ W.cell? ⟨b, off + i * 2 + 1, none⟩ = some (.int .i64 x.2) := by
  have hi := (List.getElem?_eq_some_iff.1 hx).1
  rcases h.2 with h0 | ⟨b, off, rfl, hb, hc⟩
  · have := h.1; omega
  · exact ⟨b, off, rfl, hb, hc i x hx⟩
theorem info54 : (Tryz.prog.info? 100).map (fun i => (i.zero, i.size, i.bytes)) = some (some (.agg #[.int .i64 0, .int .i64 0]), 2, 16) := by kernel_rfl
theorem under49 : Tryz.prog.underlying 56 = some (.slice 100) := by kernel_rfl

/-- the places of the uses of s -/
def usesQ (vs : List PV) (s : Int) : List (Nat × Nat) := (usAll (fun x => decide (x = s)) vs).map fun u => (u.1, u.2.1)
theorem usesQ_mem (g : Gr) (vs : List PV) (hvs : vs.map PV.p = g.prods) (s : Int) (u : Nat × Nat) : u ∈ usesQ vs s ↔ ∃ p, g.prods[u.1]? = some p ∧ p.right[u.2]? = some s := by
  unfold usesQ
  rw [List.mem_map]
  constructor
  · rintro ⟨x, hx, rfl⟩
    obtain ⟨h1, h2⟩ := List.mem_filter.1 hx
    obtain ⟨y, _, hy1, hy2⟩ := prsU_mem.1 h1
    have := of_decide_eq_true h2
    exact ⟨y.p, by rw [← hvs, List.getElem?_map]; simp at hy1; rw [hy1]; rfl, by rw [← this]; exact hy2⟩
  · rintro ⟨p, hp, hd⟩
    rw [← hvs, List.getElem?_map] at hp
    obtain ⟨y, hy1, hy2⟩ := Option.map_eq_some_iff.1 hp
    exact ⟨(u.1, u.2, s), List.mem_filter.2 ⟨prsU_mem.2 ⟨y, Nat.zero_le _, hy1, by rw [hy2]; exact hd⟩, decide_eq_true rfl⟩, rfl⟩
theorem rowU_len (k : Nat) : ∀ (l : List Int) (d : Nat), (rowU k d l).length = l.length
  | [], _ => rfl
  | s :: l, d => by rw [rowU, List.length_cons, rowU_len k l, List.length_cons]
theorem prsU_len : ∀ (vs : List PV) (k : Nat), (∀ x ∈ vs, x.p.right.length ≤ 6) → (prsU k vs).length ≤ vs.length * 6
  | [], _, _ => by simp [prsU]
  | p :: vs, k, h => by
    have h1 := prsU_len vs (k + 1) fun x hx => h x (List.mem_cons_of_mem _ hx)
    have h2 := h p List.mem_cons_self
    rw [prsU, List.length_append, rowU_len, List.length_cons]
    omega
/-- the uses of s, from number k on -/
def usesN (k : Nat) : List Pr → List (Nat × Nat × Int)
  | [] => []
  | p :: ps => rowU k 0 p.right ++ usesN (k + 1) ps
/-- the uses of s in the productions -/
def useL (ps : List Pr) (s : Int) : List (Nat × Nat) := ((usesN 0 ps).filter fun u => decide (u.2.2 = s)).map fun u => (u.1, u.2.1)
theorem usesN_of : ∀ (vs : List PV) (k : Nat), prsU k vs = usesN k (vs.map PV.p)
  | [], _ => rfl
  | v :: vs, k => by rw [prsU, List.map_cons, usesN, usesN_of vs (k + 1)]
theorem useL_of (vs : List PV) (s : Int) : usesQ vs s = useL (vs.map PV.p) s := by
  unfold usesQ useL usAll usF; rw [usesN_of]
/-- what Uses hands back -/
def RetUs (g : Gr) (s : Int) (w : World) (e : Ending) (w' : World) : Prop :=
  ∃ l v, e = .returned (.tuple #[v, .int .i64 0]) ∧ OwnQ w' w.heap.size v l ∧ ((∀ u : Nat × Nat, u ∈ l ↔ ∃ p, g.prods[u.1]? = some p ∧ p.right[u.2]? = some s) ∧ l = useL g.prods s) ∧ l.length ≤ 144 ∧ Below w.heap.size w w'
theorem usesF_any (s x : Int) (b : Nat) (w : World) (h : w.cell? ⟨b, 0, none⟩ = some (.int .i64 s)) : Calls Tryz.prog 58 #[.int .i64 x, .pointer (some ⟨b, 0, none⟩)] w fun e w' => e = .returned (.bool (decide (x = s))) ∧ w = w' := by
  by_cases hx : x = s
  · subst hx
    rw [decide_eq_true rfl]
    go_enter Tryz.func58, Tryz.ntmps58
    go_wp2_with fail
    go_ret
    exact ⟨by simp, rfl⟩
  · rw [decide_eq_false hx]
    have hxb : (x == s) = false := by simpa using hx
    go_enter Tryz.func58, Tryz.ntmps58
    go_wp2_with fail
    go_ret
    exact ⟨by simp [hxb], rfl⟩
theorem row_mono {w : World} {base b' : Nat} {e : TypeId} {size : Nat} {v : Value} {n : Nat} {xs : List Value} (h : w.ownsRow base e size v n xs) (hb : b' ≤ base) : w.ownsRow b' e size v n xs := by
  refine ⟨h.1, ?_⟩
  rcases h.2 with hn | ⟨g, cap, cur, rfl, hg0, hg, rest⟩
  · exact .inl hn
  · exact .inr ⟨g, cap, cur, rfl, by omega, hg, rest⟩
/-- between two uses -/
def QI (w : World) (g : Gr) (a : GA) (s : Int) (b8 B : Nat) {q : Int → Bool} {vs : List PV} (pre : List (UseT q vs)) (W : World) : Prop :=
  GB w g a W ∧ Blk W (w.heap.size + 1) 3 #[.int .i64 s] ∧ B ≤ W.heap.size ∧ ∃ A c, Blk W b8 56 #[.slice A pre.length c] ∧ W.ownsRow B 100 2 (.slice A pre.length c) pre.length (cellsQ (pre.map fun u => (u.1.1, u.1.2.1)))
theorem QI.own {w : World} {g : Gr} {a : GA} {s : Int} {b8 B : Nat} {q : Int → Bool} {vs : List PV} (h1 : w.heap.size + 1 < B) (h2 : b8 < B) : OwnFrom B (fun (pre : List (UseT q vs)) W => QI w g a s b8 B pre W) := by
  rintro pre X Y row ⟨c1, c2, c3, A, c, c4, c5⟩ hg hr
  refine ⟨c1.low (lo := B) (by omega) (below_of_grown hg (fun r e => (hr r e).1) c3), c2.grown hg (fun e => by have := (hr _ e.symm).1; omega), Nat.le_trans c3 hg.size, A, c, c4.grown hg (fun e => by have := (hr _ e.symm).1; omega), row_grown c5 hg (fun b cs e hq => ?_)⟩
  obtain ⟨_, o, ho, hc⟩ := hr b e
  have : X.heap[b]? = some (.cells cs 100 (0, 0)) := hq
  rw [this] at ho; cases ho; cases hc
theorem QI.step {w : World} {g : Gr} {a : GA} {s : Int} {b8 B : Nat} {q : Int → Bool} {vs : List PV} {pre : List (UseT q vs)} {W W' : World} (h : QI w g a s b8 B pre W) (hb : Below W.heap.size W W') : QI w g a s b8 B pre W' := by
  obtain ⟨c1, c2, c3, A, c, c4, c5⟩ := h
  exact ⟨c1.step hb, c2.step hb, Nat.le_trans c3 hb.size, A, c, c4.step hb, row_step c5 hb⟩

set_option maxRecDepth 100000 in
set_option maxHeartbeats 8000000 in
theorem uses_any (g : Gr) (a : GA) (s : Int) (w : World) (hg : GrAt w w.heap.size g a) (hok : gchk g = 0) (hs : ntB g s = true) : Calls Tryz.prog 26 #[gval g a, .int .i64 s] w (RetUs g s w) := by
  obtain ⟨ta, tc, na, nc, pa, pc⟩ := a
  have hb := nt_bd hs
  have hk := gok_of hok
  have hn8 := hk.nm
  obtain ⟨vs, hvs1, hvs2, hvs3⟩ := hg.prods.vals
  have hvl : vs.length = g.prods.length := by rw [← hvs1]; simp
  have hvr : ∀ x ∈ vs, x.p.right.length ≤ 6 := fun x hx => (hk.pr x.p (by rw [← hvs1]; exact List.mem_map_of_mem hx)).2.1
  have hQm := Lib.hid (And.intro (fun u => usesQ_mem g vs hvs1 s u) (show usesQ vs s = useL g.prods s by rw [useL_of, hvs1]))
  have hUl : (usAll (fun x => decide (x = s)) vs).length ≤ 144 := Nat.le_trans (List.length_filter_le _ _) (Nat.le_trans (prsU_len vs 0 hvr) (by have := hk.pl; omega))
  have hvs := Lib.hid (And.intro hvs2 hvs3)
  have hvr' := Lib.hid hvr
  have hvl' := Lib.hid hvl
  clear hvs1 hvs2 hvs3 hvr hvl
  have hpl : g.prods.length ≤ 24 := hk.pl
  have hG0 := GB.start hg
  have hN := Lib.hid (fun (W : World) (h : GrAt W W.heap.size g ⟨ta, tc, na, nc, pa, pc⟩) => nonterm24_any g ⟨ta, tc, na, nc, pa, pc⟩ s W h (small_of hok) (by omega) (by omega))
  rw [(nonE_ok hok hs).1, (nonE_ok hok hs).2] at hN
  have hP := Lib.hid (fun (l : List (Nat × Nat)) (v : Value) (w' : World) (h1 : OwnQ w' w.heap.size v l) (h2 : (∀ u : Nat × Nat, u ∈ l ↔ ∃ p, g.prods[u.1]? = some p ∧ p.right[u.2]? = some s) ∧ l = useL g.prods s) (h3 : l.length ≤ 144) (h4 : Below w.heap.size w w') => (show RetUs g s w (.returned (.tuple #[v, .int .i64 0])) w' from ⟨l, v, rfl, h1, h2, h3, h4⟩))
  clear hg hok hs hk hb hn8
  unfold gval at *
  unfold gcells at *
  dsimp only at *
  refine (callsIn_wide (n := 6)).1 ?_
  refine callsIn_of_wp_marks Tryz.func26 rfl trivial ?_ rfl
  refine wpIn_wide.2 ?_
  simp only [Tryz.ntmps26, List.size_toArray, List.length_cons, List.length_nil, Nat.reduceAdd, Nat.reduceSub, Array.replicate_succ, Array.replicate_zero, List.push_toArray, List.append_toArray, List.nil_append, List.cons_append]
  go_upto_region 1 with (fail)
  have q3 : Blk ((w.alloc (.cells #[.int .i64 g.k, .slice ta g.toks.length tc, .string g.sep, .slice na g.names.length nc, .int .i64 g.start, .slice pa g.prods.length pc] 25)).alloc (.cells #[.int .i64 s] 3)) (w.heap.size + 1) 3 #[.int .i64 s] := Blk.newAt _ _ _ _ (by simp)
  have hG1 := hG0.alloc (.cells #[.int .i64 s] 3)
  have hsz : ((w.alloc (.cells #[.int .i64 g.k, .slice ta g.toks.length tc, .string g.sep, .slice na g.names.length nc, .int .i64 g.start, .slice pa g.prods.length pc] 25)).alloc (.cells #[.int .i64 s] 3)).heap.size = w.heap.size + 2 := by simp
  clear hG0
  generalize (w.alloc (.cells #[.int .i64 g.k, .slice ta g.toks.length tc, .string g.sep, .slice na g.names.length nc, .int .i64 g.start, .slice pa g.prods.length pc] 25)).alloc (.cells #[.int .i64 s] 3) = W0 at *
  obtain ⟨c0, c1, c2, c3, c4, c5⟩ := hG1.cells
  dsimp only at c1 c3 c5
  have y3 := q3.cell 0
  simp only [List.getElem?_toArray, List.getElem?_cons_zero] at y3
  replace hsz := Lib.hid hsz
  go_upto_region 4 with (go_at_call 48; refine (hN.out _ (hG1.2.1.mono hG1.2.2.size)).mono ?_; rintro e w1 ⟨rfl, hb1⟩)
  have hG2 := hG1.step hb1
  have q3b := q3.step hb1
  have h1s := hb1.size
  clear hG1 q3 c0 c1 c2 c3 c4 c5 y3 hb1
  go_upto_region 5 with (fail)
  have hbA : Below w1.heap.size w1 (w1.alloc (.cells #[.slice none 0 0] 56)) := bAlc (Below.refl _ _) _
  have q8 := Blk.new w1 56 #[.slice none 0 0]
  have hG3 := hG2.step hbA
  have q3c := q3b.step hbA
  have hs8 : (w1.alloc (.cells #[.slice none 0 0] 56)).heap.size = w1.heap.size + 1 := by simp
  clear hG2 q3b hbA
  generalize w1.alloc (.cells #[.slice none 0 0] 56) = W2 at *
  generalize hw1 : w1.heap.size = b8 at *
  obtain ⟨c0, c1, c2, c3, c4, c5⟩ := hG3.cells
  dsimp only at c1 c3 c5
  have hMk := Lib.hid (fun (W : World) => mkuses_any g ⟨ta, tc, na, nc, pa, pc⟩ 58 #[.pointer (some ⟨w.heap.size + 1, 0, none⟩)] W)
  unfold gval at hMk
  unfold gcells at hMk
  dsimp only at hMk
  replace hs8 := Lib.hid hs8
  replace hw1 := Lib.hid hw1
  go_wp2_with (go_at_call 57; refine (hMk.out _).mono ?_; rintro e w6 ⟨rfl, hw6⟩; replace hw6 := Lib.hid hw6)
  have hb6 : Below W2.heap.size W2 w6 := by rw [hw6.out]; exact bAlc (bAlc (Below.refl _ _) _) _
  have hG4 := hG3.step hb6
  have q3d := q3c.step hb6
  have q8d := q8.step hb6
  have hB1 : W2.heap.size = b8 + 1 := hs8.out
  have hs6 : w6.heap.size = b8 + 3 := by rw [hw6.out]; simp; omega
  have hlo : w.heap.size + 2 ≤ b8 := by have := hsz.out; have := hw1.out; omega
  have hUS : USt w.heap.size W2.heap.size (W2.heap.size + 1) pa g.prods.length pc vs (.func (.func 58) #[] #[.pointer (some ⟨w.heap.size + 1, 0, none⟩)]) w6 := by
    have e1 : Below w.heap.size w w6 := hG4.2.2
    refine ⟨?_, ?_, hvs.out.1.below e1, fun x hx => (hvs.out.2 x hx).below e1, e1.size⟩
    · rw [hw6.out]; exact ((Blk.new W2 25 _).alloc _).cell 5
    · rw [hw6.out]; exact (Blk.newAt _ _ _ _ (by simp)).cell 0
  have hE6 : w6.cell? ⟨w.heap.size + 1, 0, none⟩ = some (.int .i64 s) := q3d.cell 0
  clear hw6 hb6 hG3 q3c q8 c0 c1 c2 c3 c4 c5
  rw [hB1] at hUS ⊢
  refine (wpIn_wide (n := 6)).1 ?_
  refine wpIn_rangeFunc_ownH (F := Fence.wide) (n := 6) rfl (by omega) (gf := 99) (lb := #[.pointer (some ⟨b8 + 1, 0, none⟩), .pointer (some ⟨b8 + 1 + 1, 0, none⟩)]) rfl trivial (enters_of Tryz.func99 (by kernel_rfl) rfl)
    (uses_stops (fun x => decide (x = s)) 58 #[.pointer (some ⟨w.heap.size + 1, 0, none⟩)] (KpU (w.heap.size + 2) (b8 + 1) (b8 + 1 + 1)) (fun W => W.cell? ⟨w.heap.size + 1, 0, none⟩ = some (.int .i64 s)) 5 (by omega) (b8 + 1) (b8 + 1 + 1) w.heap.size pa g.prods.length pc vs (by omega)
      (fun x hx => by have := hvr'.out x hx; omega) w6 (fun X Y h s => s.kept ⟨h.1.mono (by omega), h.2⟩) (fun X Y h e => (h.1.cell (p := ⟨w.heap.size + 1, 0, none⟩) (by simp)).trans e) (fun X Y h e => cell_later h e) (fun _ _ h => h.1.size) (enters_of Tryz.func58 (by kernel_rfl) rfl) (fun x W hW => callsIn_wide.2 (usesF_any s x (w.heap.size + 1) W hW)) hUS hE6)
    KpU.trans (fun W l o o' hl _ _ _ => KpU.put W l o' hl (by omega) (by omega) (by omega)) (Below.refl _ _) (fun _ => rfl)
    (fun pre W => QI w g ⟨ta, tc, na, nc, pa, pc⟩ s b8 (b8 + 3) pre W) (fun _ _ _ => False)
    (by rw [hs6]; exact QI.own (by omega) (by omega)) (fun _ s X Y row hs _ _ => hs)
    ⟨hG4, q3d, by omega, none, 0, q8d, World.ownsRow_nil w6 (b8 + 3) 100 2⟩
    (fun x a' W => ∃ Bx, b8 + 3 ≤ Bx ∧ Blk W Bx 100 #[.int .i64 (x.1.1 : Int), .int .i64 (x.1.2.1 : Int)] ∧ ∃ (f : Nat → Value), a' = { tmps := #[(f 0), (f 1), .pointer (some ⟨w.heap.size, 0, none⟩), .pointer (some ⟨w.heap.size + 1, 0, none⟩), (f 4), (f 5), (f 6), (f 7), .pointer (some ⟨b8, 0, none⟩), .pointer (some ⟨Bx, 0, none⟩), (f 10), (f 11), (f 12), (f 13), (f 14), (f 15), (f 16), (f 17), (f 18), (f 19), (f 20), (f 21), (f 22), (f 23), (f 24), (f 25), (f 26), (f 27), (f 28)], defers := [] })
    (fun x a' _ X Y row hs hg hr => by obtain ⟨Bx, h1, h2, h3⟩ := hs; exact ⟨Bx, h1, blk_own Bx 100 (fun (_ : Unit) => #[.int .i64 (x.1.1 : Int), .int .i64 (x.1.2.1 : Int)]) () X Y row h2 hg (fun r e => (hr r e).2), h3⟩)
    ?assign ?body ?done ?stop
  case assign =>
    rintro l pre x W K hI hK
    dsimp only [encU]
    have hbA : Below W.heap.size W (W.alloc (.cells #[.int .i64 (x.1.1 : Int), .int .i64 (x.1.2.1 : Int)] 100)) := bAlc (Below.refl _ _) _
    have hBW : b8 + 3 ≤ W.heap.size := hI.2.2.1
    have hIA := hI.step hbA
    have hlow : w.heap.size + 2 ≤ W.heap.size := by omega
    gi_wp2
    exact hK _ _ ((KeepsOthers.alloc _ _).from _) ⟨hbA.mono hlow, hbA.block _ (by omega), hbA.block _ (by omega)⟩ hIA ⟨W.heap.size, hBW, Blk.new W 100 _, ex_frame _ rfl⟩
  case body =>
    rintro l pre x a' Wb hl ⟨r, hr⟩ ⟨k1, k2, k3, A, c, k4, k5⟩ ⟨Bx, hBx, bX, f2, rfl⟩ hlt
    have hlt' : pre.length < 144 := Nat.lt_of_lt_of_le hlt hUl
    have x0 := bX.cell 0
    have x1 := bX.cell 1
    have y8 := k4.cell 0
    simp only [List.getElem?_toArray, List.getElem?_cons_zero, List.getElem?_cons_succ] at x0 x1 y8
    obtain ⟨i0, hi, hz0, hz1, hz2⟩ := info_parts info54
    have hC1 : Hid (∀ (j : Nat) (u : Value), [Value.int .i64 (x.1.1 : Int), .int .i64 (x.1.2.1 : Int)][j]? = some u → (Wb.alloc (.cells #[.int .i64 (x.1.1 : Int), .int .i64 (x.1.2.1 : Int)] 100)).cell? ((⟨Wb.heap.size, 0, none⟩ : Addr).add j) = some u) := Lib.hid fun j u hu => by
      have hadd : (⟨Wb.heap.size, 0, none⟩ : Addr).add j = ⟨Wb.heap.size, 0 + j, none⟩ := by unfold Addr.add; split <;> simp_all
      rw [hadd, (Blk.new Wb 100 _).cell, Nat.zero_add]
      simpa using hu
    have hC2 : Hid (∀ u ∈ [Value.int .i64 (x.1.1 : Int), .int .i64 (x.1.2.1 : Int)], u.oneCell' = true) := Lib.hid fun u hu => by
      simp only [List.mem_cons, List.not_mem_nil, or_false] at hu
      rcases hu with rfl | rfl <;> rfl
    have hFin : Hid (∀ (w1 : World) (A' : Option Addr) (c' : Nat), (Wb.alloc (.cells #[.int .i64 (x.1.1 : Int), .int .i64 (x.1.2.1 : Int)] 100)).grownBy w1 (Value.slice A pre.length c).ownBlock →
        w1.ownsRow (b8 + 3) 100 2 (.slice A' (pre.length + 1) c') (pre.length + 1) (cellsQ (pre.map fun u => (u.1.1, u.1.2.1)) ++ [.int .i64 (x.1.1 : Int), .int .i64 (x.1.2.1 : Int)]) →
        w1.cell? ⟨b8, 0, none⟩ = some (.slice A pre.length c) ∧ w1.frozen? ⟨b8, 0, none⟩ = false ∧
        (KeepsFrom w6.heap.size Wb (w1.setCell ⟨b8, 0, none⟩ (.slice A' (pre.length + 1) c')) ∧ KpU (w.heap.size + 2) (b8 + 1) (b8 + 1 + 1) Wb (w1.setCell ⟨b8, 0, none⟩ (.slice A' (pre.length + 1) c')) ∧
          QI w g ⟨ta, tc, na, nc, pa, pc⟩ s b8 (b8 + 3) (pre ++ [x]) (w1.setCell ⟨b8, 0, none⟩ (.slice A' (pre.length + 1) c')))) := Lib.hid fun w1 A' c' hg ho => by
      have hlow : ∀ k, (Value.slice A pre.length c).ownBlock = some k → b8 + 3 ≤ k := fun k hk => (own_in k5 k hk).1
      have hne : ∀ j, j < b8 + 3 → some j ≠ (Value.slice A pre.length c).ownBlock := fun j hj e => by have := hlow j e.symm; omega
      have q8 := (k4.alloc (.cells #[.int .i64 (x.1.1 : Int), .int .i64 (x.1.2.1 : Int)] 100)).grown hg (hne _ (by omega))
      have hB : Below (w.heap.size + 2) Wb (w1.setCell ⟨b8, 0, none⟩ (.slice A' (pre.length + 1) c')) :=
        (((bAlc (Below.refl _ _) _ : Below Wb.heap.size Wb (Wb.alloc (.cells #[.int .i64 (x.1.1 : Int), .int .i64 (x.1.2.1 : Int)] 100))).mono (show w.heap.size + 2 ≤ Wb.heap.size by omega)).grown hg (by simp; omega) (fun k hk => by have := hlow k hk; omega)).setCell (show w.heap.size + 2 ≤ b8 by omega) _
      have hcells : ∀ (j : Nat) (o : Obj), (Value.slice A pre.length c).ownBlock = some j → (Wb.alloc (.cells #[.int .i64 (x.1.1 : Int), .int .i64 (x.1.2.1 : Int)] 100)).heap[j]? = some o → o.isCells = true := fun j o e ho => by
        rcases k5.2 with ⟨e1, _⟩ | ⟨gb, cap, cur, e1, _, hb, _⟩
        · rw [e1] at e; cases e
        · rw [e1] at e; injection e with e; subst e
          have := (show Blk Wb gb 100 cur from hb).alloc (.cells #[.int .i64 (x.1.1 : Int), .int .i64 (x.1.2.1 : Int)] 100)
          unfold Blk at this
          rw [this] at ho; cases ho; rfl
      have hblk : ∀ j, j < b8 + 3 → j ≠ b8 → (w1.setCell ⟨b8, 0, none⟩ (.slice A' (pre.length + 1) c')).heap[j]? = Wb.heap[j]? := fun j hj hn =>
        (Below.heap_setCell w1 _ _ j (by simpa using hn)).trans ((hg.block j (by simp; omega) (hne j hj)).trans (Below.heap_alloc _ _ _ (by omega)))
      refine ⟨q8.cell 0, q8.frozen 0, ((KeepsOthers.alloc Wb _).trans ((KeepsOthers.of_grownBy hg hcells).trans (KeepsOthers.setCell w1 _ _))).from _, ⟨hB, hblk _ (by omega) (by omega), hblk _ (by omega) (by omega)⟩, ?_⟩
      refine ⟨k1.low (lo := w.heap.size + 2) (by omega) hB, k2.below hB (by omega), Nat.le_trans k3 hB.size, A', c', ?_, ?_⟩
      · rw [show (pre ++ [x]).length = pre.length + 1 by simp]
        exact q8.put 0 _
      · rw [show (pre ++ [x]).length = pre.length + 1 by simp, List.map_append, cellsQ_app]
        exact row_grown ho (grownBy_setC' _ _ _ _) (fun b cs e hq => by injection e with e; subst e; cases blk_type q8 hq)
    replace hUl := Lib.hid hUl
    replace hlt' := Lib.hid hlt'
    clear k1 k2 bX hlt
    gi_wp2_with (gi_at_builtin; refine wpListIn_append_own _ rfl _ _ 56 rfl (b8 + 3) 100 i0 (.agg #[.int .i64 0, .int .i64 0]) 2 16 under49 hi hz0 hz1 hz2 rfl (by decide) _ _ _ rfl (k5.alloc _) ⟨Wb.heap.size, 0, none⟩ 1 1 [.int .i64 (x.1.1 : Int), .int .i64 (x.1.2.1 : Int)] rfl rfl hC1.out hC2.out (by have := hlt'.out; unfold maxLen; omega) (by have := hlt'.out; omega) (by simp; omega) ?_; intro v' w1 hown' hgrow _; obtain ⟨g', cap', rfl⟩ := ownsRow_succ hown'; obtain ⟨z1, z2, z3⟩ := hFin.out w1 _ _ hgrow hown'; replace z3 := Lib.hid z3; clear hown' hgrow)
    exact z3.out
  case done =>
    rintro D xs Wb hD hys ⟨k1, k2, k3, A, c, k4, k5⟩ hKD
    have hys' : xs.map (·.1) = usAll (fun x => decide (x = s)) vs := hys
    have y8 := k4.cell 0
    simp only [List.getElem?_toArray, List.getElem?_cons_zero] at y8
    have hlq : xs.map (fun u => (u.1.1, u.1.2.1)) = usesQ vs s := by
      have := congrArg (List.map fun u : Nat × Nat × Int => (u.1, u.2.1)) hys'
      rw [List.map_map] at this
      exact this
    have hxl : xs.length ≤ 144 := by
      have := congrArg List.length hys'
      rw [List.length_map] at this
      omega
    have hkey : Hid (RetUs g s w (.returned (.tuple #[.slice A xs.length c, .int .i64 0])) (Wb.putObj D (.deferred none))) := Lib.hid (by
      refine hP.out (xs.map (fun u => (u.1.1, u.1.2.1))) _ _ ?_ ?_ (by rw [List.length_map]; exact hxl) (k1.2.2.trans ⟨rfl, rfl, rfl, by simp, fun k hk => World.putObj_heap_other (by omega)⟩)
      · unfold OwnQ
        rw [List.length_map]
        exact row_grown (row_mono k5 (by omega)) (grownBy_putObj' _ D (.deferred none)) (fun b cs e hq => by injection e with e; subst e; unfold Blk at hq; rw [hKD] at hq; cases hq)
      · rw [hlq]; exact hQm.out)
    replace hys := Lib.hid hys
    replace hys' := Lib.hid hys'
    replace hlq := Lib.hid hlq
    go_wp2_with fail
    refine ⟨by simp, .inl ⟨_, _, rfl, run_takeDeferred hKD, ?_⟩⟩
    exact ⟨.tuple #[.slice A xs.length c, .int .i64 0], results_tmp2 (t := 4) (u := 5) rfl _ _ _, hkey.out⟩
  case stop =>
    rintro D c pre W hD _ hf
    exact hf.elim
end Go.Proofs.YtnnkfgekiaaehaaGreat
