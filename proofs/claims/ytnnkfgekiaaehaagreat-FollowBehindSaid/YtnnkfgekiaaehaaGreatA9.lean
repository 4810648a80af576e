/- Walks and plain laws, part 9 of 9: The reference 16: Behind; errors of both; SmallGrammar: what it lets by; The walk of FollowBehind. Conditions: none beyond those that each theorem states. -/
import Derived.Test.YtnnkfgekiaaehaaGreatA8
/- The reference 16: Behind; errors of both. -/
namespace Go.Proofs.YtnnkfgekiaaehaaGreat
open Go.ChangeShapes Go.WideShapes Go.ChangeAt Go.RowKit
set_option linter.unusedVariables false

/-- FIRST and FOLLOW of the reference give what is behind -/
theorem bset_sum {g : Gr} (hok : gchk g = 0) {k : Nat} (hkk : k = g.k.toNat) {ss fs ss2 : List (List Lk)} (h1 : SetsFit k ss) (h2 : SoundF g.prods k ss) (h3 : ClosedF g.prods k ss) (f1 : SetsFit k fs) (f2 : SoundO g.prods k g.start fs) (f3 : SetsFit k ss2) (f4 : SoundF g.prods k ss2) (f5 : ClosedF g.prods k ss2) (f6 : ClosedO g.prods k g.start ss2 fs)
    {p : Pr} (hp : p ∈ g.prods) (d : Nat) : BSet g p d (sumR k (tailL k ss (p.right.drop d)) (fs.getD (p.left - 16).toNat [])) := by
  subst hkk
  have hk := gok_of hok
  have hdr : ∀ z ∈ p.right.drop d, SymOk g.names.length z := fun z hz => hk.sym hp z (List.mem_of_mem_drop hz)
  have hT := tail_fit hk.k1 hk.k4 h1 _ hdr
  have hL := setsFit_get f1 (p.left - 16).toNat
  refine ⟨sumR_asc hk.k4 hT hL, fun y => ?_⟩
  rw [sumR_mem hk.k4 hT hL]
  have e1 := fun x => first_iff hk.k1 hk.k4 h1 h2 h3 (fun p hp => hk.sym hp) _ hdr x
  have e2 := fun z => follow_iff hk.k1 hk.k4 f3 f1 f4 f5 (fun p hp => ⟨(hk.pr p hp).1.1, hk.sym hp⟩) f2 f6 p.left (hk.pr p hp).1.1 z
  constructor
  · rintro ⟨x, hx, z, hz, rfl⟩; exact ⟨x, z, (e1 x).1 hx, (e2 z).1 hz, rfl⟩
  · rintro ⟨x, z, hx, hz, rfl⟩; exact ⟨x, (e1 x).2 hx, z, (e2 z).2 hz, rfl⟩
theorem bh_right {g : Gr} (hok : gchk g = 0) {p : Pr} (hp : p ∈ g.prods) {d : Nat} {y : Lk} (h : BH g.prods g.k.toNat g.start p d y) : y.right g.toks.length ∧ y.l.length ≤ g.k.toNat := by
  have hk := gok_of hok
  obtain ⟨x, z, hx, hz, rfl⟩ := h
  have r1 := fl_rightG hk (fun s hs h16 => by have := (hk.pr p hp).2.2 s (List.mem_of_mem_drop hs); omega) hx
  have r2 := fo_rightG hk hz
  exact ⟨lplus_right hk.k4 r1 r2, by rw [lplus_l hk.k4, List.length_take]; omega⟩

/-- a grammar that is not right -/
theorem behind_err (g : Gr) (a : GA) (i d : Int) (w : World) (hg : GrAt w w.heap.size g a) (hs : Small g) (hE : gchk g ≠ 0) :
    Calls Tryz.prog 8 #[gval g a, .int .i64 i, .int .i64 d] w fun e w' => e = .returned (.tuple #[.slice none 0 0, .int .i64 (gchk g)]) ∧ Below w.heap.size w w' := by
  obtain ⟨ta, tc, na, nc, pa, pc⟩ := a
  have hG0 := GB.start hg
  have hC := Lib.hid (fun (W : World) (h : GrAt W W.heap.size g ⟨ta, tc, na, nc, pa, pc⟩) => gcheck_any g ⟨ta, tc, na, nc, pa, pc⟩ W h hs)
  clear hg hs
  unfold gval at *
  unfold gcells at *
  dsimp only at *
  obtain ⟨E, hE0⟩ : ∃ E, E = gchk g := ⟨_, rfl⟩
  rw [← hE0] at hC hE ⊢
  have hEb : (E != 0) = true := by simpa using hE
  replace hE0 := Lib.hid hE0
  go_enter Tryz.func8, Tryz.ntmps8
  go_wp2_with (go_at_call 33; refine (hC.out _ ((hG0.2.1).mono hG0.2.2.size)).mono ?_; rintro e w1 ⟨rfl, hb1⟩)
  go_ret2
  exact ⟨rfl, (hG0.step hb1).2.2⟩
theorem refbehind_err (g : Gr) (a : GA) (i d : Int) (w : World) (hg : GrAt w w.heap.size g a) (hs : Small g) (hE : gchk g ≠ 0) :
    Calls Tryz.prog 9 #[gval g a, .int .i64 i, .int .i64 d] w fun e w' => e = .returned (.tuple #[.slice none 0 0, .int .i64 (gchk g)]) ∧ Below w.heap.size w w' := by
  obtain ⟨ta, tc, na, nc, pa, pc⟩ := a
  have hG0 := GB.start hg
  have hC := Lib.hid (fun (W : World) (h : GrAt W W.heap.size g ⟨ta, tc, na, nc, pa, pc⟩) => rcheckg_any g ⟨ta, tc, na, nc, pa, pc⟩ W h hs)
  clear hg hs
  unfold gval at *
  unfold gcells at *
  dsimp only at *
  obtain ⟨E, hE0⟩ : ∃ E, E = gchk g := ⟨_, rfl⟩
  rw [← hE0] at hC hE ⊢
  have hEb : (E != 0) = true := by simpa using hE
  replace hE0 := Lib.hid hE0
  go_enter Tryz.func9, Tryz.ntmps9
  go_wp2_with (go_at_call 39; refine (hC.out _ ((hG0.2.1).mono hG0.2.2.size)).mono ?_; rintro e w1 ⟨rfl, hb1⟩)
  go_ret2
  exact ⟨rfl, (hG0.step hb1).2.2⟩
set_option maxRecDepth 100000 in
set_option maxHeartbeats 4000000 in
theorem refbehind_bad (g : Gr) (a : GA) (i d : Int) (w : World) (hg : GrAt w w.heap.size g a) (hok : gchk g = 0) (hno : noPlace g i d) :
    Calls Tryz.prog 9 #[gval g a, .int .i64 i, .int .i64 d] w fun e w' => e = .returned (.tuple #[.slice none 0 0, .int .i64 2]) ∧ Below w.heap.size w w' := by
  obtain ⟨ta, tc, na, nc, pa, pc⟩ := a
  have hG0 := GB.start hg
  have hC := Lib.hid (fun (W : World) (h : GrAt W W.heap.size g ⟨ta, tc, na, nc, pa, pc⟩) => rcheckg_any g ⟨ta, tc, na, nc, pa, pc⟩ W h (small_of hok))
  rw [hok] at hC
  have hgp := Lib.hid hg.prods
  have hpl := (gok_of hok).pl
  clear hg hok
  unfold gval at *
  unfold gcells at *
  dsimp only at *
  go_enter Tryz.func9, Tryz.ntmps9
  go_upto_region 4 with (go_at_call 39; refine (hC.out _ ((hG0.2.1).mono hG0.2.2.size)).mono ?_; rintro e w1 ⟨rfl, hb1⟩)
  have hG1 := hG0.step hb1
  clear hG0 hb1
  obtain ⟨c0, c1, c2, c3, c4, c5⟩ := hG1.cells
  dsimp only at c1 c3 c5
  have hbW := Lib.hid hG1.2.2
  by_cases h1 : i < 0
  · clear hG1 hno
    go_wp2_with fail
    go_ret2
    exact ⟨rfl, hbW.out⟩
  by_cases h2 : (g.prods.length : Int) ≤ i
  · clear hG1 hno
    go_wp2_with fail
    go_ret2
    exact ⟨rfl, hbW.out⟩
  by_cases h3 : d < 0
  · clear hG1 hno
    go_wp2_with fail
    go_ret2
    exact ⟨rfl, hbW.out⟩
  obtain ⟨p, hp, hd⟩ : ∃ p, g.prods[i.toNat]? = some p ∧ (p.right.length : Int) < d := by
    rcases hno with h | h | h | h
    · exact absurd h h1
    · exact absurd h h2
    · exact absurd h h3
    · exact h
  obtain ⟨n, hn⟩ := Int.eq_ofNat_of_zero_le (show 0 ≤ i by omega)
  subst hn
  rw [Int.toNat_natCast] at hp
  obtain ⟨b, off, rfl, hbt, x0, RA, rc, x1, hx2, hx3, hx4⟩ := hgp.out.get hp
  have y1 := (hG1.2.2.cell (p := ⟨b, off + n * 2 + 1, none⟩) hbt).trans x1
  clear x0 x1 hx2
  replace hp := Lib.hid hp
  have hz1 : (0 : Int) ≤ n := by omega
  have hz2 : (n : Int) < g.prods.length := by omega
  have hz3 : ¬ d ≤ (p.right.length : Int) := by omega
  go_wp2_with fail
  go_ret2
  exact ⟨rfl, hbW.out⟩

/-- what Behind of the reference hands back -/
def RetBs (g : Gr) (p : Pr) (d : Nat) (w : World) (e : Ending) (w' : World) : Prop := ∃ L A c, e = .returned (.tuple #[.slice A L.length c, .int .i64 0]) ∧ BSet g p d L ∧ SetAt w' g.toks.length A L.length c L ∧ Below w.heap.size w w'

set_option maxRecDepth 100000 in
set_option maxHeartbeats 8000000 in
theorem refbehind_any (g : Gr) (a : GA) (i d : Nat) (p : Pr) (w : World) (hg : GrAt w w.heap.size g a) (hok : gchk g = 0) (hp : g.prods[i]? = some p) (hd : d ≤ p.right.length) (hfew : FewB g p d) :
    Calls Tryz.prog 9 #[gval g a, .int .i64 i, .int .i64 d] w (RetBs g p d w) := by
  obtain ⟨ta, tc, na, nc, pa, pc⟩ := a
  have hk := gok_of hok
  have hpm := List.mem_of_getElem? hp
  have hpr := hk.pr p hpm
  have hi : i < g.prods.length := (List.getElem?_eq_some_iff.1 hp).1
  have hG0 := GB.start hg
  obtain ⟨b, off, hA, hbt, x0, RA, rc, x1, hx2, hx3, hx4⟩ := hg.prods.get hp
  dsimp only at hA
  subst hA
  have hC := Lib.hid (fun (W : World) (h : GrAt W W.heap.size g ⟨ta, tc, na, nc, some ⟨b, off, none⟩, pc⟩) => rcheckg_any g ⟨ta, tc, na, nc, some ⟨b, off, none⟩, pc⟩ W h (small_of hok))
  rw [hok] at hC
  have hP := Lib.hid (fun (L : List Lk) (A : Option Addr) (c : Nat) (w' : World) (h1 : BSet g p d L) (h2 : SetAt w' g.toks.length A L.length c L) (h3 : Below w.heap.size w w') => (show RetBs g p d w (.returned (.tuple #[.slice A L.length c, .int .i64 0])) w' from ⟨L, A, c, rfl, h1, h2, h3⟩))
  obtain ⟨jx, hjx⟩ := Int.eq_ofNat_of_zero_le (show 0 ≤ p.left - 16 by have := hpr.1; omega)
  have hjxn : (p.left - 16).toNat = jx := by omega
  have hjxi : jx < g.names.length := by have := hpr.1; omega
  have hjr : p.left - 16 = (jx : Int) := hjx
  have zwj : IntKind.i64.wrap (p.left - 16) = (jx : Int) := by rw [hjx]; exact IntWalk.i64_in _ (by have := hk.nm; omega)
  have hzjx : (0 : Int) ≤ jx := by omega
  have hzjy : (jx : Int) < g.names.length := by omega
  have hz1 : (0 : Int) ≤ i := by omega
  have hz2 : (i : Int) < g.prods.length := by omega
  have hz3 : (0 : Int) ≤ d := by omega
  have hz4 : (d : Int) ≤ p.right.length := by omega
  have hz5 : (d : Int) ≤ rc := by omega
  have hzl : g.prods.length ≤ 24 := hk.pl
  have hr6 : p.right.length ≤ 6 := hpr.2.1
  have hn8 : g.names.length ≤ 8 := hk.nm.2
  have hkk : g.k = (g.k.toNat : Int) := hk.hk
  have hm := hk.tk
  have hdr : ∀ z ∈ p.right.drop d, (0 ≤ z ∧ z < g.toks.length) ∨ (16 ≤ z ∧ z < 16 + (g.names.length : Int)) := fun z hz => hpr.2.2 z (List.mem_of_mem_drop hz)
  have hFiA := Lib.hid (fun (W : World) (h : GrAt W W.heap.size g ⟨ta, tc, na, nc, some ⟨b, off, none⟩, pc⟩) => firsts_any g ⟨ta, tc, na, nc, some ⟨b, off, none⟩, pc⟩ g.k.toNat hk W h)
  have hFoA := Lib.hid (fun (W : World) (h : GrAt W W.heap.size g ⟨ta, tc, na, nc, some ⟨b, off, none⟩, pc⟩) => follows_any g ⟨ta, tc, na, nc, some ⟨b, off, none⟩, pc⟩ g.k.toNat hk W h)
  have hOfA := Lib.hid (fun (l : List Int) hl (bo : Nat) (ss : List (List Lk)) (RA : Option Addr) (rc : Nat) (W : World) hg hS hf hR hln => refof_ok g ⟨ta, tc, na, nc, some ⟨b, off, none⟩, pc⟩ g.k.toNat hk l hl bo ss RA rc W hg hS hf hR hln)
  have hBS : Hid (∀ ss fs ss2, SetsFit g.k.toNat ss → SoundF g.prods g.k.toNat ss → ClosedF g.prods g.k.toNat ss → SetsFit g.k.toNat fs → SoundO g.prods g.k.toNat g.start fs → SetsFit g.k.toNat ss2 → SoundF g.prods g.k.toNat ss2 → ClosedF g.prods g.k.toNat ss2 → ClosedO g.prods g.k.toNat g.start ss2 fs → BSet g p d (sumR g.k.toNat (tailL g.k.toNat ss (p.right.drop d)) (fs.getD jx []))) :=
    Lib.hid fun ss fs ss2 h1 h2 h3 h4 h5 h6 h7 h8 h9 => by
      have := bset_sum hok rfl h1 h2 h3 h4 h5 h6 h7 h8 h9 hpm d
      rwa [hjxn] at this
  have hTfit : ∀ ss, SetsFit g.k.toNat ss → ∀ x ∈ tailL g.k.toNat ss (p.right.drop d), Fit g.k.toNat x := fun ss h => tail_fit hk.k1 hk.k4 h _ fun z hz => hk.sym hpm z (List.mem_of_mem_drop hz)
  have hSm : Hid (∀ ss fs A1 k1 Xf xcf W', SetsFit g.k.toNat ss → SetsFit g.k.toNat fs → SetAt W' g.toks.length A1 (tailL g.k.toNat ss (p.right.drop d)).length k1 (tailL g.k.toNat ss (p.right.drop d)) → SetAt W' g.toks.length Xf (fs.getD jx []).length xcf (fs.getD jx []) →
      Calls Tryz.prog 40 #[.int .i64 g.toks.length, .int .i64 g.k, .slice A1 (tailL g.k.toNat ss (p.right.drop d)).length k1, .slice Xf (fs.getD jx []).length xcf] W' (RetL0 W' (sumR g.k.toNat (tailL g.k.toNat ss (p.right.drop d)) (fs.getD jx [])))) :=
    Lib.hid fun ss fs A1 k1 Xf xcf W' h1 h2 h3 h4 => by
      have := sum_ok g.toks.length g.k.toNat A1 Xf _ _ k1 xcf _ _ W' (by omega) (by omega) hk.k1 hk.k4 h3 h4 (hTfit ss h1) (setsFit_get h2 jx)
      rwa [← hkk] at this
  have hOwn : Hid (∀ ss fs (W' : World) (base : Nat) (v : Value), SetsFit g.k.toNat ss → SoundF g.prods g.k.toNat ss → SetsFit g.k.toNat fs → SoundO g.prods g.k.toNat g.start fs → OwnL W' base v (sumR g.k.toNat (tailL g.k.toNat ss (p.right.drop d)) (fs.getD jx [])) →
      ∃ A c, v = .slice A (sumR g.k.toNat (tailL g.k.toNat ss (p.right.drop d)) (fs.getD jx [])).length c ∧ SetAt W' g.toks.length A (sumR g.k.toNat (tailL g.k.toNat ss (p.right.drop d)) (fs.getD jx [])).length c (sumR g.k.toNat (tailL g.k.toNat ss (p.right.drop d)) (fs.getD jx []))) :=
    Lib.hid fun ss fs W' base v h1 h2 h3 h4 ho => by
      refine SetAt.of_own ho (fun x hx => ?_) (by omega) (sumR_asc hk.k4 (hTfit ss h1) (setsFit_get h3 jx))
      obtain ⟨y, hy, z, hz, rfl⟩ := (sumR_mem hk.k4 (hTfit ss h1) (setsFit_get h3 jx) x).1 hx
      exact lplus_right hk.k4 (fl_rightG hk (fun s hs h16 => by have := hdr s hs; omega) (tail_sound hk.k1 hk.k4 h1 h2 _ (fun z hz => hk.sym hpm z (List.mem_of_mem_drop hz)) y hy)) (fo_rightG hk (h4 _ z hz))
  have hfewR : Hid (∀ L, BSet g p d L → ¬ (600 : Int) < L.length) := Lib.hid fun L h => by
    have := hfew L (asc_nodup h.1) fun y hy => (h.2 y).1 hy
    omega
  replace hp := Lib.hid hp
  replace hpm := Lib.hid hpm
  replace hpr := Lib.hid hpr
  replace hjx := Lib.hid hjx
  replace hjr := Lib.hid hjr
  replace hjxn := Lib.hid hjxn
  replace hkk := Lib.hid hkk
  replace hk := Lib.hid hk
  replace hdr := Lib.hid hdr
  replace hTfit := Lib.hid hTfit
  clear hg hok hfew
  unfold maxLen at hx4
  unfold gval at *
  unfold gcells at *
  dsimp only at *
  go_enter Tryz.func9, Tryz.ntmps9
  go_upto_region 4 with (go_at_call 39; refine (hC.out _ ((hG0.2.1).mono hG0.2.2.size)).mono ?_; rintro e w1 ⟨rfl, hb1⟩)
  have hG1 := hG0.step hb1
  clear hG0 hb1 hC
  obtain ⟨c0, c1, c2, c3, c4, c5⟩ := hG1.cells
  dsimp only at c1 c3 c5
  have y0 := (hG1.2.2.cell (p := ⟨b, off + i * 2, none⟩) hbt).trans x0
  have y1 := (hG1.2.2.cell (p := ⟨b, off + i * 2 + 1, none⟩) hbt).trans x1
  clear x0 x1
  go_upto_region 7 with (fail)
  have hbA : Below w1.heap.size w1 (w1.alloc (.cells #[.int .i64 p.left, .slice RA p.right.length rc] 47)) := bAlc (Below.refl _ _) _
  have q7 := Blk.new w1 47 #[.int .i64 p.left, .slice RA p.right.length rc]
  have hG2 := hG1.step hbA
  clear c0 c1 c2 c3 c4 c5 y0 y1 hG1 hbA
  generalize w1.alloc (.cells #[.int .i64 p.left, .slice RA p.right.length rc] 47) = W at *
  generalize w1.heap.size = gp at *
  obtain ⟨c0, c1, c2, c3, c4, c5⟩ := hG2.cells
  dsimp only at c1 c3 c5
  have p0 := q7.cell 0
  have p1 := q7.cell 1
  simp only [List.getElem?_toArray, List.getElem?_cons_zero, List.getElem?_cons_succ] at p0 p1
  have hszw := hG2.lt
  have hFi : Hid (∀ W', Below W.heap.size W W' → Calls Tryz.prog 42 #[.agg #[.int .i64 g.k, .slice ta g.toks.length tc, .string g.sep, .slice na g.names.length nc, .int .i64 g.start, .slice (some ⟨b, off, none⟩) g.prods.length pc]] W' (RetFs g g.k.toNat W')) := Lib.hid fun W' hb => hFiA.out W' (((hG2.step hb).2.1).mono (by have := hb.size; omega))
  have hFo : Hid (∀ W', Below W.heap.size W W' → Calls Tryz.prog 43 #[.agg #[.int .i64 g.k, .slice ta g.toks.length tc, .string g.sep, .slice na g.names.length nc, .int .i64 g.start, .slice (some ⟨b, off, none⟩) g.prods.length pc]] W' (RetFo g g.k.toNat W')) := Lib.hid fun W' hb => hFoA.out W' (((hG2.step hb).2.1).mono (by have := hb.size; omega))
  have hOf : Hid (∀ bf ss SA sn sc W', sn = (p.right.drop d).length → Rd1 W' W'.heap.size SA sn (ints (p.right.drop d)) → Below W.heap.size W W' → SetsA W' bf g.names.length g.toks.length ss → SetsFit g.k.toNat ss → Calls Tryz.prog 41 #[.agg #[.int .i64 g.k, .slice ta g.toks.length tc, .string g.sep, .slice na g.names.length nc, .int .i64 g.start, .slice (some ⟨b, off, none⟩) g.prods.length pc], .slice (some ⟨bf, 0, none⟩) g.names.length g.names.length, .slice SA sn sc] W' (RetSt g.toks.length (tailL g.k.toNat ss (p.right.drop d)) W')) :=
    Lib.hid fun bf ss SA sn sc W' hsn hr hb hS hf => by
      subst hsn
      exact hOfA.out (p.right.drop d) hdr.out bf ss SA sc W' (((hG2.step hb).2.1).mono (by have := hb.size; omega)) hS hf hr (by rw [List.length_drop]; omega)
  have hx2d : Rd1 W w.heap.size (if rc = d then RA else RA.map (·.add d)) (p.right.length - d) (ints (p.right.drop d)) := by
    have := (hx2.drop d rc (by omega) hx3).below hG2.2.2
    rwa [show (ints p.right).drop d = ints (p.right.drop d) by simp [ints]] at this
  have hsn : Hid (p.right.length - d = (p.right.drop d).length) := Lib.hid (by rw [List.length_drop])
  clear hFiA hFoA hOfA
  have hbW := Lib.hid hG2.2.2
  go_cut [10] (fun s10 wx => ∃ L A2 c2, s10 = .slice A2 L.length c2 ∧ BSet g p d L ∧ SetAt wx g.toks.length A2 L.length c2 L ∧ Below W.heap.size W wx)
  case first =>
    by_cases hdl : d < p.right.length
    · have hsd : (ints p.right)[d]? = some (.int .i64 (p.right.getD d 0)) := by simp [ints, hdl]
      obtain ⟨rb, roff, hRA, _, _⟩ := hx2.get hsd
      subst hRA
      have hcap : ¬ rc = d := by omega
      have hadd : (some (⟨rb, roff, none⟩ : Addr)).map (·.add d) = some ⟨rb, roff + d, none⟩ := by rw [Option.map_some, add_off]
      rw [if_neg hcap, hadd] at hx2d
      clear hadd hsd
      have hT : Hid (∀ bf ss W', Below W.heap.size W W' → SetsA W' bf g.names.length g.toks.length ss → SetsFit g.k.toNat ss → Calls Tryz.prog 41 #[.agg #[.int .i64 g.k, .slice ta g.toks.length tc, .string g.sep, .slice na g.names.length nc, .int .i64 g.start, .slice (some ⟨b, off, none⟩) g.prods.length pc], .slice (some ⟨bf, 0, none⟩) g.names.length g.names.length, .slice (some ⟨rb, roff + d, none⟩) (p.right.length - d) (rc - d)] W' (RetSt g.toks.length (tailL g.k.toNat ss (p.right.drop d)) W')) :=
        Lib.hid fun bf ss W' hb hS hf => hOf.out bf ss _ _ _ W' hsn.out (((hx2d.mono (by omega)).below hb).mono hb.size) hb hS hf
      have hAll : Hid (∀ w', Below W.heap.size W w' → w'.cell? ⟨w.heap.size, 0, none⟩ = some (.int .i64 g.k) ∧ w'.cell? ⟨w.heap.size, 1, none⟩ = some (.slice ta g.toks.length tc) ∧ w'.cell? ⟨w.heap.size, 2, none⟩ = some (.string g.sep) ∧ w'.cell? ⟨w.heap.size, 3, none⟩ = some (.slice na g.names.length nc) ∧ w'.cell? ⟨w.heap.size, 4, none⟩ = some (.int .i64 g.start) ∧ w'.cell? ⟨w.heap.size, 5, none⟩ = some (.slice (some ⟨b, off, none⟩) g.prods.length pc) ∧ w'.cell? ⟨gp, 0, none⟩ = some (.int .i64 p.left) ∧ w'.cell? ⟨gp, 1, none⟩ = some (.slice (some ⟨rb, roff, none⟩) p.right.length rc) ∧ Below W.heap.size W w') := Lib.hid fun w' h => ⟨cell_later h c0, cell_later h c1, cell_later h c2, cell_later h c3, cell_later h c4, cell_later h c5, cell_later h p0, cell_later h p1, h⟩
      clear hOf hx2d hx2 q7 hG2 c0 c1 c2 c3 c4 c5 p0 p1 hfewR hP hbW
      refine wp_region_held_drew (S := (fun w' => w'.cell? ⟨w.heap.size, 0, none⟩ = some (.int .i64 g.k) ∧ w'.cell? ⟨w.heap.size, 1, none⟩ = some (.slice ta g.toks.length tc) ∧ w'.cell? ⟨w.heap.size, 2, none⟩ = some (.string g.sep) ∧ w'.cell? ⟨w.heap.size, 3, none⟩ = some (.slice na g.names.length nc) ∧ w'.cell? ⟨w.heap.size, 4, none⟩ = some (.int .i64 g.start) ∧ w'.cell? ⟨w.heap.size, 5, none⟩ = some (.slice (some ⟨b, off, none⟩) g.prods.length pc) ∧ w'.cell? ⟨gp, 0, none⟩ = some (.int .i64 p.left) ∧ w'.cell? ⟨gp, 1, none⟩ = some (.slice (some ⟨rb, roff, none⟩) p.right.length rc) ∧ Below W.heap.size W w')) (by kernel_rfl) (hAll.out _ (bDrw (Below.refl _ _))) (fun hHeld => ?_)
      refine wpAnyH_take (i := 0) (oi := ⟨some 47, _, _, _, _, _⟩) (v := ?vba1) rfl (by kernel_rfl) (by kernel_rfl) (by kernel_rfl) (fun _ _ _ h => h) (Or.inl ⟨by rfl, ?hyba1⟩) (by assumption) ?restba1
      case hyba1 => (intro w hSw; (try dsimp only at hSw); go_simp <;> with_reducible rfl)
      try simp only [Act.put, List.setIfInBounds_toArray, List.set_cons_zero, List.set_cons_succ]
      refine wpAnyH_take (i := 1) (oi := ⟨some 48, _, _, _, _, _⟩) (v := ?vba2) rfl (by kernel_rfl) (by kernel_rfl) (by kernel_rfl) (fun _ _ _ h => h) (Or.inl ⟨by rfl, ?hyba2⟩) (by assumption) ?restba2
      case hyba2 => (intro w hSw; (try dsimp only at hSw); go_simp <;> with_reducible rfl)
      try simp only [Act.put, List.setIfInBounds_toArray, List.set_cons_zero, List.set_cons_succ]
      refine wpAnyH_take (i := 2) (oi := ⟨some 49, _, _, _, _, _⟩) (v := ?vba3) rfl (by kernel_rfl) (by kernel_rfl) (by kernel_rfl) (fun _ _ _ h => h) (Or.inl ⟨by rfl, ?hyba3⟩) (by assumption) ?restba3
      case hyba3 => (intro w hSw; (try dsimp only at hSw); go_simp <;> with_reducible rfl)
      try simp only [Act.put, List.setIfInBounds_toArray, List.set_cons_zero, List.set_cons_succ]
      refine wpAnyH_take (i := 3) (oi := ⟨some 50, _, _, _, _, _⟩) (v := ?vba4) rfl (by kernel_rfl) (by kernel_rfl) (by kernel_rfl) (fun _ _ _ h => h) (Or.inl ⟨by rfl, ?hyba4⟩) (by assumption) ?restba4
      case hyba4 => (intro w hSw; (try dsimp only at hSw); go_simp <;> with_reducible rfl)
      try simp only [Act.put, List.setIfInBounds_toArray, List.set_cons_zero, List.set_cons_succ]
      refine wpAnyH_take (i := 4) (oi := ⟨some 51, _, _, _, _, _⟩) (v := ?vba5) rfl (by kernel_rfl) (by kernel_rfl) (by kernel_rfl) (fun _ _ _ h => h) (Or.inl ⟨by rfl, ?hyba5⟩) (by assumption) ?restba5
      case hyba5 => (intro w hSw; (try dsimp only at hSw); go_simp <;> with_reducible rfl)
      try simp only [Act.put, List.setIfInBounds_toArray, List.set_cons_zero, List.set_cons_succ]
      refine wpAnyH_take (i := 5) (oi := ⟨some 52, _, _, _, _, _⟩) (v := ?vba6) rfl (by kernel_rfl) (by kernel_rfl) (by kernel_rfl) (fun _ _ _ h => h) (Or.inl ⟨by rfl, ?hyba6⟩) (by assumption) ?restba6
      case hyba6 => (intro w hSw; (try dsimp only at hSw); go_simp <;> with_reducible rfl)
      try simp only [Act.put, List.setIfInBounds_toArray, List.set_cons_zero, List.set_cons_succ]
      refine wpAnyH_take (i := 6) (oi := ⟨some 53, _, _, _, _, _⟩) (v := ?vba7) rfl (by kernel_rfl) (by kernel_rfl) (by kernel_rfl) (fun _ _ _ h => h) (Or.inl ⟨by rfl, ?hyba7⟩) (by assumption) ?restba7
      case hyba7 => (intro w hSw; (try dsimp only at hSw); go_simp <;> with_reducible rfl)
      try simp only [Act.put, List.setIfInBounds_toArray, List.set_cons_zero, List.set_cons_succ]
      refine wpAnyH_take (i := 8) (oi := ⟨some 55, _, _, _, _, _⟩) (v := ?vba8) rfl (by kernel_rfl) (by kernel_rfl) (by kernel_rfl) (fun _ _ _ h => h) (Or.inl ⟨by rfl, ?hyba8⟩) (by assumption) ?restba8
      case hyba8 => (intro w hSw; (try dsimp only at hSw); go_simp <;> with_reducible rfl)
      try simp only [Act.put, List.setIfInBounds_toArray, List.set_cons_zero, List.set_cons_succ]
      refine wpAnyH_take (i := 9) (oi := ⟨some 56, _, _, _, _, _⟩) (v := ?vba9) rfl (by kernel_rfl) (by kernel_rfl) (by kernel_rfl) (fun _ _ _ h => h) (Or.inl ⟨by rfl, ?hyba9⟩) (by assumption) ?restba9
      case hyba9 => (intro w hSw; (try dsimp only at hSw); go_simp <;> with_reducible rfl)
      try simp only [Act.put, List.setIfInBounds_toArray, List.set_cons_zero, List.set_cons_succ]
      refine wpAnyH_take (i := 10) (oi := ⟨some 57, _, _, _, _, _⟩) (v := ?vba10) rfl (by kernel_rfl) (by kernel_rfl) (by kernel_rfl) (fun _ _ _ h => h) (Or.inl ⟨by rfl, ?hyba10⟩) (by assumption) ?restba10
      case hyba10 => (intro w hSw; (try dsimp only at hSw); go_simp <;> with_reducible rfl)
      try simp only [Act.put, List.setIfInBounds_toArray, List.set_cons_zero, List.set_cons_succ]
      refine wpAnyH_take (i := 11) (oi := ⟨some 58, _, _, _, _, _⟩) (v := ?vba11) rfl (by kernel_rfl) (by kernel_rfl) (by kernel_rfl) (fun _ _ _ h => h) (Or.inl ⟨by rfl, ?hyba11⟩) (by assumption) ?restba11
      case hyba11 => (intro w hSw; (try dsimp only at hSw); go_simp <;> with_reducible rfl)
      try simp only [Act.put, List.setIfInBounds_toArray, List.set_cons_zero, List.set_cons_succ]
      refine wpAnyH_take (i := 13) (oi := ⟨some 60, _, _, _, _, _⟩) (v := ?vba12) rfl (by kernel_rfl) (by kernel_rfl) (by kernel_rfl) (fun _ _ _ h => h) (Or.inl ⟨by rfl, ?hyba12⟩) (by assumption) ?restba12
      case hyba12 => (intro w hSw; (try dsimp only at hSw); go_simp <;> with_reducible rfl)
      try simp only [Act.put, List.setIfInBounds_toArray, List.set_cons_zero, List.set_cons_succ]
      refine wpAnyH_take (i := 15) (oi := ⟨some 62, _, _, _, _, _⟩) (v := ?vba13) rfl (by kernel_rfl) (by kernel_rfl) (by kernel_rfl) (fun _ _ _ h => h) (Or.inl ⟨by rfl, ?hyba13⟩) (by assumption) ?restba13
      case hyba13 => (intro w hSw; (try dsimp only at hSw); go_simp <;> with_reducible rfl)
      try simp only [Act.put, List.setIfInBounds_toArray, List.set_cons_zero, List.set_cons_succ]
      refine wpAnyH_take (i := 16) (oi := ⟨some 63, _, _, _, _, _⟩) (v := ?vba14) rfl (by kernel_rfl) (by kernel_rfl) (by kernel_rfl) (fun _ _ _ h => h) (Or.inl ⟨by rfl, ?hyba14⟩) (by assumption) ?restba14
      case hyba14 => (intro w hSw; (try dsimp only at hSw); go_simp <;> with_reducible rfl)
      try simp only [Act.put, List.setIfInBounds_toArray, List.set_cons_zero, List.set_cons_succ]
      refine wpAnyH_take (i := 17) (oi := ⟨some 64, _, _, _, _, _⟩) (v := ?vba15) rfl (by kernel_rfl) (by kernel_rfl) (by kernel_rfl) (fun _ _ _ h => h) (Or.inl ⟨by rfl, ?hyba15⟩) (by assumption) ?restba15
      case hyba15 => (intro w hSw; (try dsimp only at hSw); go_simp <;> with_reducible rfl)
      try simp only [Act.put, List.setIfInBounds_toArray, List.set_cons_zero, List.set_cons_succ]
      refine wpAnyH_ready (rs := [7]) (by kernel_rfl) (by simp) ?_
      refine AllReadyH.cons (o := ⟨some 54, _, _, _, _, _⟩) rfl (fun K hK => ?_) ?_
      · go_simp
        go_at_call 42
        refine (hFi.out _ (by repeat (first | assumption | exact Below.refl _ _ | (refine bStep ?_ (by assumption)) | (with_reducible refine bAlc ?_ _) | (with_reducible refine bDrw ?_)))).mono ?_
        rintro e w1 ⟨bf, ss, rfl, hSf, _, hfit, hsnd, hcls, hb1⟩
        try have hcf := cell_later hb1 hcf
        go_wp2_with fail
        refine hK.out _ _ ?_ (fun hHeld => ?_)
        · (exact hAll.out _ (by repeat (first | assumption | exact Below.refl _ _ | (refine bStep ?_ (by assumption)) | (with_reducible refine bAlc ?_ _) | (with_reducible refine bDrw ?_))))
        clear hK K
        try simp only [Act.put, List.setIfInBounds_toArray, List.set_cons_zero, List.set_cons_succ]
        refine wpAnyH_ready (rs := [12]) (by kernel_rfl) (by simp) ?_
        refine AllReadyH.cons (o := ⟨some 59, _, _, _, _, _⟩) rfl (fun K hK => ?_) ?_
        · go_simp
          go_at_call 41
          refine (hT.out bf ss _ (by repeat (first | assumption | exact Below.refl _ _ | (refine bStep ?_ (by assumption)) | (with_reducible refine bAlc ?_ _) | (with_reducible refine bDrw ?_))) (hSf.step (by repeat (first | assumption | exact Below.refl _ _ | (refine bStep ?_ (by assumption)) | (with_reducible refine bAlc ?_ _) | (with_reducible refine bDrw ?_)))) hfit).mono ?_
          rintro e w3 ⟨A1, k1, rfl, hs1, hb3⟩
          try have hcf := cell_later hb3 hcf
          go_wp2_with fail
          refine hK.out _ _ ?_ (fun hHeld => ?_)
          · (exact hAll.out _ (by repeat (first | assumption | exact Below.refl _ _ | (refine bStep ?_ (by assumption)) | (with_reducible refine bAlc ?_ _) | (with_reducible refine bDrw ?_))))
          clear hK K
          try simp only [Act.put, List.setIfInBounds_toArray, List.set_cons_zero, List.set_cons_succ]
          refine wpAnyH_ready (rs := [14]) (by kernel_rfl) (by simp) ?_
          refine AllReadyH.cons (o := ⟨some 61, _, _, _, _, _⟩) rfl (fun K hK => ?_) ?_
          · go_simp
            go_at_call 43
            refine (hFo.out _ (by repeat (first | assumption | exact Below.refl _ _ | (refine bStep ?_ (by assumption)) | (with_reducible refine bAlc ?_ _) | (with_reducible refine bDrw ?_)))).mono ?_
            rintro e w2 ⟨bo, fs, ss2, rfl, hSo, f1, f2, f3, f4, f5, f6, hb2⟩
            obtain ⟨Xf, xcf, hcf, _, hXf⟩ := hSo.get jx hjxi
            go_wp2_with fail
            refine hK.out _ _ ?_ (fun hHeld => ?_)
            · (exact hAll.out _ (by repeat (first | assumption | exact Below.refl _ _ | (refine bStep ?_ (by assumption)) | (with_reducible refine bAlc ?_ _) | (with_reducible refine bDrw ?_))))
            clear hK K
            try simp only [Act.put, List.setIfInBounds_toArray, List.set_cons_zero, List.set_cons_succ]
            refine wpAnyH_take (i := 18) (oi := ⟨some 65, _, _, _, _, _⟩) (v := ?vba16) rfl (by kernel_rfl) (by kernel_rfl) (by kernel_rfl) (fun _ _ _ h => h) (Or.inl ⟨by rfl, ?hyba16⟩) (by assumption) ?restba16
            case hyba16 => (intro w hSw; (try dsimp only at hSw); go_simp <;> with_reducible rfl)
            try simp only [Act.put, List.setIfInBounds_toArray, List.set_cons_zero, List.set_cons_succ]
            refine wpAnyH_ready (rs := [19]) (by kernel_rfl) (by simp) ?_
            refine AllReadyH.cons (o := ⟨some 66, _, _, _, _, _⟩) rfl (fun K hK => ?_) ?_
            · go_simp
              refine hK.out _ _ ?_ (fun hHeld => ?_)
              · (exact hAll.out _ (by repeat (first | assumption | exact Below.refl _ _ | (refine bStep ?_ (by assumption)) | (with_reducible refine bAlc ?_ _) | (with_reducible refine bDrw ?_))))
              clear hK K
              try simp only [Act.put, List.setIfInBounds_toArray, List.set_cons_zero, List.set_cons_succ]
              refine wpAnyH_ready (rs := [20]) (by kernel_rfl) (by simp) ?_
              refine AllReadyH.cons (o := ⟨some 67, _, _, _, _, _⟩) rfl (fun K hK => ?_) ?_
              · go_simp
                go_at_call 40
                refine (hSm.out ss fs A1 k1 Xf xcf _ hfit f1 (hs1.step (by repeat (first | assumption | exact Below.refl _ _ | (refine bStep ?_ (by assumption)) | (with_reducible refine bAlc ?_ _) | (with_reducible refine bDrw ?_)))) (hXf.step (by repeat (first | assumption | exact Below.refl _ _ | (refine bStep ?_ (by assumption)) | (with_reducible refine bAlc ?_ _) | (with_reducible refine bDrw ?_))))).mono ?_
                rintro e w4 ⟨v4, rfl, ho4, hb4⟩
                obtain ⟨A4, k4, rfl, hs4⟩ := hOwn.out _ _ _ _ _ hfit hsnd f1 f2 ho4
                go_wp2_with fail
                refine hK.out _ _ ?_ (fun hHeld => ?_)
                · (exact hAll.out _ (by repeat (first | assumption | exact Below.refl _ _ | (refine bStep ?_ (by assumption)) | (with_reducible refine bAlc ?_ _) | (with_reducible refine bDrw ?_))))
                clear hK K
                try simp only [Act.put, List.setIfInBounds_toArray, List.set_cons_zero, List.set_cons_succ]
                refine wpAnyH_take (i := 21) (oi := ⟨some 46, _, _, _, _, _⟩) (v := ?vba17) rfl (by kernel_rfl) (by kernel_rfl) (by kernel_rfl) (fun _ _ _ h => h) (Or.inl ⟨by rfl, ?hyba17⟩) (by assumption) ?restba17
                case hyba17 => (intro w hSw; (try dsimp only at hSw); go_simp <;> with_reducible rfl)
                try simp only [Act.put, List.setIfInBounds_toArray, List.set_cons_zero, List.set_cons_succ]
                refine wpAnyH_take (i := 22) (oi := ⟨some 68, _, _, _, _, _⟩) (v := ?vba18) rfl (by kernel_rfl) (by kernel_rfl) (by kernel_rfl) (fun _ _ _ h => h) (Or.inl ⟨by rfl, ?hyba18⟩) (by assumption) ?restba18
                case hyba18 => (intro w hSw; (try dsimp only at hSw); go_simp <;> with_reducible rfl)
                try simp only [Act.put, List.setIfInBounds_toArray, List.set_cons_zero, List.set_cons_succ]
                refine wpAnyH_take (i := 23) (oi := ⟨some 69, _, _, _, _, _⟩) (v := ?vba19) rfl (by kernel_rfl) (by kernel_rfl) (by kernel_rfl) (fun _ _ _ h => h) (Or.inl ⟨by rfl, ?hyba19⟩) (by assumption) ?restba19
                case hyba19 => (intro w hSw; (try dsimp only at hSw); go_simp <;> with_reducible rfl)
                try simp only [Act.put, List.setIfInBounds_toArray, List.set_cons_zero, List.set_cons_succ]
                refine wpAnyH_take (i := 24) (oi := ⟨some 10, _, _, _, _, _⟩) (v := ?vba20) rfl (by kernel_rfl) (by kernel_rfl) (by kernel_rfl) (fun _ _ _ h => h) (Or.inl ⟨by rfl, ?hyba20⟩) (by assumption) ?restba20
                case hyba20 => (intro w hSw; (try dsimp only at hSw); go_simp <;> with_reducible rfl)
                try simp only [Act.put, List.setIfInBounds_toArray, List.set_cons_zero, List.set_cons_succ]
                refine wpAnyH_take (i := 25) (oi := ⟨some 11, _, _, _, _, _⟩) (v := ?vba21) rfl (by kernel_rfl) (by kernel_rfl) (by kernel_rfl) (fun _ _ _ h => h) (Or.inl ⟨by rfl, ?hyba21⟩) (by assumption) ?restba21
                case hyba21 => (intro w hSw; (try dsimp only at hSw); go_simp <;> with_reducible rfl)
                try simp only [Act.put, List.setIfInBounds_toArray, List.set_cons_zero, List.set_cons_succ]
                refine wpAnyH_done (by kernel_rfl) ?_ _
                go_wp2_with fail
                go_meet
                exact ⟨_, A4, k4, rfl, hBS.out _ _ _ hfit hsnd hcls f1 f2 f3 f4 f5 f6, hs4, (by repeat (first | assumption | exact Below.refl _ _ | (refine bStep ?_ (by assumption)) | (with_reducible refine bAlc ?_ _) | (with_reducible refine bDrw ?_)))⟩
              exact AllReadyH.nil
            exact AllReadyH.nil
          exact AllReadyH.nil
        exact AllReadyH.nil
      exact AllReadyH.nil
    · have hde : d = p.right.length := by omega
      have hT : Hid (∀ bf ss W' SA sn sc, sn = 0 → Below W.heap.size W W' → SetsA W' bf g.names.length g.toks.length ss → SetsFit g.k.toNat ss → Calls Tryz.prog 41 #[.agg #[.int .i64 g.k, .slice ta g.toks.length tc, .string g.sep, .slice na g.names.length nc, .int .i64 g.start, .slice (some ⟨b, off, none⟩) g.prods.length pc], .slice (some ⟨bf, 0, none⟩) g.names.length g.names.length, .slice SA sn sc] W' (RetSt g.toks.length (tailL g.k.toNat ss (p.right.drop d)) W')) :=
        Lib.hid fun bf ss W' SA sn sc h0 hb hS hf => hOf.out bf ss SA sn sc W' (by rw [← hsn.out]; omega) (by
          rw [h0, hde, List.drop_length]; exact ⟨rfl, .inl rfl⟩) hb hS hf
      clear hOf hx2d hx2 hsn hfewR hP hbW hdr hTfit
      generalize p.right.drop d = R at *
      subst hde
      by_cases hcap : rc = p.right.length
      · subst hcap
        have hAll : Hid (∀ w', Below W.heap.size W w' → w'.cell? ⟨w.heap.size, 0, none⟩ = some (.int .i64 g.k) ∧ w'.cell? ⟨w.heap.size, 1, none⟩ = some (.slice ta g.toks.length tc) ∧ w'.cell? ⟨w.heap.size, 2, none⟩ = some (.string g.sep) ∧ w'.cell? ⟨w.heap.size, 3, none⟩ = some (.slice na g.names.length nc) ∧ w'.cell? ⟨w.heap.size, 4, none⟩ = some (.int .i64 g.start) ∧ w'.cell? ⟨w.heap.size, 5, none⟩ = some (.slice (some ⟨b, off, none⟩) g.prods.length pc) ∧ w'.cell? ⟨gp, 0, none⟩ = some (.int .i64 p.left) ∧ w'.cell? ⟨gp, 1, none⟩ = some (.slice RA p.right.length p.right.length) ∧ Below W.heap.size W w') := Lib.hid fun w' h => ⟨cell_later h c0, cell_later h c1, cell_later h c2, cell_later h c3, cell_later h c4, cell_later h c5, cell_later h p0, cell_later h p1, h⟩
        clear q7 hG2 c0 c1 c2 c3 c4 c5 p0 p1
        refine wp_region_held_drew (S := (fun w' => w'.cell? ⟨w.heap.size, 0, none⟩ = some (.int .i64 g.k) ∧ w'.cell? ⟨w.heap.size, 1, none⟩ = some (.slice ta g.toks.length tc) ∧ w'.cell? ⟨w.heap.size, 2, none⟩ = some (.string g.sep) ∧ w'.cell? ⟨w.heap.size, 3, none⟩ = some (.slice na g.names.length nc) ∧ w'.cell? ⟨w.heap.size, 4, none⟩ = some (.int .i64 g.start) ∧ w'.cell? ⟨w.heap.size, 5, none⟩ = some (.slice (some ⟨b, off, none⟩) g.prods.length pc) ∧ w'.cell? ⟨gp, 0, none⟩ = some (.int .i64 p.left) ∧ w'.cell? ⟨gp, 1, none⟩ = some (.slice RA p.right.length p.right.length) ∧ Below W.heap.size W w')) (by kernel_rfl) (hAll.out _ (bDrw (Below.refl _ _))) (fun hHeld => ?_)
        refine wpAnyH_take (i := 0) (oi := ⟨some 47, _, _, _, _, _⟩) (v := ?vbb1) rfl (by kernel_rfl) (by kernel_rfl) (by kernel_rfl) (fun _ _ _ h => h) (Or.inl ⟨by rfl, ?hybb1⟩) (by assumption) ?restbb1
        case hybb1 => (intro w hSw; (try dsimp only at hSw); go_simp <;> with_reducible rfl)
        try simp only [Act.put, List.setIfInBounds_toArray, List.set_cons_zero, List.set_cons_succ]
        refine wpAnyH_take (i := 1) (oi := ⟨some 48, _, _, _, _, _⟩) (v := ?vbb2) rfl (by kernel_rfl) (by kernel_rfl) (by kernel_rfl) (fun _ _ _ h => h) (Or.inl ⟨by rfl, ?hybb2⟩) (by assumption) ?restbb2
        case hybb2 => (intro w hSw; (try dsimp only at hSw); go_simp <;> with_reducible rfl)
        try simp only [Act.put, List.setIfInBounds_toArray, List.set_cons_zero, List.set_cons_succ]
        refine wpAnyH_take (i := 2) (oi := ⟨some 49, _, _, _, _, _⟩) (v := ?vbb3) rfl (by kernel_rfl) (by kernel_rfl) (by kernel_rfl) (fun _ _ _ h => h) (Or.inl ⟨by rfl, ?hybb3⟩) (by assumption) ?restbb3
        case hybb3 => (intro w hSw; (try dsimp only at hSw); go_simp <;> with_reducible rfl)
        try simp only [Act.put, List.setIfInBounds_toArray, List.set_cons_zero, List.set_cons_succ]
        refine wpAnyH_take (i := 3) (oi := ⟨some 50, _, _, _, _, _⟩) (v := ?vbb4) rfl (by kernel_rfl) (by kernel_rfl) (by kernel_rfl) (fun _ _ _ h => h) (Or.inl ⟨by rfl, ?hybb4⟩) (by assumption) ?restbb4
        case hybb4 => (intro w hSw; (try dsimp only at hSw); go_simp <;> with_reducible rfl)
        try simp only [Act.put, List.setIfInBounds_toArray, List.set_cons_zero, List.set_cons_succ]
        refine wpAnyH_take (i := 4) (oi := ⟨some 51, _, _, _, _, _⟩) (v := ?vbb5) rfl (by kernel_rfl) (by kernel_rfl) (by kernel_rfl) (fun _ _ _ h => h) (Or.inl ⟨by rfl, ?hybb5⟩) (by assumption) ?restbb5
        case hybb5 => (intro w hSw; (try dsimp only at hSw); go_simp <;> with_reducible rfl)
        try simp only [Act.put, List.setIfInBounds_toArray, List.set_cons_zero, List.set_cons_succ]
        refine wpAnyH_take (i := 5) (oi := ⟨some 52, _, _, _, _, _⟩) (v := ?vbb6) rfl (by kernel_rfl) (by kernel_rfl) (by kernel_rfl) (fun _ _ _ h => h) (Or.inl ⟨by rfl, ?hybb6⟩) (by assumption) ?restbb6
        case hybb6 => (intro w hSw; (try dsimp only at hSw); go_simp <;> with_reducible rfl)
        try simp only [Act.put, List.setIfInBounds_toArray, List.set_cons_zero, List.set_cons_succ]
        refine wpAnyH_take (i := 6) (oi := ⟨some 53, _, _, _, _, _⟩) (v := ?vbb7) rfl (by kernel_rfl) (by kernel_rfl) (by kernel_rfl) (fun _ _ _ h => h) (Or.inl ⟨by rfl, ?hybb7⟩) (by assumption) ?restbb7
        case hybb7 => (intro w hSw; (try dsimp only at hSw); go_simp <;> with_reducible rfl)
        try simp only [Act.put, List.setIfInBounds_toArray, List.set_cons_zero, List.set_cons_succ]
        refine wpAnyH_take (i := 8) (oi := ⟨some 55, _, _, _, _, _⟩) (v := ?vbb8) rfl (by kernel_rfl) (by kernel_rfl) (by kernel_rfl) (fun _ _ _ h => h) (Or.inl ⟨by rfl, ?hybb8⟩) (by assumption) ?restbb8
        case hybb8 => (intro w hSw; (try dsimp only at hSw); go_simp <;> with_reducible rfl)
        try simp only [Act.put, List.setIfInBounds_toArray, List.set_cons_zero, List.set_cons_succ]
        refine wpAnyH_take (i := 9) (oi := ⟨some 56, _, _, _, _, _⟩) (v := ?vbb9) rfl (by kernel_rfl) (by kernel_rfl) (by kernel_rfl) (fun _ _ _ h => h) (Or.inl ⟨by rfl, ?hybb9⟩) (by assumption) ?restbb9
        case hybb9 => (intro w hSw; (try dsimp only at hSw); go_simp <;> with_reducible rfl)
        try simp only [Act.put, List.setIfInBounds_toArray, List.set_cons_zero, List.set_cons_succ]
        refine wpAnyH_take (i := 10) (oi := ⟨some 57, _, _, _, _, _⟩) (v := ?vbb10) rfl (by kernel_rfl) (by kernel_rfl) (by kernel_rfl) (fun _ _ _ h => h) (Or.inl ⟨by rfl, ?hybb10⟩) (by assumption) ?restbb10
        case hybb10 => (intro w hSw; (try dsimp only at hSw); go_simp <;> with_reducible rfl)
        try simp only [Act.put, List.setIfInBounds_toArray, List.set_cons_zero, List.set_cons_succ]
        refine wpAnyH_take (i := 11) (oi := ⟨some 58, _, _, _, _, _⟩) (v := ?vbb11) rfl (by kernel_rfl) (by kernel_rfl) (by kernel_rfl) (fun _ _ _ h => h) (Or.inl ⟨by rfl, ?hybb11⟩) (by assumption) ?restbb11
        case hybb11 => (intro w hSw; (try dsimp only at hSw); go_simp <;> with_reducible rfl)
        try simp only [Act.put, List.setIfInBounds_toArray, List.set_cons_zero, List.set_cons_succ]
        refine wpAnyH_take (i := 13) (oi := ⟨some 60, _, _, _, _, _⟩) (v := ?vbb12) rfl (by kernel_rfl) (by kernel_rfl) (by kernel_rfl) (fun _ _ _ h => h) (Or.inl ⟨by rfl, ?hybb12⟩) (by assumption) ?restbb12
        case hybb12 => (intro w hSw; (try dsimp only at hSw); go_simp <;> with_reducible rfl)
        try simp only [Act.put, List.setIfInBounds_toArray, List.set_cons_zero, List.set_cons_succ]
        refine wpAnyH_take (i := 15) (oi := ⟨some 62, _, _, _, _, _⟩) (v := ?vbb13) rfl (by kernel_rfl) (by kernel_rfl) (by kernel_rfl) (fun _ _ _ h => h) (Or.inl ⟨by rfl, ?hybb13⟩) (by assumption) ?restbb13
        case hybb13 => (intro w hSw; (try dsimp only at hSw); go_simp <;> with_reducible rfl)
        try simp only [Act.put, List.setIfInBounds_toArray, List.set_cons_zero, List.set_cons_succ]
        refine wpAnyH_take (i := 16) (oi := ⟨some 63, _, _, _, _, _⟩) (v := ?vbb14) rfl (by kernel_rfl) (by kernel_rfl) (by kernel_rfl) (fun _ _ _ h => h) (Or.inl ⟨by rfl, ?hybb14⟩) (by assumption) ?restbb14
        case hybb14 => (intro w hSw; (try dsimp only at hSw); go_simp <;> with_reducible rfl)
        try simp only [Act.put, List.setIfInBounds_toArray, List.set_cons_zero, List.set_cons_succ]
        refine wpAnyH_take (i := 17) (oi := ⟨some 64, _, _, _, _, _⟩) (v := ?vbb15) rfl (by kernel_rfl) (by kernel_rfl) (by kernel_rfl) (fun _ _ _ h => h) (Or.inl ⟨by rfl, ?hybb15⟩) (by assumption) ?restbb15
        case hybb15 => (intro w hSw; (try dsimp only at hSw); go_simp <;> with_reducible rfl)
        try simp only [Act.put, List.setIfInBounds_toArray, List.set_cons_zero, List.set_cons_succ]
        refine wpAnyH_ready (rs := [7]) (by kernel_rfl) (by simp) ?_
        refine AllReadyH.cons (o := ⟨some 54, _, _, _, _, _⟩) rfl (fun K hK => ?_) ?_
        · go_simp
          go_at_call 42
          refine (hFi.out _ (by repeat (first | assumption | exact Below.refl _ _ | (refine bStep ?_ (by assumption)) | (with_reducible refine bAlc ?_ _) | (with_reducible refine bDrw ?_)))).mono ?_
          rintro e w1 ⟨bf, ss, rfl, hSf, _, hfit, hsnd, hcls, hb1⟩
          try have hcf := cell_later hb1 hcf
          go_wp2_with fail
          refine hK.out _ _ ?_ (fun hHeld => ?_)
          · (exact hAll.out _ (by repeat (first | assumption | exact Below.refl _ _ | (refine bStep ?_ (by assumption)) | (with_reducible refine bAlc ?_ _) | (with_reducible refine bDrw ?_))))
          clear hK K
          try simp only [Act.put, List.setIfInBounds_toArray, List.set_cons_zero, List.set_cons_succ]
          refine wpAnyH_ready (rs := [12]) (by kernel_rfl) (by simp) ?_
          refine AllReadyH.cons (o := ⟨some 59, _, _, _, _, _⟩) rfl (fun K hK => ?_) ?_
          · go_simp
            go_at_call 41
            refine (hT.out bf ss _ _ _ _ (by first | rfl | omega) (by repeat (first | assumption | exact Below.refl _ _ | (refine bStep ?_ (by assumption)) | (with_reducible refine bAlc ?_ _) | (with_reducible refine bDrw ?_))) (hSf.step (by repeat (first | assumption | exact Below.refl _ _ | (refine bStep ?_ (by assumption)) | (with_reducible refine bAlc ?_ _) | (with_reducible refine bDrw ?_)))) hfit).mono ?_
            rintro e w3 ⟨A1, k1, rfl, hs1, hb3⟩
            try have hcf := cell_later hb3 hcf
            go_wp2_with fail
            refine hK.out _ _ ?_ (fun hHeld => ?_)
            · (exact hAll.out _ (by repeat (first | assumption | exact Below.refl _ _ | (refine bStep ?_ (by assumption)) | (with_reducible refine bAlc ?_ _) | (with_reducible refine bDrw ?_))))
            clear hK K
            try simp only [Act.put, List.setIfInBounds_toArray, List.set_cons_zero, List.set_cons_succ]
            refine wpAnyH_ready (rs := [14]) (by kernel_rfl) (by simp) ?_
            refine AllReadyH.cons (o := ⟨some 61, _, _, _, _, _⟩) rfl (fun K hK => ?_) ?_
            · go_simp
              go_at_call 43
              refine (hFo.out _ (by repeat (first | assumption | exact Below.refl _ _ | (refine bStep ?_ (by assumption)) | (with_reducible refine bAlc ?_ _) | (with_reducible refine bDrw ?_)))).mono ?_
              rintro e w2 ⟨bo, fs, ss2, rfl, hSo, f1, f2, f3, f4, f5, f6, hb2⟩
              obtain ⟨Xf, xcf, hcf, _, hXf⟩ := hSo.get jx hjxi
              go_wp2_with fail
              refine hK.out _ _ ?_ (fun hHeld => ?_)
              · (exact hAll.out _ (by repeat (first | assumption | exact Below.refl _ _ | (refine bStep ?_ (by assumption)) | (with_reducible refine bAlc ?_ _) | (with_reducible refine bDrw ?_))))
              clear hK K
              try simp only [Act.put, List.setIfInBounds_toArray, List.set_cons_zero, List.set_cons_succ]
              refine wpAnyH_take (i := 18) (oi := ⟨some 65, _, _, _, _, _⟩) (v := ?vbb16) rfl (by kernel_rfl) (by kernel_rfl) (by kernel_rfl) (fun _ _ _ h => h) (Or.inl ⟨by rfl, ?hybb16⟩) (by assumption) ?restbb16
              case hybb16 => (intro w hSw; (try dsimp only at hSw); go_simp <;> with_reducible rfl)
              try simp only [Act.put, List.setIfInBounds_toArray, List.set_cons_zero, List.set_cons_succ]
              refine wpAnyH_ready (rs := [19]) (by kernel_rfl) (by simp) ?_
              refine AllReadyH.cons (o := ⟨some 66, _, _, _, _, _⟩) rfl (fun K hK => ?_) ?_
              · go_simp
                refine hK.out _ _ ?_ (fun hHeld => ?_)
                · (exact hAll.out _ (by repeat (first | assumption | exact Below.refl _ _ | (refine bStep ?_ (by assumption)) | (with_reducible refine bAlc ?_ _) | (with_reducible refine bDrw ?_))))
                clear hK K
                try simp only [Act.put, List.setIfInBounds_toArray, List.set_cons_zero, List.set_cons_succ]
                refine wpAnyH_ready (rs := [20]) (by kernel_rfl) (by simp) ?_
                refine AllReadyH.cons (o := ⟨some 67, _, _, _, _, _⟩) rfl (fun K hK => ?_) ?_
                · go_simp
                  go_at_call 40
                  refine (hSm.out ss fs A1 k1 Xf xcf _ hfit f1 (hs1.step (by repeat (first | assumption | exact Below.refl _ _ | (refine bStep ?_ (by assumption)) | (with_reducible refine bAlc ?_ _) | (with_reducible refine bDrw ?_)))) (hXf.step (by repeat (first | assumption | exact Below.refl _ _ | (refine bStep ?_ (by assumption)) | (with_reducible refine bAlc ?_ _) | (with_reducible refine bDrw ?_))))).mono ?_
                  rintro e w4 ⟨v4, rfl, ho4, hb4⟩
                  obtain ⟨A4, k4, rfl, hs4⟩ := hOwn.out _ _ _ _ _ hfit hsnd f1 f2 ho4
                  go_wp2_with fail
                  refine hK.out _ _ ?_ (fun hHeld => ?_)
                  · (exact hAll.out _ (by repeat (first | assumption | exact Below.refl _ _ | (refine bStep ?_ (by assumption)) | (with_reducible refine bAlc ?_ _) | (with_reducible refine bDrw ?_))))
                  clear hK K
                  try simp only [Act.put, List.setIfInBounds_toArray, List.set_cons_zero, List.set_cons_succ]
                  refine wpAnyH_take (i := 21) (oi := ⟨some 46, _, _, _, _, _⟩) (v := ?vbb17) rfl (by kernel_rfl) (by kernel_rfl) (by kernel_rfl) (fun _ _ _ h => h) (Or.inl ⟨by rfl, ?hybb17⟩) (by assumption) ?restbb17
                  case hybb17 => (intro w hSw; (try dsimp only at hSw); go_simp <;> with_reducible rfl)
                  try simp only [Act.put, List.setIfInBounds_toArray, List.set_cons_zero, List.set_cons_succ]
                  refine wpAnyH_take (i := 22) (oi := ⟨some 68, _, _, _, _, _⟩) (v := ?vbb18) rfl (by kernel_rfl) (by kernel_rfl) (by kernel_rfl) (fun _ _ _ h => h) (Or.inl ⟨by rfl, ?hybb18⟩) (by assumption) ?restbb18
                  case hybb18 => (intro w hSw; (try dsimp only at hSw); go_simp <;> with_reducible rfl)
                  try simp only [Act.put, List.setIfInBounds_toArray, List.set_cons_zero, List.set_cons_succ]
                  refine wpAnyH_take (i := 23) (oi := ⟨some 69, _, _, _, _, _⟩) (v := ?vbb19) rfl (by kernel_rfl) (by kernel_rfl) (by kernel_rfl) (fun _ _ _ h => h) (Or.inl ⟨by rfl, ?hybb19⟩) (by assumption) ?restbb19
                  case hybb19 => (intro w hSw; (try dsimp only at hSw); go_simp <;> with_reducible rfl)
                  try simp only [Act.put, List.setIfInBounds_toArray, List.set_cons_zero, List.set_cons_succ]
                  refine wpAnyH_take (i := 24) (oi := ⟨some 10, _, _, _, _, _⟩) (v := ?vbb20) rfl (by kernel_rfl) (by kernel_rfl) (by kernel_rfl) (fun _ _ _ h => h) (Or.inl ⟨by rfl, ?hybb20⟩) (by assumption) ?restbb20
                  case hybb20 => (intro w hSw; (try dsimp only at hSw); go_simp <;> with_reducible rfl)
                  try simp only [Act.put, List.setIfInBounds_toArray, List.set_cons_zero, List.set_cons_succ]
                  refine wpAnyH_take (i := 25) (oi := ⟨some 11, _, _, _, _, _⟩) (v := ?vbb21) rfl (by kernel_rfl) (by kernel_rfl) (by kernel_rfl) (fun _ _ _ h => h) (Or.inl ⟨by rfl, ?hybb21⟩) (by assumption) ?restbb21
                  case hybb21 => (intro w hSw; (try dsimp only at hSw); go_simp <;> with_reducible rfl)
                  try simp only [Act.put, List.setIfInBounds_toArray, List.set_cons_zero, List.set_cons_succ]
                  refine wpAnyH_done (by kernel_rfl) ?_ _
                  go_wp2_with fail
                  go_meet
                  exact ⟨_, A4, k4, rfl, hBS.out _ _ _ hfit hsnd hcls f1 f2 f3 f4 f5 f6, hs4, (by repeat (first | assumption | exact Below.refl _ _ | (refine bStep ?_ (by assumption)) | (with_reducible refine bAlc ?_ _) | (with_reducible refine bDrw ?_)))⟩
                exact AllReadyH.nil
              exact AllReadyH.nil
            exact AllReadyH.nil
          exact AllReadyH.nil
        exact AllReadyH.nil
      · have hAll : Hid (∀ w', Below W.heap.size W w' → w'.cell? ⟨w.heap.size, 0, none⟩ = some (.int .i64 g.k) ∧ w'.cell? ⟨w.heap.size, 1, none⟩ = some (.slice ta g.toks.length tc) ∧ w'.cell? ⟨w.heap.size, 2, none⟩ = some (.string g.sep) ∧ w'.cell? ⟨w.heap.size, 3, none⟩ = some (.slice na g.names.length nc) ∧ w'.cell? ⟨w.heap.size, 4, none⟩ = some (.int .i64 g.start) ∧ w'.cell? ⟨w.heap.size, 5, none⟩ = some (.slice (some ⟨b, off, none⟩) g.prods.length pc) ∧ w'.cell? ⟨gp, 0, none⟩ = some (.int .i64 p.left) ∧ w'.cell? ⟨gp, 1, none⟩ = some (.slice RA p.right.length rc) ∧ Below W.heap.size W w') := Lib.hid fun w' h => ⟨cell_later h c0, cell_later h c1, cell_later h c2, cell_later h c3, cell_later h c4, cell_later h c5, cell_later h p0, cell_later h p1, h⟩
        clear q7 hG2 c0 c1 c2 c3 c4 c5 p0 p1
        refine wp_region_held_drew (S := (fun w' => w'.cell? ⟨w.heap.size, 0, none⟩ = some (.int .i64 g.k) ∧ w'.cell? ⟨w.heap.size, 1, none⟩ = some (.slice ta g.toks.length tc) ∧ w'.cell? ⟨w.heap.size, 2, none⟩ = some (.string g.sep) ∧ w'.cell? ⟨w.heap.size, 3, none⟩ = some (.slice na g.names.length nc) ∧ w'.cell? ⟨w.heap.size, 4, none⟩ = some (.int .i64 g.start) ∧ w'.cell? ⟨w.heap.size, 5, none⟩ = some (.slice (some ⟨b, off, none⟩) g.prods.length pc) ∧ w'.cell? ⟨gp, 0, none⟩ = some (.int .i64 p.left) ∧ w'.cell? ⟨gp, 1, none⟩ = some (.slice RA p.right.length rc) ∧ Below W.heap.size W w')) (by kernel_rfl) (hAll.out _ (bDrw (Below.refl _ _))) (fun hHeld => ?_)
        refine wpAnyH_take (i := 0) (oi := ⟨some 47, _, _, _, _, _⟩) (v := ?vbc1) rfl (by kernel_rfl) (by kernel_rfl) (by kernel_rfl) (fun _ _ _ h => h) (Or.inl ⟨by rfl, ?hybc1⟩) (by assumption) ?restbc1
        case hybc1 => (intro w hSw; (try dsimp only at hSw); go_simp <;> with_reducible rfl)
        try simp only [Act.put, List.setIfInBounds_toArray, List.set_cons_zero, List.set_cons_succ]
        refine wpAnyH_take (i := 1) (oi := ⟨some 48, _, _, _, _, _⟩) (v := ?vbc2) rfl (by kernel_rfl) (by kernel_rfl) (by kernel_rfl) (fun _ _ _ h => h) (Or.inl ⟨by rfl, ?hybc2⟩) (by assumption) ?restbc2
        case hybc2 => (intro w hSw; (try dsimp only at hSw); go_simp <;> with_reducible rfl)
        try simp only [Act.put, List.setIfInBounds_toArray, List.set_cons_zero, List.set_cons_succ]
        refine wpAnyH_take (i := 2) (oi := ⟨some 49, _, _, _, _, _⟩) (v := ?vbc3) rfl (by kernel_rfl) (by kernel_rfl) (by kernel_rfl) (fun _ _ _ h => h) (Or.inl ⟨by rfl, ?hybc3⟩) (by assumption) ?restbc3
        case hybc3 => (intro w hSw; (try dsimp only at hSw); go_simp <;> with_reducible rfl)
        try simp only [Act.put, List.setIfInBounds_toArray, List.set_cons_zero, List.set_cons_succ]
        refine wpAnyH_take (i := 3) (oi := ⟨some 50, _, _, _, _, _⟩) (v := ?vbc4) rfl (by kernel_rfl) (by kernel_rfl) (by kernel_rfl) (fun _ _ _ h => h) (Or.inl ⟨by rfl, ?hybc4⟩) (by assumption) ?restbc4
        case hybc4 => (intro w hSw; (try dsimp only at hSw); go_simp <;> with_reducible rfl)
        try simp only [Act.put, List.setIfInBounds_toArray, List.set_cons_zero, List.set_cons_succ]
        refine wpAnyH_take (i := 4) (oi := ⟨some 51, _, _, _, _, _⟩) (v := ?vbc5) rfl (by kernel_rfl) (by kernel_rfl) (by kernel_rfl) (fun _ _ _ h => h) (Or.inl ⟨by rfl, ?hybc5⟩) (by assumption) ?restbc5
        case hybc5 => (intro w hSw; (try dsimp only at hSw); go_simp <;> with_reducible rfl)
        try simp only [Act.put, List.setIfInBounds_toArray, List.set_cons_zero, List.set_cons_succ]
        refine wpAnyH_take (i := 5) (oi := ⟨some 52, _, _, _, _, _⟩) (v := ?vbc6) rfl (by kernel_rfl) (by kernel_rfl) (by kernel_rfl) (fun _ _ _ h => h) (Or.inl ⟨by rfl, ?hybc6⟩) (by assumption) ?restbc6
        case hybc6 => (intro w hSw; (try dsimp only at hSw); go_simp <;> with_reducible rfl)
        try simp only [Act.put, List.setIfInBounds_toArray, List.set_cons_zero, List.set_cons_succ]
        refine wpAnyH_take (i := 6) (oi := ⟨some 53, _, _, _, _, _⟩) (v := ?vbc7) rfl (by kernel_rfl) (by kernel_rfl) (by kernel_rfl) (fun _ _ _ h => h) (Or.inl ⟨by rfl, ?hybc7⟩) (by assumption) ?restbc7
        case hybc7 => (intro w hSw; (try dsimp only at hSw); go_simp <;> with_reducible rfl)
        try simp only [Act.put, List.setIfInBounds_toArray, List.set_cons_zero, List.set_cons_succ]
        refine wpAnyH_take (i := 8) (oi := ⟨some 55, _, _, _, _, _⟩) (v := ?vbc8) rfl (by kernel_rfl) (by kernel_rfl) (by kernel_rfl) (fun _ _ _ h => h) (Or.inl ⟨by rfl, ?hybc8⟩) (by assumption) ?restbc8
        case hybc8 => (intro w hSw; (try dsimp only at hSw); go_simp <;> with_reducible rfl)
        try simp only [Act.put, List.setIfInBounds_toArray, List.set_cons_zero, List.set_cons_succ]
        refine wpAnyH_take (i := 9) (oi := ⟨some 56, _, _, _, _, _⟩) (v := ?vbc9) rfl (by kernel_rfl) (by kernel_rfl) (by kernel_rfl) (fun _ _ _ h => h) (Or.inl ⟨by rfl, ?hybc9⟩) (by assumption) ?restbc9
        case hybc9 => (intro w hSw; (try dsimp only at hSw); go_simp <;> with_reducible rfl)
        try simp only [Act.put, List.setIfInBounds_toArray, List.set_cons_zero, List.set_cons_succ]
        refine wpAnyH_take (i := 10) (oi := ⟨some 57, _, _, _, _, _⟩) (v := ?vbc10) rfl (by kernel_rfl) (by kernel_rfl) (by kernel_rfl) (fun _ _ _ h => h) (Or.inl ⟨by rfl, ?hybc10⟩) (by assumption) ?restbc10
        case hybc10 => (intro w hSw; (try dsimp only at hSw); go_simp <;> with_reducible rfl)
        try simp only [Act.put, List.setIfInBounds_toArray, List.set_cons_zero, List.set_cons_succ]
        refine wpAnyH_take (i := 11) (oi := ⟨some 58, _, _, _, _, _⟩) (v := ?vbc11) rfl (by kernel_rfl) (by kernel_rfl) (by kernel_rfl) (fun _ _ _ h => h) (Or.inl ⟨by rfl, ?hybc11⟩) (by assumption) ?restbc11
        case hybc11 => (intro w hSw; (try dsimp only at hSw); go_simp <;> with_reducible rfl)
        try simp only [Act.put, List.setIfInBounds_toArray, List.set_cons_zero, List.set_cons_succ]
        refine wpAnyH_take (i := 13) (oi := ⟨some 60, _, _, _, _, _⟩) (v := ?vbc12) rfl (by kernel_rfl) (by kernel_rfl) (by kernel_rfl) (fun _ _ _ h => h) (Or.inl ⟨by rfl, ?hybc12⟩) (by assumption) ?restbc12
        case hybc12 => (intro w hSw; (try dsimp only at hSw); go_simp <;> with_reducible rfl)
        try simp only [Act.put, List.setIfInBounds_toArray, List.set_cons_zero, List.set_cons_succ]
        refine wpAnyH_take (i := 15) (oi := ⟨some 62, _, _, _, _, _⟩) (v := ?vbc13) rfl (by kernel_rfl) (by kernel_rfl) (by kernel_rfl) (fun _ _ _ h => h) (Or.inl ⟨by rfl, ?hybc13⟩) (by assumption) ?restbc13
        case hybc13 => (intro w hSw; (try dsimp only at hSw); go_simp <;> with_reducible rfl)
        try simp only [Act.put, List.setIfInBounds_toArray, List.set_cons_zero, List.set_cons_succ]
        refine wpAnyH_take (i := 16) (oi := ⟨some 63, _, _, _, _, _⟩) (v := ?vbc14) rfl (by kernel_rfl) (by kernel_rfl) (by kernel_rfl) (fun _ _ _ h => h) (Or.inl ⟨by rfl, ?hybc14⟩) (by assumption) ?restbc14
        case hybc14 => (intro w hSw; (try dsimp only at hSw); go_simp <;> with_reducible rfl)
        try simp only [Act.put, List.setIfInBounds_toArray, List.set_cons_zero, List.set_cons_succ]
        refine wpAnyH_take (i := 17) (oi := ⟨some 64, _, _, _, _, _⟩) (v := ?vbc15) rfl (by kernel_rfl) (by kernel_rfl) (by kernel_rfl) (fun _ _ _ h => h) (Or.inl ⟨by rfl, ?hybc15⟩) (by assumption) ?restbc15
        case hybc15 => (intro w hSw; (try dsimp only at hSw); go_simp <;> with_reducible rfl)
        try simp only [Act.put, List.setIfInBounds_toArray, List.set_cons_zero, List.set_cons_succ]
        refine wpAnyH_ready (rs := [7]) (by kernel_rfl) (by simp) ?_
        refine AllReadyH.cons (o := ⟨some 54, _, _, _, _, _⟩) rfl (fun K hK => ?_) ?_
        · go_simp
          go_at_call 42
          refine (hFi.out _ (by repeat (first | assumption | exact Below.refl _ _ | (refine bStep ?_ (by assumption)) | (with_reducible refine bAlc ?_ _) | (with_reducible refine bDrw ?_)))).mono ?_
          rintro e w1 ⟨bf, ss, rfl, hSf, _, hfit, hsnd, hcls, hb1⟩
          try have hcf := cell_later hb1 hcf
          go_wp2_with fail
          refine hK.out _ _ ?_ (fun hHeld => ?_)
          · (exact hAll.out _ (by repeat (first | assumption | exact Below.refl _ _ | (refine bStep ?_ (by assumption)) | (with_reducible refine bAlc ?_ _) | (with_reducible refine bDrw ?_))))
          clear hK K
          try simp only [Act.put, List.setIfInBounds_toArray, List.set_cons_zero, List.set_cons_succ]
          refine wpAnyH_ready (rs := [12]) (by kernel_rfl) (by simp) ?_
          refine AllReadyH.cons (o := ⟨some 59, _, _, _, _, _⟩) rfl (fun K hK => ?_) ?_
          · go_simp
            go_at_call 41
            refine (hT.out bf ss _ _ _ _ (by first | rfl | omega) (by repeat (first | assumption | exact Below.refl _ _ | (refine bStep ?_ (by assumption)) | (with_reducible refine bAlc ?_ _) | (with_reducible refine bDrw ?_))) (hSf.step (by repeat (first | assumption | exact Below.refl _ _ | (refine bStep ?_ (by assumption)) | (with_reducible refine bAlc ?_ _) | (with_reducible refine bDrw ?_)))) hfit).mono ?_
            rintro e w3 ⟨A1, k1, rfl, hs1, hb3⟩
            try have hcf := cell_later hb3 hcf
            go_wp2_with fail
            refine hK.out _ _ ?_ (fun hHeld => ?_)
            · (exact hAll.out _ (by repeat (first | assumption | exact Below.refl _ _ | (refine bStep ?_ (by assumption)) | (with_reducible refine bAlc ?_ _) | (with_reducible refine bDrw ?_))))
            clear hK K
            try simp only [Act.put, List.setIfInBounds_toArray, List.set_cons_zero, List.set_cons_succ]
            refine wpAnyH_ready (rs := [14]) (by kernel_rfl) (by simp) ?_
            refine AllReadyH.cons (o := ⟨some 61, _, _, _, _, _⟩) rfl (fun K hK => ?_) ?_
            · go_simp
              go_at_call 43
              refine (hFo.out _ (by repeat (first | assumption | exact Below.refl _ _ | (refine bStep ?_ (by assumption)) | (with_reducible refine bAlc ?_ _) | (with_reducible refine bDrw ?_)))).mono ?_
              rintro e w2 ⟨bo, fs, ss2, rfl, hSo, f1, f2, f3, f4, f5, f6, hb2⟩
              obtain ⟨Xf, xcf, hcf, _, hXf⟩ := hSo.get jx hjxi
              go_wp2_with fail
              refine hK.out _ _ ?_ (fun hHeld => ?_)
              · (exact hAll.out _ (by repeat (first | assumption | exact Below.refl _ _ | (refine bStep ?_ (by assumption)) | (with_reducible refine bAlc ?_ _) | (with_reducible refine bDrw ?_))))
              clear hK K
              try simp only [Act.put, List.setIfInBounds_toArray, List.set_cons_zero, List.set_cons_succ]
              refine wpAnyH_take (i := 18) (oi := ⟨some 65, _, _, _, _, _⟩) (v := ?vbc16) rfl (by kernel_rfl) (by kernel_rfl) (by kernel_rfl) (fun _ _ _ h => h) (Or.inl ⟨by rfl, ?hybc16⟩) (by assumption) ?restbc16
              case hybc16 => (intro w hSw; (try dsimp only at hSw); go_simp <;> with_reducible rfl)
              try simp only [Act.put, List.setIfInBounds_toArray, List.set_cons_zero, List.set_cons_succ]
              refine wpAnyH_ready (rs := [19]) (by kernel_rfl) (by simp) ?_
              refine AllReadyH.cons (o := ⟨some 66, _, _, _, _, _⟩) rfl (fun K hK => ?_) ?_
              · go_simp
                refine hK.out _ _ ?_ (fun hHeld => ?_)
                · (exact hAll.out _ (by repeat (first | assumption | exact Below.refl _ _ | (refine bStep ?_ (by assumption)) | (with_reducible refine bAlc ?_ _) | (with_reducible refine bDrw ?_))))
                clear hK K
                try simp only [Act.put, List.setIfInBounds_toArray, List.set_cons_zero, List.set_cons_succ]
                refine wpAnyH_ready (rs := [20]) (by kernel_rfl) (by simp) ?_
                refine AllReadyH.cons (o := ⟨some 67, _, _, _, _, _⟩) rfl (fun K hK => ?_) ?_
                · go_simp
                  go_at_call 40
                  refine (hSm.out ss fs A1 k1 Xf xcf _ hfit f1 (hs1.step (by repeat (first | assumption | exact Below.refl _ _ | (refine bStep ?_ (by assumption)) | (with_reducible refine bAlc ?_ _) | (with_reducible refine bDrw ?_)))) (hXf.step (by repeat (first | assumption | exact Below.refl _ _ | (refine bStep ?_ (by assumption)) | (with_reducible refine bAlc ?_ _) | (with_reducible refine bDrw ?_))))).mono ?_
                  rintro e w4 ⟨v4, rfl, ho4, hb4⟩
                  obtain ⟨A4, k4, rfl, hs4⟩ := hOwn.out _ _ _ _ _ hfit hsnd f1 f2 ho4
                  go_wp2_with fail
                  refine hK.out _ _ ?_ (fun hHeld => ?_)
                  · (exact hAll.out _ (by repeat (first | assumption | exact Below.refl _ _ | (refine bStep ?_ (by assumption)) | (with_reducible refine bAlc ?_ _) | (with_reducible refine bDrw ?_))))
                  clear hK K
                  try simp only [Act.put, List.setIfInBounds_toArray, List.set_cons_zero, List.set_cons_succ]
                  refine wpAnyH_take (i := 21) (oi := ⟨some 46, _, _, _, _, _⟩) (v := ?vbc17) rfl (by kernel_rfl) (by kernel_rfl) (by kernel_rfl) (fun _ _ _ h => h) (Or.inl ⟨by rfl, ?hybc17⟩) (by assumption) ?restbc17
                  case hybc17 => (intro w hSw; (try dsimp only at hSw); go_simp <;> with_reducible rfl)
                  try simp only [Act.put, List.setIfInBounds_toArray, List.set_cons_zero, List.set_cons_succ]
                  refine wpAnyH_take (i := 22) (oi := ⟨some 68, _, _, _, _, _⟩) (v := ?vbc18) rfl (by kernel_rfl) (by kernel_rfl) (by kernel_rfl) (fun _ _ _ h => h) (Or.inl ⟨by rfl, ?hybc18⟩) (by assumption) ?restbc18
                  case hybc18 => (intro w hSw; (try dsimp only at hSw); go_simp <;> with_reducible rfl)
                  try simp only [Act.put, List.setIfInBounds_toArray, List.set_cons_zero, List.set_cons_succ]
                  refine wpAnyH_take (i := 23) (oi := ⟨some 69, _, _, _, _, _⟩) (v := ?vbc19) rfl (by kernel_rfl) (by kernel_rfl) (by kernel_rfl) (fun _ _ _ h => h) (Or.inl ⟨by rfl, ?hybc19⟩) (by assumption) ?restbc19
                  case hybc19 => (intro w hSw; (try dsimp only at hSw); go_simp <;> with_reducible rfl)
                  try simp only [Act.put, List.setIfInBounds_toArray, List.set_cons_zero, List.set_cons_succ]
                  refine wpAnyH_take (i := 24) (oi := ⟨some 10, _, _, _, _, _⟩) (v := ?vbc20) rfl (by kernel_rfl) (by kernel_rfl) (by kernel_rfl) (fun _ _ _ h => h) (Or.inl ⟨by rfl, ?hybc20⟩) (by assumption) ?restbc20
                  case hybc20 => (intro w hSw; (try dsimp only at hSw); go_simp <;> with_reducible rfl)
                  try simp only [Act.put, List.setIfInBounds_toArray, List.set_cons_zero, List.set_cons_succ]
                  refine wpAnyH_take (i := 25) (oi := ⟨some 11, _, _, _, _, _⟩) (v := ?vbc21) rfl (by kernel_rfl) (by kernel_rfl) (by kernel_rfl) (fun _ _ _ h => h) (Or.inl ⟨by rfl, ?hybc21⟩) (by assumption) ?restbc21
                  case hybc21 => (intro w hSw; (try dsimp only at hSw); go_simp <;> with_reducible rfl)
                  try simp only [Act.put, List.setIfInBounds_toArray, List.set_cons_zero, List.set_cons_succ]
                  refine wpAnyH_done (by kernel_rfl) ?_ _
                  go_wp2_with fail
                  go_meet
                  exact ⟨_, A4, k4, rfl, hBS.out _ _ _ hfit hsnd hcls f1 f2 f3 f4 f5 f6, hs4, (by repeat (first | assumption | exact Below.refl _ _ | (refine bStep ?_ (by assumption)) | (with_reducible refine bAlc ?_ _) | (with_reducible refine bDrw ?_)))⟩
                exact AllReadyH.nil
              exact AllReadyH.nil
            exact AllReadyH.nil
          exact AllReadyH.nil
        exact AllReadyH.nil
  case rest =>
    obtain ⟨L, A2, c2, rfl, hL, hs, hbx⟩ := hcut
    have hz6 := hfewR.out L hL
    replace hL := Lib.hid hL
    have hb9 := Lib.hid (bStep hbW.out hbx)
    clear hG2 q7 c0 c1 c3 c4 c5 p0 p1 hx2d hx2 hOf hFi hFo hSm hOwn hBS hbx
    go_wp2_with fail
    go_ret2
    exact hP.out _ _ _ _ hL.out hs hb9.out
end Go.Proofs.YtnnkfgekiaaehaaGreat

/- SmallGrammar: what it lets by. -/
namespace Go.Proofs.YtnnkfgekiaaehaaGreat
open Go.ChangeShapes Go.WideShapes Go.ChangeAt Go.RowKit
set_option linter.unusedVariables false

/-- few productions, with short right sides -/
structure LightP (g : Gr) : Prop where
  t : g.toks.length ≤ 10
  n : g.names.length ≤ 10
  p : g.prods.length ≤ 30
  r : ∀ p ∈ g.prods, p.right.length ≤ 8
theorem LightP.small {g : Gr} (h : LightP g) : Small g := ⟨by have := h.t; omega, by have := h.n; omega, by have := h.p; omega, fun p hp => by have := h.r p hp; omega⟩
def SmallP (g : Gr) : Prop := LightP g ∧ (g.k < 1 ∨ 4 < g.k ∨ (g.k = 1 ∧ g.toks.length ≤ 8) ∨ (g.k = 2 ∧ g.toks.length ≤ 3) ∨ (g.k = 3 ∧ g.toks.length ≤ 2))
/-- a Bool that shows P -/
def RetP1 (P : Prop) (w : World) (e : Ending) (w' : World) : Prop := ∃ b : Bool, e = .returned (.bool b) ∧ (b = true → P) ∧ Below w.heap.size w w'

set_option maxHeartbeats 1000000 in
theorem short_some (A : Option Addr) (n c : Nat) (l : List ByteArray) (w : World) (h : Rd1 w w.heap.size A n (strs l)) (hn : n ≤ maxLen) (hl : ∀ s ∈ l, s.size ≤ maxLen) : Calls Tryz.prog 61 #[.slice A n c, .int .i64 40] w (RetP1 True w) := by
  have hlen : l.length = n := by have := h.1; simpa [strs] using this
  unfold maxLen at hn hl
  have hP := Lib.hid (fun (b : Bool) (w' : World) (h : Below w.heap.size w w') => (show RetP1 True w (.returned (.bool b)) w' from ⟨b, rfl, fun _ => trivial, h⟩))
  have hl' := Lib.hid hl
  go_enter Tryz.func61, Tryz.ntmps61
  go_wp2_with fail
  go_loopg [5] n (fun gk s5 wr => ∃ i : Nat, s5 = .int .i64 i ∧ i + gk = n ∧ Below w.heap.size w wr)
  case atStart => exact ⟨0, rfl, by omega, Below.refl _ _⟩
  case round =>
    obtain ⟨i, rfl, hi, hb⟩ := hrel
    replace hi := Lib.hid hi
    by_cases hin : i < n
    · have hx : l[i]? = some l[i] := List.getElem?_eq_getElem (by omega)
      have hs := hl'.out _ (List.getElem_mem (show i < l.length by omega))
      obtain ⟨b, off, rfl, hbt, x0⟩ := h.get (show (strs l)[i]? = some (.string l[i]) by rw [strs, List.getElem?_map, hx]; rfl)
      have x0' := (hb.cell (p := ⟨b, off + i, none⟩) hbt).trans x0
      generalize l[i] = s at *
      have hz0 : (0 : Int) ≤ i := by omega
      have hz1 : (i : Int) < n := by omega
      clear x0
      by_cases h4 : 40 < s.size
      · have hz2 : (40 : Int) < s.size := by omega
        go_wp2_with fail
        go_ret
        exact hP.out _ _ hb
      · have hz2 : ¬ (40 : Int) < s.size := by omega
        go_wp2_with fail
        go_roundg (n - (i + 1))
        case measure => have := hi.out; omega
        case rel => exact ⟨i + 1, by go_num, by have := hi.out; omega, hb⟩
    · go_wp2_with fail
      go_ret
      exact hP.out _ _ hb

set_option maxHeartbeats 2000000 in
theorem light_some (g : Gr) (a : GA) (w : World) (hg : GrAt w w.heap.size g a) : Calls Tryz.prog 30 #[gval g a] w (RetP1 (LightP g) w) := by
  have hP := Lib.hid (fun (w' : World) (h1 : LightP g) (h : Below w.heap.size w w') => (show RetP1 (LightP g) w (.returned (.bool true)) w' from ⟨true, rfl, fun _ => h1, h⟩))
  have hN := Lib.hid (fun (w' : World) (h : Below w.heap.size w w') => (show RetP1 (LightP g) w (.returned (.bool false)) w' from ⟨false, rfl, (fun e => by cases e), h⟩))
  obtain ⟨ta, tc, na, nc, pa, pc⟩ := a
  have hG0 := GB.start hg
  have htc := hg.tc
  have htm := hg.tm
  have hnc := hg.nc
  have hnm := hg.nm
  have hpc := hg.pc
  have hpm := hg.pm
  have hsep := hg.sep
  have hS1 := Lib.hid (fun (W : World) (h : GrAt W W.heap.size g ⟨ta, tc, na, nc, pa, pc⟩) => short_some ta g.toks.length tc g.toks W h.toks (by have := h.tc; have := h.tm; dsimp only at *; omega) h.ts)
  have hS2 := Lib.hid (fun (W : World) (h : GrAt W W.heap.size g ⟨ta, tc, na, nc, pa, pc⟩) => short_some na g.names.length nc g.names W h.names (by have := h.nc; have := h.nm; dsimp only at *; omega) h.ns)
  clear hg
  dsimp only at htc htm hnc hnm hpc hpm
  unfold maxLen at htm hnm hpm hsep
  unfold gval at *
  unfold gcells at *
  dsimp only at *
  go_enter Tryz.func30, Tryz.ntmps30
  go_upto_region 1 with (fail)
  generalize w.alloc (.cells #[.int .i64 g.k, .slice ta g.toks.length tc, .string g.sep, .slice na g.names.length nc, .int .i64 g.start, .slice pa g.prods.length pc] 25) = W at *
  obtain ⟨c0, c1, c2, c3, c4, c5⟩ := hG0.cells
  dsimp only at c1 c3 c5
  by_cases h1 : 10 < g.toks.length
  · have z1 : (10 : Int) < g.toks.length := by omega
    go_wp2_with fail
    go_ret
    exact hN.out _ hG0.2.2
  have z1 : ¬ (10 : Int) < g.toks.length := by omega
  by_cases h2 : 10 < g.names.length
  · have z2 : (10 : Int) < g.names.length := by omega
    go_wp2_with fail
    go_ret
    exact hN.out _ hG0.2.2
  have z2 : ¬ (10 : Int) < g.names.length := by omega
  by_cases h3 : 30 < g.prods.length
  · have z3 : (30 : Int) < g.prods.length := by omega
    go_wp2_with fail
    go_ret
    exact hN.out _ hG0.2.2
  have z3 : ¬ (30 : Int) < g.prods.length := by omega
  by_cases h4 : 40 < g.sep.size
  · have z4 : (40 : Int) < g.sep.size := by omega
    go_wp2_with fail
    go_ret
    exact hN.out _ hG0.2.2
  have z4 : ¬ (40 : Int) < g.sep.size := by omega
  go_wp2_with fail
  refine (hS1.out _ ((hG0.2.1).mono hG0.2.2.size)).mono ?_
  rintro e w1 ⟨b1, rfl, _, hb1⟩
  have hG1 := hG0.step hb1
  clear hG0 hb1 c0 c1 c2 c3 c4 c5
  obtain ⟨c0, c1, c2, c3, c4, c5⟩ := hG1.cells
  dsimp only at c1 c3 c5
  cases b1 with
  | false =>
    go_wp2_with fail
    go_ret
    exact hN.out _ hG1.2.2
  | true =>
    go_wp2_with fail
    refine (hS2.out _ ((hG1.2.1).mono hG1.2.2.size)).mono ?_
    rintro e w2 ⟨b2, rfl, _, hb2⟩
    have hG2 := hG1.step hb2
    clear hG1 hb2 c0 c1 c2 c3 c4 c5
    obtain ⟨c0, c1, c2, c3, c4, c5⟩ := hG2.cells
    dsimp only at c1 c3 c5
    cases b2 with
    | false =>
      go_wp2_with fail
      go_ret
      exact hN.out _ hG2.2.2
    | true =>
      go_wp2_with fail
      clear c0 c1 c2 c3 c4 c5
      go_loopg [3] g.prods.length (fun gk s3 wr => ∃ i : Nat, s3 = .int .i64 i ∧ i + gk = g.prods.length ∧ Hid (∀ p ∈ g.prods.take i, p.right.length ≤ 8) ∧ GB w g ⟨ta, tc, na, nc, pa, pc⟩ wr)
      case atStart => exact ⟨0, rfl, by omega, Lib.hid (by simp), hG2⟩
      case round =>
        clear hG2
        obtain ⟨i, rfl, hi, hr, hG⟩ := hrel
        replace hi := Lib.hid hi
        obtain ⟨c0, c1, c2, c3, c4, c5⟩ := hG.cells
        dsimp only at c1 c3 c5
        by_cases hin : i < g.prods.length
        · have hxi : g.prods[i]? = some g.prods[i] := List.getElem?_eq_getElem hin
          obtain ⟨b, off, hA, hbt, x0, RA, rc, x1, hx2, hx3, hx4⟩ := hG.2.1.prods.get hxi
          dsimp only at hA
          subst hA
          have htk : g.prods.take (i + 1) = g.prods.take i ++ [g.prods[i]] := List.take_succ_eq_append_getElem hin
          generalize g.prods[i] = p at *
          replace hxi := Lib.hid hxi
          replace htk := Lib.hid htk
          unfold maxLen at hx4
          have hz0 : (0 : Int) ≤ i := by omega
          have hz1 : (i : Int) < g.prods.length := by omega
          by_cases h8 : 8 < p.right.length
          · have z8 : (8 : Int) < p.right.length := by omega
            go_wp2_with fail
            go_ret
            exact hN.out _ hG.2.2
          · have z8 : ¬ (8 : Int) < p.right.length := by omega
            have hr2 : Hid (∀ q ∈ g.prods.take (i + 1), q.right.length ≤ 8) := Lib.hid (by
              intro q hq
              rw [htk.out] at hq
              rcases List.mem_append.1 hq with h | h
              · exact hr.out q h
              · simp at h; subst h; omega)
            go_wp2_with fail
            go_roundg (g.prods.length - (i + 1))
            case measure => have := hi.out; omega
            case rel => exact ⟨i + 1, by go_num, by have := hi.out; omega, hr2, hG⟩
        · have hL : Hid (LightP g) := Lib.hid ⟨by omega, by omega, by omega, fun p hp => hr.out p (by rw [List.take_of_length_le (by omega)]; exact hp)⟩
          go_wp2_with fail
          go_ret
          exact hP.out _ hL.out hG.2.2

set_option maxHeartbeats 2000000 in
theorem small_some (g : Gr) (a : GA) (w : World) (hg : GrAt w w.heap.size g a) : Calls Tryz.prog 6 #[gval g a] w (RetP1 (SmallP g) w) := by
  have hP := Lib.hid (fun (w' : World) (h1 : SmallP g) (h : Below w.heap.size w w') => (show RetP1 (SmallP g) w (.returned (.bool true)) w' from ⟨true, rfl, fun _ => h1, h⟩))
  have hN := Lib.hid (fun (w' : World) (h : Below w.heap.size w w') => (show RetP1 (SmallP g) w (.returned (.bool false)) w' from ⟨false, rfl, (fun e => by cases e), h⟩))
  obtain ⟨ta, tc, na, nc, pa, pc⟩ := a
  have hG0 := GB.start hg
  have hLi := Lib.hid (fun (W : World) (h : GrAt W W.heap.size g ⟨ta, tc, na, nc, pa, pc⟩) => light_some g ⟨ta, tc, na, nc, pa, pc⟩ W h)
  clear hg
  unfold gval at *
  unfold gcells at *
  dsimp only at *
  go_enter Tryz.func6, Tryz.ntmps6
  go_upto_region 1 with (fail)
  generalize w.alloc (.cells #[.int .i64 g.k, .slice ta g.toks.length tc, .string g.sep, .slice na g.names.length nc, .int .i64 g.start, .slice pa g.prods.length pc] 25) = W at *
  obtain ⟨c0, c1, c2, c3, c4, c5⟩ := hG0.cells
  dsimp only at c1 c3 c5
  go_wp2_with fail
  refine (hLi.out _ ((hG0.2.1).mono hG0.2.2.size)).mono ?_
  rintro e w1 ⟨b1, rfl, hL, hb1⟩
  have hG1 := hG0.step hb1
  clear hG0 hb1 c0 c1 c2 c3 c4 c5
  obtain ⟨c0, c1, c2, c3, c4, c5⟩ := hG1.cells
  dsimp only at c1 c3 c5
  replace hL := Lib.hid hL
  cases b1 with
  | false =>
    go_wp2_with fail
    go_ret
    exact hN.out _ hG1.2.2
  | true =>
    have hl := Lib.hid (hL.out rfl)
    replace hL := Lib.hid hL
    have ht10 := hl.out.t
    by_cases k1 : g.k < 1
    · have hS : Hid (SmallP g) := Lib.hid ⟨hl.out, .inl k1⟩
      go_wp2_with fail
      go_ret
      exact hP.out _ hS.out hG1.2.2
    by_cases k4 : 4 < g.k
    · have hS : Hid (SmallP g) := Lib.hid ⟨hl.out, .inr (.inl k4)⟩
      go_wp2_with fail
      go_ret
      exact hP.out _ hS.out hG1.2.2
    obtain ⟨K, hK⟩ : ∃ K, K = g.k := ⟨_, rfl⟩
    rw [← hK] at c0 k1 k4 ⊢
    have hK' := Lib.hid hK
    clear hK
    obtain rfl | rfl | rfl | rfl : K = 1 ∨ K = 2 ∨ K = 3 ∨ K = 4 := by omega
    · by_cases hn : g.toks.length ≤ 8
      · have hS : Hid (SmallP g) := Lib.hid ⟨hl.out, .inr (.inr (.inl ⟨hK'.out.symm, hn⟩))⟩
        have z1 : (g.toks.length : Int) ≤ 8 := by omega
        go_wp2_with fail
        go_ret
        exact hP.out _ hS.out hG1.2.2
      · have z1 : decide ((g.toks.length : Int) ≤ 8) = false := decide_eq_false (by omega)
        go_wp2_with fail
        go_ret
        exact hN.out _ hG1.2.2
    · by_cases hn : g.toks.length ≤ 3
      · have hS : Hid (SmallP g) := Lib.hid ⟨hl.out, .inr (.inr (.inr (.inl ⟨hK'.out.symm, hn⟩)))⟩
        have z1 : (g.toks.length : Int) ≤ 3 := by omega
        go_wp2_with fail
        go_ret
        exact hP.out _ hS.out hG1.2.2
      · have z1 : decide ((g.toks.length : Int) ≤ 3) = false := decide_eq_false (by omega)
        go_wp2_with fail
        go_ret
        exact hN.out _ hG1.2.2
    · by_cases hn : g.toks.length ≤ 2
      · have hS : Hid (SmallP g) := Lib.hid ⟨hl.out, .inr (.inr (.inr (.inr ⟨hK'.out.symm, hn⟩)))⟩
        have z1 : (g.toks.length : Int) ≤ 2 := by omega
        go_wp2_with fail
        go_ret
        exact hP.out _ hS.out hG1.2.2
      · have z1 : decide ((g.toks.length : Int) ≤ 2) = false := decide_eq_false (by omega)
        go_wp2_with fail
        go_ret
        exact hN.out _ hG1.2.2
    · go_wp2_with fail
      go_ret
      exact hN.out _ hG1.2.2

/-- few looks there are -/
theorem few_looks {k : Nat} {m : Int} (h : (k = 1 ∧ m ≤ 8) ∨ (k = 2 ∧ m ≤ 3) ∨ (k = 3 ∧ m ≤ 2)) {L : List Lk} (hn : L.Nodup) (hm : 1 ≤ m) (hL : ∀ y ∈ L, y.right m ∧ y.l.length ≤ k) : L.length ≤ 600 := by
  have key : ∀ (M K : Int), m ≤ M → M ≤ 8 → (k : Int) ≤ K → (univ.filter fun x => decide (lchk x M = 0) && decide (x.n ≤ K)).length ≤ 600 → L.length ≤ 600 := by
    intro M K h1 h8 h2 h3
    refine Nat.le_trans (nodup_len hn fun y hy => ?_) h3
    obtain ⟨r, l⟩ := hL y hy
    have rM := right_mono r h1 h8
    have r8 := right_mono rM h8 (by omega)
    rw [List.mem_filter]
    refine ⟨univ_mem r8, ?_⟩
    have hr0 : lchk y M = 0 := rM
    have := (right_l r).1
    simp only [Bool.and_eq_true, decide_eq_true_eq]
    exact ⟨hr0, by omega⟩
  rcases h with ⟨rfl, h⟩ | ⟨rfl, h⟩ | ⟨rfl, h⟩
  · exact key 8 1 h (by omega) (by omega) (by decide +kernel)
  · exact key 3 2 h (by omega) (by omega) (by decide +kernel)
  · exact key 2 3 h (by omega) (by omega) (by decide +kernel)
end Go.Proofs.YtnnkfgekiaaehaaGreat

/- The walk of FollowBehind. -/
namespace Go.Proofs.YtnnkfgekiaaehaaGreat
open Go.ChangeShapes Go.WideShapes Go.ChangeAt Go.RowKit
set_option linter.unusedVariables false

/-- the few looks of a small grammar -/
theorem SmallP.few {g : Gr} (h : SmallP g) (hok : gchk g = 0) {L : List Lk} (hn : L.Nodup) (hL : ∀ y ∈ L, y.right g.toks.length ∧ y.l.length ≤ g.k.toNat) : L.length ≤ 600 := by
  have hk := gok_of hok
  have h1 := hk.k1
  have h4 := hk.k4
  have hkk := hk.hk
  refine few_looks (k := g.k.toNat) (m := g.toks.length) ?_ hn (by have := hk.tk; omega) hL
  rcases h.2 with e | e | ⟨e, f⟩ | ⟨e, f⟩ | ⟨e, f⟩ <;> omega
theorem SmallP.fewB {g : Gr} (h : SmallP g) (hok : gchk g = 0) {p : Pr} (hp : p ∈ g.prods) (d : Nat) : FewB g p d := fun L hn hL => h.few hok hn fun y hy => bh_right hok hp (hL y hy)


theorem same_sets {L : List Lk} {W : World} {m : Int} {A A2 : Option Addr} {c c2 : Nat} (h1 : RdL W W.heap.size A L.length L) (h2 : RdL W W.heap.size A2 L.length L) (hr : ∀ x ∈ L, x.right m) (hn : L.length ≤ 4681) :
    Calls Tryz.prog 10 #[.slice A L.length c, .slice A2 L.length c2] W fun e w' => e = .returned (.bool true) ∧ Below W.heap.size W w' := by
  have := samelooks_any A A2 L.length L.length c c2 L L W h1 h2 (fun y hy => right_wf (hr y hy)) (fun y hy => right_wf (hr y hy)) (by unfold maxLen; omega) (by unfold maxLen; omega)
  rwa [decide_eq_true rfl] at this

set_option maxRecDepth 100000 in
set_option maxHeartbeats 4000000 in
theorem followBehind_walk (g : Gr) (a : GA) (i d : Int) (w : World) (hg : GrAt w w.heap.size g a) (wi : (Lit.int .i64 i).wf = true) (wd : (Lit.int .i64 d).wf = true) : Calls Tryz.prog 3 #[gval g a, .int .i64 i, .int .i64 d] w fun e w' => e = .returned (.bool true) ∧ Below w.heap.size w w' := by
  have hAw := Lib.hid (fun (W : World) => awake_any W)
  have hSm := Lib.hid (fun (W : World) (h : GrAt W W.heap.size g a) => small_some g a W h)
  have hBr := Lib.hid (fun (W : World) (hs : Small g) (hE : gchk g ≠ 0) (h : GrAt W W.heap.size g a) => behind_err g a i d W h hs hE)
  have hBr2 := Lib.hid (fun (W : World) (hs : Small g) (hE : gchk g ≠ 0) (h : GrAt W W.heap.size g a) => refbehind_err g a i d W h hs hE)
  have hBb := Lib.hid (fun (W : World) (hok : gchk g = 0) (hno : noPlace g i d) (h : GrAt W W.heap.size g a) => behind_bad g a i d W h hok hno)
  have hBb2 := Lib.hid (fun (W : World) (hok : gchk g = 0) (hno : noPlace g i d) (h : GrAt W W.heap.size g a) => refbehind_bad g a i d W h hok hno)
  have hBa := Lib.hid (fun (W : World) (p : Pr) (hok : gchk g = 0) (n m : Nat) (hi : i = n) (hd : d = m) (hp : g.prods[n]? = some p) (hm : m ≤ p.right.length) (hf : FewB g p m) (h : GrAt W W.heap.size g a) => (by rw [hi, hd]; exact behind_any g a n m p W h hok hp hm hf : Calls Tryz.prog 8 #[gval g a, .int .i64 i, .int .i64 d] W (RetB g p m W)))
  have hBa2 := Lib.hid (fun (W : World) (p : Pr) (hok : gchk g = 0) (n m : Nat) (hi : i = n) (hd : d = m) (hp : g.prods[n]? = some p) (hm : m ≤ p.right.length) (hf : FewB g p m) (h : GrAt W W.heap.size g a) => (by rw [hi, hd]; exact refbehind_any g a n m p W h hok hp hm hf : Calls Tryz.prog 9 #[gval g a, .int .i64 i, .int .i64 d] W (RetBs g p m W)))
  have hS0 : Hid (∀ W, Calls Tryz.prog 10 #[.slice none 0 0, .slice none 0 0] W fun e w' => e = .returned (.bool true) ∧ Below W.heap.size W w') := Lib.hid fun W => same_sets (L := []) (m := 8) (RdL.nil _ _ _) (RdL.nil _ _ _) (by simp) (by simp)
  obtain ⟨ta, tc, na, nc, pa, pc⟩ := a
  have hG0 := GB.start hg
  clear hg
  unfold gval at *
  unfold gcells at *
  dsimp only at *
  go_enter Tryz.func3, Tryz.ntmps3
  go_upto_region 1 with (fail)
  generalize w.alloc (.cells #[.int .i64 g.k, .slice ta g.toks.length tc, .string g.sep, .slice na g.names.length nc, .int .i64 g.start, .slice pa g.prods.length pc] 25) = W at *
  obtain ⟨c0, c1, c2, c3, c4, c5⟩ := hG0.cells
  dsimp only at c1 c3 c5
  go_wp2_with fail
  refine (hSm.out _ ((hG0.2.1).mono hG0.2.2.size)).mono ?_
  rintro e w1 ⟨b1, rfl, hL, hb1⟩
  have hG1 := hG0.step hb1
  clear hG0 hb1 c0 c1 c2 c3 c4 c5
  obtain ⟨c0, c1, c2, c3, c4, c5⟩ := hG1.cells
  dsimp only at c1 c3 c5
  replace hL := Lib.hid hL
  cases b1 with
  | false =>
    have hbW := Lib.hid hG1.2.2
    go_wp2_with (go_at_call 7; refine (hAw.out _).mono ?_; rintro e w2 ⟨rfl, hb2⟩)
    go_ret
    exact ⟨rfl, bStep hbW.out hb2⟩
  | true =>
    have hsm := Lib.hid (hL.out rfl)
    clear hL
    by_cases hok : gchk g = 0
    · have hok' := Lib.hid hok
      clear hok
      by_cases hno : noPlace g i d
      · have hno' := Lib.hid hno
        clear hno
        go_wp2_with fail
        refine (hBb.out _ hok'.out hno'.out ((hG1.2.1).mono hG1.2.2.size)).mono ?_
        rintro e w2 ⟨rfl, hb2⟩
        have hG2 := hG1.step hb2
        clear hG1 hb2 c0 c1 c2 c3 c4 c5
        obtain ⟨c0, c1, c2, c3, c4, c5⟩ := hG2.cells
        dsimp only at c1 c3 c5
        go_wp2_with fail
        refine (hBb2.out _ hok'.out hno'.out ((hG2.2.1).mono hG2.2.2.size)).mono ?_
        rintro e w3 ⟨rfl, hb3⟩
        have hbW := Lib.hid (hG2.step hb3).2.2
        go_wp2_with fail
        refine (hS0.out _).mono ?_
        rintro e w4 ⟨rfl, hb4⟩
        go_wp2_with (go_at_call 7; refine (hAw.out _).mono ?_; rintro e w5 ⟨rfl, hb5⟩)
        go_ret
        exact ⟨rfl, bStep (bStep hbW.out hb4) hb5⟩
      · obtain ⟨n, hn⟩ := Int.eq_ofNat_of_zero_le (show 0 ≤ i by by_cases h : i < 0; exact absurd (.inl h) hno; omega)
        obtain ⟨m, hm⟩ := Int.eq_ofNat_of_zero_le (show 0 ≤ d by by_cases h : d < 0; exact absurd (.inr (.inr (.inl h))) hno; omega)
        have hnl : n < g.prods.length := by
          by_cases h : (g.prods.length : Int) ≤ i
          · exact absurd (.inr (.inl h)) hno
          · omega
        have hp : g.prods[n]? = some g.prods[n] := List.getElem?_eq_getElem hnl
        have hml : m ≤ g.prods[n].right.length := by
          by_cases h : (g.prods[n].right.length : Int) < d
          · exact absurd (.inr (.inr (.inr ⟨g.prods[n], by rw [hn, Int.toNat_natCast]; exact hp, h⟩))) hno
          · omega
        have hpm := List.getElem_mem hnl
        generalize g.prods[n] = p at *
        have hfew := Lib.hid (hsm.out.fewB hok'.out hpm m)
        have hbr : Hid (∀ L, BSet g p m L → (∀ x ∈ L, x.right g.toks.length) ∧ L.length ≤ 4681) := Lib.hid fun L hL => ⟨fun x hx => (bh_right hok'.out hpm ((hL.2 x).1 hx)).1, by have := hfew.out L (asc_nodup hL.1) fun y hy => (hL.2 y).1 hy; omega⟩
        clear hno
        replace hn := Lib.hid hn
        replace hm := Lib.hid hm
        replace hp := Lib.hid hp
        replace hml := Lib.hid hml
        replace hpm := Lib.hid hpm
        go_wp2_with fail
        refine (hBa.out _ p hok'.out n m hn.out hm.out hp.out hml.out hfew.out ((hG1.2.1).mono hG1.2.2.size)).mono ?_
        rintro e w2 ⟨L, v, rfl, hL, ho, hb2⟩
        obtain ⟨A2, c2', rfl, hd2, _, _, _⟩ := ho.reads
        have hG2 := hG1.step hb2
        clear hG1 hb2 c0 c1 c2 c3 c4 c5 ho
        obtain ⟨c0, c1, c2, c3, c4, c5⟩ := hG2.cells
        dsimp only at c1 c3 c5
        replace hL := Lib.hid hL
        replace hd2 := Lib.hid hd2
        go_wp2_with fail
        refine (hBa2.out _ p hok'.out n m hn.out hm.out hp.out hml.out hfew.out ((hG2.2.1).mono hG2.2.2.size)).mono ?_
        rintro e w3 ⟨L3, A3, c3', rfl, hL3, hs3, hb3⟩
        have hLe := hL3.uniq hL.out
        subst hLe
        have hbW := Lib.hid (hG2.step hb3).2.2
        have hd3 := hs3.rd
        replace hL3 := Lib.hid hL3
        go_wp2_with fail
        refine (same_sets ((hd2.out.below hb3).mono hb3.size) hd3 (hbr.out _ hL.out).1 (hbr.out _ hL.out).2).mono ?_
        rintro e w4 ⟨rfl, hb4⟩
        go_wp2_with (go_at_call 7; refine (hAw.out _).mono ?_; rintro e w5 ⟨rfl, hb5⟩)
        go_ret
        exact ⟨rfl, bStep (bStep hbW.out hb4) hb5⟩
    · have hok' := Lib.hid hok
      clear hok
      obtain ⟨E, hE⟩ : ∃ E, E = gchk g := ⟨_, rfl⟩
      rw [← hE] at hBr hBr2 hok'
      replace hE := Lib.hid hE
      go_wp2_with fail
      refine (hBr.out _ hsm.out.1.small hok'.out ((hG1.2.1).mono hG1.2.2.size)).mono ?_
      rintro e w2 ⟨rfl, hb2⟩
      have hG2 := hG1.step hb2
      clear hG1 hb2 c0 c1 c2 c3 c4 c5
      obtain ⟨c0, c1, c2, c3, c4, c5⟩ := hG2.cells
      dsimp only at c1 c3 c5
      go_wp2_with fail
      refine (hBr2.out _ hsm.out.1.small hok'.out ((hG2.2.1).mono hG2.2.2.size)).mono ?_
      rintro e w3 ⟨rfl, hb3⟩
      have hbW := Lib.hid (hG2.step hb3).2.2
      go_wp2_with fail
      refine (hS0.out _).mono ?_
      rintro e w4 ⟨rfl, hb4⟩
      go_wp2_with (go_at_call 7; refine (hAw.out _).mono ?_; rintro e w5 ⟨rfl, hb5⟩)
      go_ret
      exact ⟨rfl, bStep (bStep hbW.out hb4) hb5⟩
end Go.Proofs.YtnnkfgekiaaehaaGreat
