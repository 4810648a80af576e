/- Walks and plain laws, part 8 of 9: follow.Behind; follow.Behind: its errors, and what it hands back for a given grammar; look.Check; follow.Has and follow.Ends; follow.Uses; Spots: their equality; SameSpots. Conditions: none beyond those that each theorem states. -/
import Derived.Test.YtnnkfgekiaaehaaD7
import Derived.Laws.CopyOwn
/- follow.Behind. -/
namespace Go.Proofs.Ytnnkfgekiaaehaa
open Go.ChangeShapes Go.WideShapes Go.ChangeAt Go.RowKit
set_option linter.unusedVariables false

/-- what is behind a place, reckoned from the sets -/
def behL (k : Nat) (ss fs : List (List Lk)) (p : Pr) (d : Nat) : List Lk := sumsJ k (tailL k ss (p.right.drop d)) (lset (fs.getD (p.left - 16).toNat []))
theorem behind_iff {g : Gr} (h : gchk g = 0) {ss fs : List (List Lk)} (h1 : SetsFit g.k.toNat ss) (h2 : SoundF g.prods g.k.toNat ss) (h3 : ClosedF g.prods g.k.toNat ss) (h4 : SetsFit g.k.toNat fs) (h5 : SoundO g.prods g.k.toNat g.start fs) (h6 : ClosedO g.prods g.k.toNat g.start ss fs) {p : Pr} (hp : p ∈ g.prods) (d : Nat) (z : Lk) :
    z ∈ behL g.k.toNat ss fs p d ↔ BH g.prods g.k.toNat g.start p d z := by
  have hok := gok_of h
  have hf := follow_iff hok.k1 hok.k4 h1 h4 h2 h3 (fun p hp => ⟨(hok.pr p hp).1.1, hok.sym hp⟩) h5 h6 p.left (hok.pr p hp).1.1
  have ht := first_iff hok.k1 hok.k4 h1 h2 h3 (fun p hp => hok.sym hp) (p.right.drop d) (fun z hz => hok.sym hp z (List.mem_of_mem_drop hz))
  have hl := fun y => lset_mem (k := 8) (fun z hz => (setsFit_get h4 (p.left - 16).toNat z hz).1) y
  unfold behL BH
  rw [sums_mem]
  constructor
  · rintro ⟨x, hx, y, hy, rfl⟩
    exact ⟨x, y, (ht x).1 hx, (hf y).1 ((hl y).1 hy), rfl⟩
  · rintro ⟨x, y, hx, hy, rfl⟩
    exact ⟨x, (ht x).2 hx, y, (hl y).2 ((hf y).2 hy), rfl⟩
/-- what is behind a place, in order -/
def BSet (g : Gr) (p : Pr) (d : Nat) (L : List Lk) : Prop := Asc L ∧ ∀ y, y ∈ L ↔ BH g.prods g.k.toNat g.start p d y
/-- few looks behind -/
def FewB (g : Gr) (p : Pr) (d : Nat) : Prop := ∀ L : List Lk, L.Nodup → (∀ y ∈ L, BH g.prods g.k.toNat g.start p d y) → L.length ≤ 600
def RetB (g : Gr) (p : Pr) (d : Nat) (w : World) (e : Ending) (w' : World) : Prop := ∃ L v, e = .returned (.tuple #[v, .int .i64 0]) ∧ BSet g p d L ∧ OwnL w' w.heap.size v L ∧ Below w.heap.size w w'
theorem BSet.uniq {g : Gr} {p : Pr} {d : Nat} {L M : List Lk} (h : BSet g p d L) (h' : BSet g p d M) : L = M := asc_uniq h.1 h'.1 fun y => (h.2 y).trans (h'.2 y).symm
theorem Slight.fitB {g : Gr} (h : Slight g) {p : Pr} (hp : p ∈ g.prods) {d : Nat} {y : Lk} (hy : BH g.prods g.k.toNat g.start p d y) : y ∈ univ2 := by
  obtain ⟨x, z, hx, hz, rfl⟩ := hy
  have hk := gok_of h.ok
  have hps := psok_of hk
  have h1 := fl_right hk.k1 hk.k4 (by have := hk.tk; omega) hps hx fun s hs => hps p hp s (List.mem_of_mem_drop hs)
  have h2 := fo_fit h.ok hz
  refine univ2_mem (right_mono (lplus_right hk.k4 h1.1 h2.1) (by have := h.tk; omega) (by omega)) ?_
  rw [lplus_l hk.k4, List.length_take]
  have := h.k2
  omega
theorem Slight.fewB {g : Gr} (h : Slight g) {p : Pr} (hp : p ∈ g.prods) (d : Nat) : FewB g p d := fun L hn hL => by
  have := nodup_len hn fun y hy => h.fitB hp (hL y hy)
  have e : univ2.length = 7 := rfl
  omega
/-- the map of what is behind has been made -/
def BM (mb : Nat) (J : List Lk) (V wx : World) : Prop := MapK lookKey wx mb J ∧ Below V.heap.size V wx

set_option maxRecDepth 100000 in
set_option maxHeartbeats 8000000 in
theorem behind_any (g : Gr) (a : GA) (i d : Nat) (p : Pr) (w : World) (hg : GrAt w w.heap.size g a) (hok : gchk g = 0) (hp : g.prods[i]? = some p) (hd : d ≤ p.right.length) (hfew : FewB g p d) :
    Calls Try.prog 22 #[gval g a, .int .i64 i, .int .i64 d] w (RetB g p d w) := by
  obtain ⟨ta, tc, na, nc, pa, pc⟩ := a
  have hk := gok_of hok
  have hn8 := hk.nm
  have hpm := List.mem_of_getElem? hp
  have hpr := hk.pr p hpm
  have hil := (List.getElem?_eq_some_iff.1 hp).1
  have hpl := hk.pl
  obtain ⟨b, off, hA0, hbt, x0, RA, rc, x1, hx2, hx3, hx4⟩ := hg.prods.get hp
  dsimp only at hA0
  subst hA0
  have hG0 := GB.start hg
  have hC := Lib.hid (fun (W : World) (h : GrAt W W.heap.size g ⟨ta, tc, na, nc, some ⟨b, off, none⟩, pc⟩) => gcheck_any g ⟨ta, tc, na, nc, some ⟨b, off, none⟩, pc⟩ W h (small_of hok))
  rw [hok] at hC
  have hA := Lib.hid (fun (W : World) (h : GrAt W W.heap.size g ⟨ta, tc, na, nc, some ⟨b, off, none⟩, pc⟩) => all_any g ⟨ta, tc, na, nc, some ⟨b, off, none⟩, pc⟩ g.k.toNat hk W h)
  have hSet := Lib.hid (fun (ss fs : List (List Lk)) h1 h2 h3 h4 h5 h6 y => behind_iff hok (ss := ss) (fs := fs) h1 h2 h3 h4 h5 h6 hpm d y)
  have hP := Lib.hid (fun (L : List Lk) (v : Value) (w' : World) (h1 : BSet g p d L) (h2 : OwnL w' w.heap.size v L) (h3 : Below w.heap.size w w') => (show RetB g p d w (.returned (.tuple #[v, .int .i64 0])) w' from ⟨L, v, rfl, h1, h2, h3⟩))
  have hfew' := Lib.hid hfew
  have hsy := hk.sym hpm
  obtain ⟨jx, hjx⟩ := Int.eq_ofNat_of_zero_le (show 0 ≤ p.left - 16 by have := hpr.1; omega)
  have hjxn : (p.left - 16).toNat = jx := by omega
  have hjxi : jx < g.names.length := by have := hpr.1; omega
  have hzx : (0 : Int) ≤ jx := by omega
  have hzy : (jx : Int) < g.names.length := by omega
  have hz1 : (0 : Int) ≤ i := by omega
  have hz2 : (i : Int) < g.prods.length := by omega
  have hz3 : (0 : Int) ≤ d := by omega
  have hz4 : (d : Int) ≤ p.right.length := by omega
  have hz5 : (d : Int) ≤ rc := by omega
  have hn9 : g.names.length ≤ 8 := hn8.2
  have hr6 : p.right.length ≤ 6 := hpr.2.1
  have zw : IntKind.i64.wrap (jx : Int) = jx := IntWalk.i64_in _ (by omega)
  have hk4 := hk.k4
  have hk1 := hk.k1
  have hkk : (g.k : Int) = (g.k.toNat : Int) := hk.hk
  have hk' := Lib.hid hk
  have hok' := Lib.hid hok
  replace hpr := Lib.hid hpr
  replace hsy := Lib.hid hsy
  replace hkk := Lib.hid hkk
  replace hjxn := Lib.hid hjxn
  replace hp := Lib.hid hp
  replace hpm := Lib.hid hpm
  unfold maxLen at hx4
  clear hg hok hk hfew hn8
  unfold gval at *
  unfold gcells at *
  dsimp only at *
  have hmm := @run_makeMap Try.prog
  go_enter Try.func22, Try.ntmps22
  go_upto_region 4 with (go_at_call 38; refine (hC.out _ ((hG0.2.1).mono hG0.2.2.size)).mono ?_; rintro e w1 ⟨rfl, hb1⟩)
  have hG1 := hG0.step hb1
  clear hG0 hb1
  obtain ⟨c0, c1, c2, c3, c4, c5⟩ := hG1.cells
  dsimp only at c1 c3 c5
  have y0 := (hG1.2.2.cell (p := ⟨b, off + i * 2, none⟩) hbt).trans x0
  have y1 := (hG1.2.2.cell (p := ⟨b, off + i * 2 + 1, none⟩) hbt).trans x1
  go_upto_region 7 with (go_at_call 25; refine (hA.out _ ((hG1.2.1).mono hG1.2.2.size)).mono ?_; rintro e w2 ⟨bo, fo, ss, fs, rfl, hS1, hS2, k1, k2, k3, k4, k5, k6, k7, k8, hb2⟩)
  have hG2 := hG1.step hb2
  clear hG1 hb2 c0 c1 c2 c3 c4 c5 y0 y1 hC hA
  go_upto_region 8 with (fail)
  clear hmm
  have hbA : Below w2.heap.size w2 (w2.alloc (.map #[] 0)) := bAlc (Below.refl _ _) _
  have hM := mapk_new lookKey w2 w2.heap.size rfl
  have hG3 := hG2.step hbA
  have hS1' := (hS1.below hbA).mono hbA.size
  have hS2' := (hS2.below hbA).mono hbA.size
  have hw2 : w.heap.size ≤ w2.heap.size := hG2.2.2.size
  clear hS1 hS2 hG2 hbA
  generalize w2.alloc (.map #[] 0) = W1 at *
  generalize w2.heap.size = mb at *
  obtain ⟨mb2, hmb2, hz0, hM2⟩ := hS2'.at0 jx hjxi
  have hmem := Lib.hid (hSet.out ss fs k1 k2 k3 k4 k5 k6)
  have hJe : behL g.k.toNat ss fs p d = sumsJ g.k.toNat (tailL g.k.toNat ss (p.right.drop d)) (lset (fs.getD jx [])) := by unfold behL; rw [hjxn.out]
  have hdr : ∀ z ∈ p.right.drop d, SymOk g.names.length z := fun z hz => hsy.out z (List.mem_of_mem_drop hz)
  have hTf := Lib.hid (tail_fit hk1 hk4 k1 _ hdr)
  have hTl := Lib.hid (fit_len (tail_nodup hk1 hk4 k1 _ hdr) hTf.out)
  have hLf := Lib.hid (lset_fit (setsFit_get k4 jx))
  have hLl := Lib.hid (fit_len (lset_nodup (setsFit_get k4 jx)) hLf.out)
  have hnd : (fs.getD jx []).Nodup := by
    rw [List.getD_eq_getElem?_getD]
    cases hh : fs[jx]? with
    | none => simp
    | some t => exact k8 t (List.mem_of_getElem? hh)
  have hLl2 := Lib.hid (fit_len hnd (setsFit_get k4 jx))
  have hF8 : Hid (∀ x ∈ fs.getD jx [], x.right 8) := Lib.hid fun x hx => (setsFit_get k4 jx x hx).1
  have hfit := Lib.hid k1
  have hnds := Lib.hid k7
  have hJfit : Hid (∀ z ∈ addAll [] (behL g.k.toNat ss fs p d), Fit g.k.toNat z) := Lib.hid (all_fit (by simp) (by rw [hJe]; exact sums_fit hk4 hTf.out hLf.out))
  have hJnd : Hid ((addAll [] (behL g.k.toNat ss fs p d)).Nodup) := Lib.hid (addAll_nodup List.nodup_nil _)
  have hJmem : Hid (∀ y, y ∈ addAll [] (behL g.k.toNat ss fs p d) ↔ BH g.prods g.k.toNat g.start p d y) := Lib.hid fun y => by rw [addAll_mem]; simp only [List.not_mem_nil, false_or]; exact hmem.out y
  have hT0 : Hid (∀ (SA : Option Addr) (sn sc : Nat), Rd1 W1 w.heap.size SA sn (ints (p.right.drop d)) → ∀ W', Below W1.heap.size W1 W' → Calls Try.prog 40 #[.agg #[.int .i64 g.k, .slice ta g.toks.length tc, .string g.sep, .slice na g.names.length nc, .int .i64 g.start, .slice (some ⟨b, off, none⟩) g.prods.length pc], .slice (some ⟨bo, 0, none⟩) g.names.length g.names.length, .slice SA sn sc] W' (RetL W' (tailL g.k.toNat ss (p.right.drop d)))) :=
    Lib.hid fun SA sn sc hr W' hb => by
      have hlw : w.heap.size ≤ W1.heap.size := hG3.2.2.size
      have hlen2 : sn ≤ 1000000 := by have := hr.1; simp [ints] at this; omega
      exact tail_any g ⟨ta, tc, na, nc, some ⟨b, off, none⟩, pc⟩ g.k.toNat hkk.out hk1 hk4 (some ⟨bo, 0, none⟩) g.names.length g.names.length ss SA sn sc (p.right.drop d) W' (((hG3.step hb).2.1).mono (by have := hb.size; omega)) ((hS1'.below hb).mono hb.size) hfit.out hnds.out (by omega) ((hr.below (hb.mono hlw)).mono (Nat.le_trans hlw hb.size)) hlen2 hdr
  have hPl : Hid (∀ W', Calls Try.prog 41 #[.int .i64 g.k] W' (RetP W' g.k.toNat)) := Lib.hid fun W' => by have := mkplus_any g.k.toNat W'; rw [← hkk.out] at this; exact this
  have hSo : Hid (∀ W', Below W1.heap.size W1 W' → Calls Try.prog 26 #[.map (some mb2)] W' (RetL W' (lset (fs.getD jx [])))) := Lib.hid fun W' hb => sorted_any mb2 (fs.getD jx []) W' (hM2.step hb) hF8.out (by have := hLl2.out; omega)
  have hJ : Hid (∀ A1 c1 A2 c2 Bk W', Below W1.heap.size W1 W' → RdL W' W'.heap.size A1 (tailL g.k.toNat ss (p.right.drop d)).length (tailL g.k.toNat ss (p.right.drop d)) → RdL W' W'.heap.size A2 (lset (fs.getD jx [])).length (lset (fs.getD jx [])) → W'.cell? ⟨Bk, 0, none⟩ = some (.int .i64 g.k.toNat) → Bk < W'.heap.size →
      Calls Try.prog 39 #[.map (some mb), .slice A1 (tailL g.k.toNat ss (p.right.drop d)).length c1, .slice A2 (lset (fs.getD jx [])).length c2, .func (.func 68) #[] #[.pointer (some ⟨Bk, 0, none⟩)]] W' (RetJ W' mb [] (addAll [] (behL g.k.toNat ss fs p d)))) :=
    Lib.hid fun A1 c1 A2 c2 Bk W' hb r1 r2 hc hBk => by
      rw [hJe]
      exact joined_any g.k.toNat A1 A2 _ _ c1 c2 _ _ _ mb Bk W' hk4 r1 r2 (fun x hx => (hTf.out x hx).1) (fun x hx => (hLf.out x hx).1) (fun x hx => (hTf.out x hx).2) (by have := hTl.out; omega) (by have := hLl.out; omega) (hM.step hb) hc hBk
  unfold RetJ at hJ
  have y0 := (hG3.2.2.cell (p := ⟨b, off + i * 2, none⟩) hbt).trans x0
  have y1 := (hG3.2.2.cell (p := ⟨b, off + i * 2 + 1, none⟩) hbt).trans x1
  have hx2' := (hx2.drop d rc hd hx3).below hG3.2.2
  rw [show (ints p.right).drop d = ints (p.right.drop d) by simp [ints]] at hx2'
  obtain ⟨c0, c1, c2, c3, c4, c5⟩ := hG3.cells
  dsimp only at c1 c3 c5
  have hAll : Hid (∀ w', KX W1 mb mb w' → w'.cell? ⟨w.heap.size, 0, none⟩ = some (.int .i64 g.k) ∧ w'.cell? ⟨w.heap.size, 1, none⟩ = some (.slice ta g.toks.length tc) ∧ w'.cell? ⟨w.heap.size, 2, none⟩ = some (.string g.sep) ∧ w'.cell? ⟨w.heap.size, 3, none⟩ = some (.slice na g.names.length nc) ∧ w'.cell? ⟨w.heap.size, 4, none⟩ = some (.int .i64 g.start) ∧ w'.cell? ⟨w.heap.size, 5, none⟩ = some (.slice (some ⟨b, off, none⟩) g.prods.length pc) ∧
      w'.cell? ⟨b, off + i * 2, none⟩ = some (.int .i64 p.left) ∧ w'.cell? ⟨b, off + i * 2 + 1, none⟩ = some (.slice RA p.right.length rc) ∧ w'.cell? ⟨fo, jx, none⟩ = some (.map (some mb2)) ∧ KX W1 mb mb w') :=
    Lib.hid fun w' h => ⟨h.cell c0 (cell_not_map c0 hM) (cell_not_map c0 hM), h.cell c1 (cell_not_map c1 hM) (cell_not_map c1 hM), h.cell c2 (cell_not_map c2 hM) (cell_not_map c2 hM), h.cell c3 (cell_not_map c3 hM) (cell_not_map c3 hM), h.cell c4 (cell_not_map c4 hM) (cell_not_map c4 hM), h.cell c5 (cell_not_map c5 hM) (cell_not_map c5 hM),
      h.cell y0 (cell_not_map y0 hM) (cell_not_map y0 hM), h.cell y1 (cell_not_map y1 hM) (cell_not_map y1 hM), h.cell hz0 (cell_not_map hz0 hM) (cell_not_map hz0 hM), h⟩
  have hEnd : Hid (∀ w', KX W1 mb mb w' → MapK lookKey w' mb (addAll [] (behL g.k.toNat ss fs p d)) → BM mb (addAll [] (behL g.k.toNat ss fs p d)) w w') := Lib.hid fun w' h hm => ⟨hm, hG3.2.2.trans (h.low hw2 hw2 hG3.2.2.size)⟩
  replace hJe := Lib.hid hJe
  clear hM hM2 hS1' hS2' k1 k2 k3 k4 k5 k6 k7 k8 hG3 hSet c0 c1 c2 c3 c4 c5 y0 y1 x0 x1 hmb2 hz0 hdr
  generalize addAll [] (behL g.k.toNat ss fs p d) = J at *
  generalize tailL g.k.toNat ss (p.right.drop d) = T at *
  generalize lset (fs.getD jx []) = L at *
  obtain ⟨kk, hkn⟩ : ∃ kk : Nat, kk = g.k.toNat := ⟨_, rfl⟩
  rw [← hkn] at hJ hPl
  replace hkn := Lib.hid hkn
  go_cut [] (fun wx => BM mb J w wx)
  case first =>
    by_cases hdl : d < p.right.length
    · have hsd : (ints p.right)[d]? = some (.int .i64 (p.right.getD d 0)) := by simp [ints, hdl]
      obtain ⟨rb, roff, hRA, _, _⟩ := hx2.get hsd
      subst hRA
      have hcap : ¬ rc = d := by omega
      rw [if_neg hcap, show (some (⟨rb, roff, none⟩ : Addr)).map (·.add d) = some ⟨rb, roff + d, none⟩ by simp [Addr.add]] at hx2'
      have hT : Hid (∀ W', Below W1.heap.size W1 W' → Calls Try.prog 40 #[.agg #[.int .i64 g.k, .slice ta g.toks.length tc, .string g.sep, .slice na g.names.length nc, .int .i64 g.start, .slice (some ⟨b, off, none⟩) g.prods.length pc], .slice (some ⟨bo, 0, none⟩) g.names.length g.names.length, .slice (some ⟨rb, roff + d, none⟩) (p.right.length - d) (rc - d)] W' (RetL W' T)) :=
        Lib.hid fun W' hb => hT0.out (some ⟨rb, roff + d, none⟩) (p.right.length - d) (rc - d) hx2' W' hb
      clear hT0 hx2 hx2' hsd
      refine wp_region_held_drew (S := (fun w' => w'.cell? ⟨w.heap.size, 0, none⟩ = some (.int .i64 g.k) ∧ w'.cell? ⟨w.heap.size, 1, none⟩ = some (.slice ta g.toks.length tc) ∧ w'.cell? ⟨w.heap.size, 2, none⟩ = some (.string g.sep) ∧ w'.cell? ⟨w.heap.size, 3, none⟩ = some (.slice na g.names.length nc) ∧ w'.cell? ⟨w.heap.size, 4, none⟩ = some (.int .i64 g.start) ∧ w'.cell? ⟨w.heap.size, 5, none⟩ = some (.slice (some ⟨b, off, none⟩) g.prods.length pc) ∧
        w'.cell? ⟨b, off + i * 2, none⟩ = some (.int .i64 p.left) ∧ w'.cell? ⟨b, off + i * 2 + 1, none⟩ = some (.slice (some ⟨rb, roff, none⟩) p.right.length rc) ∧ w'.cell? ⟨fo, jx, none⟩ = some (.map (some mb2)) ∧ KX W1 mb mb w')) (by kernel_rfl) (hAll.out _ (KX.refl _ _ _).drew) (fun hHeld => ?_)
      refine wpAnyH_take (i := 0) (oi := ⟨some 47, _, _, _, _, _⟩) (v := ?va1) rfl (by kernel_rfl) (by kernel_rfl) (by kernel_rfl) (fun _ _ _ h => h) (Or.inl ⟨by rfl, ?hya1⟩) (by assumption) ?resta1
      case hya1 => (intro w hSw; (try dsimp only at hSw); go_simp <;> with_reducible rfl)
      try simp only [Act.put, List.setIfInBounds_toArray, List.set_cons_zero, List.set_cons_succ]
      refine wpAnyH_take (i := 1) (oi := ⟨some 48, _, _, _, _, _⟩) (v := ?va2) rfl (by kernel_rfl) (by kernel_rfl) (by kernel_rfl) (fun _ _ _ h => h) (Or.inl ⟨by rfl, ?hya2⟩) (by assumption) ?resta2
      case hya2 => (intro w hSw; (try dsimp only at hSw); go_simp <;> with_reducible rfl)
      try simp only [Act.put, List.setIfInBounds_toArray, List.set_cons_zero, List.set_cons_succ]
      refine wpAnyH_take (i := 2) (oi := ⟨some 49, _, _, _, _, _⟩) (v := ?va3) rfl (by kernel_rfl) (by kernel_rfl) (by kernel_rfl) (fun _ _ _ h => h) (Or.inl ⟨by rfl, ?hya3⟩) (by assumption) ?resta3
      case hya3 => (intro w hSw; (try dsimp only at hSw); go_simp <;> with_reducible rfl)
      try simp only [Act.put, List.setIfInBounds_toArray, List.set_cons_zero, List.set_cons_succ]
      refine wpAnyH_take (i := 3) (oi := ⟨some 50, _, _, _, _, _⟩) (v := ?va4) rfl (by kernel_rfl) (by kernel_rfl) (by kernel_rfl) (fun _ _ _ h => h) (Or.inl ⟨by rfl, ?hya4⟩) (by assumption) ?resta4
      case hya4 => (intro w hSw; (try dsimp only at hSw); go_simp <;> with_reducible rfl)
      try simp only [Act.put, List.setIfInBounds_toArray, List.set_cons_zero, List.set_cons_succ]
      refine wpAnyH_take (i := 4) (oi := ⟨some 51, _, _, _, _, _⟩) (v := ?va5) rfl (by kernel_rfl) (by kernel_rfl) (by kernel_rfl) (fun _ _ _ h => h) (Or.inl ⟨by rfl, ?hya5⟩) (by assumption) ?resta5
      case hya5 => (intro w hSw; (try dsimp only at hSw); go_simp <;> with_reducible rfl)
      try simp only [Act.put, List.setIfInBounds_toArray, List.set_cons_zero, List.set_cons_succ]
      refine wpAnyH_take (i := 5) (oi := ⟨some 52, _, _, _, _, _⟩) (v := ?va6) rfl (by kernel_rfl) (by kernel_rfl) (by kernel_rfl) (fun _ _ _ h => h) (Or.inl ⟨by rfl, ?hya6⟩) (by assumption) ?resta6
      case hya6 => (intro w hSw; (try dsimp only at hSw); go_simp <;> with_reducible rfl)
      try simp only [Act.put, List.setIfInBounds_toArray, List.set_cons_zero, List.set_cons_succ]
      refine wpAnyH_take (i := 6) (oi := ⟨some 53, _, _, _, _, _⟩) (v := ?va7) rfl (by kernel_rfl) (by kernel_rfl) (by kernel_rfl) (fun _ _ _ h => h) (Or.inl ⟨by rfl, ?hya7⟩) (by assumption) ?resta7
      case hya7 => (intro w hSw; (try dsimp only at hSw); go_simp <;> with_reducible rfl)
      try simp only [Act.put, List.setIfInBounds_toArray, List.set_cons_zero, List.set_cons_succ]
      refine wpAnyH_take (i := 7) (oi := ⟨some 54, _, _, _, _, _⟩) (v := ?va8) rfl (by kernel_rfl) (by kernel_rfl) (by kernel_rfl) (fun _ _ _ h => h) (Or.inl ⟨by rfl, ?hya8⟩) (by assumption) ?resta8
      case hya8 => (intro w hSw; (try dsimp only at hSw); go_simp <;> with_reducible rfl)
      try simp only [Act.put, List.setIfInBounds_toArray, List.set_cons_zero, List.set_cons_succ]
      refine wpAnyH_take (i := 8) (oi := ⟨some 55, _, _, _, _, _⟩) (v := ?va9) rfl (by kernel_rfl) (by kernel_rfl) (by kernel_rfl) (fun _ _ _ h => h) (Or.inl ⟨by rfl, ?hya9⟩) (by assumption) ?resta9
      case hya9 => (intro w hSw; (try dsimp only at hSw); go_simp <;> with_reducible rfl)
      try simp only [Act.put, List.setIfInBounds_toArray, List.set_cons_zero, List.set_cons_succ]
      refine wpAnyH_take (i := 9) (oi := ⟨some 56, _, _, _, _, _⟩) (v := ?va10) rfl (by kernel_rfl) (by kernel_rfl) (by kernel_rfl) (fun _ _ _ h => h) (Or.inl ⟨by rfl, ?hya10⟩) (by assumption) ?resta10
      case hya10 => (intro w hSw; (try dsimp only at hSw); go_simp <;> with_reducible rfl)
      try simp only [Act.put, List.setIfInBounds_toArray, List.set_cons_zero, List.set_cons_succ]
      refine wpAnyH_take (i := 10) (oi := ⟨some 57, _, _, _, _, _⟩) (v := ?va11) rfl (by kernel_rfl) (by kernel_rfl) (by kernel_rfl) (fun _ _ _ h => h) (Or.inl ⟨by rfl, ?hya11⟩) (by assumption) ?resta11
      case hya11 => (intro w hSw; (try dsimp only at hSw); go_simp <;> with_reducible rfl)
      try simp only [Act.put, List.setIfInBounds_toArray, List.set_cons_zero, List.set_cons_succ]
      refine wpAnyH_take (i := 12) (oi := ⟨some 59, _, _, _, _, _⟩) (v := ?va12) rfl (by kernel_rfl) (by kernel_rfl) (by kernel_rfl) (fun _ _ _ h => h) (Or.inl ⟨by rfl, ?hya12⟩) (by assumption) ?resta12
      case hya12 => (intro w hSw; (try dsimp only at hSw); go_simp <;> with_reducible rfl)
      try simp only [Act.put, List.setIfInBounds_toArray, List.set_cons_zero, List.set_cons_succ]
      refine wpAnyH_take (i := 13) (oi := ⟨some 60, _, _, _, _, _⟩) (v := ?va13) rfl (by kernel_rfl) (by kernel_rfl) (by kernel_rfl) (fun _ _ _ h => h) (Or.inl ⟨by rfl, ?hya13⟩) (by assumption) ?resta13
      case hya13 => (intro w hSw; (try dsimp only at hSw); go_simp <;> with_reducible rfl)
      try simp only [Act.put, List.setIfInBounds_toArray, List.set_cons_zero, List.set_cons_succ]
      refine wpAnyH_take (i := 14) (oi := ⟨some 61, _, _, _, _, _⟩) (v := ?va14) rfl (by kernel_rfl) (by kernel_rfl) (by kernel_rfl) (fun _ _ _ h => h) (Or.inl ⟨by rfl, ?hya14⟩) (by assumption) ?resta14
      case hya14 => (intro w hSw; (try dsimp only at hSw); go_simp <;> with_reducible rfl)
      try simp only [Act.put, List.setIfInBounds_toArray, List.set_cons_zero, List.set_cons_succ]
      refine wpAnyH_take (i := 15) (oi := ⟨some 62, _, _, _, _, _⟩) (v := ?va15) rfl (by kernel_rfl) (by kernel_rfl) (by kernel_rfl) (fun _ _ _ h => h) (Or.inl ⟨by rfl, ?hya15⟩) (by assumption) ?resta15
      case hya15 => (intro w hSw; (try dsimp only at hSw); go_simp <;> with_reducible rfl)
      try simp only [Act.put, List.setIfInBounds_toArray, List.set_cons_zero, List.set_cons_succ]
      refine wpAnyH_take (i := 16) (oi := ⟨some 63, _, _, _, _, _⟩) (v := ?va16) rfl (by kernel_rfl) (by kernel_rfl) (by kernel_rfl) (fun _ _ _ h => h) (Or.inl ⟨by rfl, ?hya16⟩) (by assumption) ?resta16
      case hya16 => (intro w hSw; (try dsimp only at hSw); go_simp <;> with_reducible rfl)
      try simp only [Act.put, List.setIfInBounds_toArray, List.set_cons_zero, List.set_cons_succ]
      refine wpAnyH_take (i := 17) (oi := ⟨some 64, _, _, _, _, _⟩) (v := ?va17) rfl (by kernel_rfl) (by kernel_rfl) (by kernel_rfl) (fun _ _ _ h => h) (Or.inl ⟨by rfl, ?hya17⟩) (by assumption) ?resta17
      case hya17 => (intro w hSw; (try dsimp only at hSw); go_simp <;> with_reducible rfl)
      try simp only [Act.put, List.setIfInBounds_toArray, List.set_cons_zero, List.set_cons_succ]
      refine wpAnyH_take (i := 18) (oi := ⟨some 65, _, _, _, _, _⟩) (v := ?va18) rfl (by kernel_rfl) (by kernel_rfl) (by kernel_rfl) (fun _ _ _ h => h) (Or.inl ⟨by rfl, ?hya18⟩) (by assumption) ?resta18
      case hya18 => (intro w hSw; (try dsimp only at hSw); go_simp <;> with_reducible rfl)
      try simp only [Act.put, List.setIfInBounds_toArray, List.set_cons_zero, List.set_cons_succ]
      refine wpAnyH_take (i := 19) (oi := ⟨some 66, _, _, _, _, _⟩) (v := ?va19) rfl (by kernel_rfl) (by kernel_rfl) (by kernel_rfl) (fun _ _ _ h => h) (Or.inl ⟨by rfl, ?hya19⟩) (by assumption) ?resta19
      case hya19 => (intro w hSw; (try dsimp only at hSw); go_simp <;> with_reducible rfl)
      try simp only [Act.put, List.setIfInBounds_toArray, List.set_cons_zero, List.set_cons_succ]
      refine wpAnyH_take (i := 20) (oi := ⟨some 67, _, _, _, _, _⟩) (v := ?va20) rfl (by kernel_rfl) (by kernel_rfl) (by kernel_rfl) (fun _ _ _ h => h) (Or.inl ⟨by rfl, ?hya20⟩) (by assumption) ?resta20
      case hya20 => (intro w hSw; (try dsimp only at hSw); go_simp <;> with_reducible rfl)
      try simp only [Act.put, List.setIfInBounds_toArray, List.set_cons_zero, List.set_cons_succ]
      refine wpAnyH_take (i := 21) (oi := ⟨some 68, _, _, _, _, _⟩) (v := ?va21) rfl (by kernel_rfl) (by kernel_rfl) (by kernel_rfl) (fun _ _ _ h => h) (Or.inl ⟨by rfl, ?hya21⟩) (by assumption) ?resta21
      case hya21 => (intro w hSw; (try dsimp only at hSw); go_simp <;> with_reducible rfl)
      try simp only [Act.put, List.setIfInBounds_toArray, List.set_cons_zero, List.set_cons_succ]
      refine wpAnyH_take (i := 23) (oi := ⟨some 70, _, _, _, _, _⟩) (v := ?va22) rfl (by kernel_rfl) (by kernel_rfl) (by kernel_rfl) (fun _ _ _ h => h) (Or.inl ⟨by rfl, ?hya22⟩) (by assumption) ?resta22
      case hya22 => (intro w hSw; (try dsimp only at hSw); go_simp <;> with_reducible rfl)
      try simp only [Act.put, List.setIfInBounds_toArray, List.set_cons_zero, List.set_cons_succ]
      refine wpAnyH_take (i := 24) (oi := ⟨some 71, _, _, _, _, _⟩) (v := ?va23) rfl (by kernel_rfl) (by kernel_rfl) (by kernel_rfl) (fun _ _ _ h => h) (Or.inl ⟨by rfl, ?hya23⟩) (by assumption) ?resta23
      case hya23 => (intro w hSw; (try dsimp only at hSw); go_simp <;> with_reducible rfl)
      try simp only [Act.put, List.setIfInBounds_toArray, List.set_cons_zero, List.set_cons_succ]
      refine wpAnyH_ready (rs := [11]) (by kernel_rfl) (by simp) ?_
      refine AllReadyH.cons (o := ⟨some 58, _, _, _, _, _⟩) rfl (fun K hK => ?_) ?_
      · go_simp
        go_at_call 40
        refine (hT.out _ (by repeat (first | assumption | exact Below.refl _ _ | (refine bStep ?_ (by assumption)) | (with_reducible refine bAlc ?_ _) | (with_reducible refine bDrw ?_)))).mono ?_
        rintro e w1 ⟨v1, rfl, ho1, hb1⟩
        obtain ⟨A1, k1, rfl, hd1, hk1, hmm1, hg1⟩ := ho1.reads
        go_wp2_with fail
        refine hK.out _ _ ?_ (fun hHeld => ?_)
        · (refine hAll.out _ ?_; repeat (first | exact KX.refl _ _ _ | (refine KX.grown ?_ (by assumption)) | (refine KX.step ?_ (by assumption)) | (with_reducible refine KX.alloc ?_ _) | (with_reducible refine KX.drew ?_)))
        clear hK K
        try simp only [Act.put, List.setIfInBounds_toArray, List.set_cons_zero, List.set_cons_succ]
        refine wpAnyH_ready (rs := [22]) (by kernel_rfl) (by simp) ?_
        refine AllReadyH.cons (o := ⟨some 69, _, _, _, _, _⟩) rfl (fun K hK => ?_) ?_
        · go_simp
          go_at_call 26
          refine (hSo.out _ (by repeat (first | assumption | exact Below.refl _ _ | (refine bStep ?_ (by assumption)) | (with_reducible refine bAlc ?_ _) | (with_reducible refine bDrw ?_)))).mono ?_
          rintro e w2 ⟨v2, rfl, ho2, hb2⟩
          obtain ⟨A2, k2, rfl, hd2, hk2, hmm2, hg2⟩ := ho2.reads
          go_wp2_with fail
          refine hK.out _ _ ?_ (fun hHeld => ?_)
          · (refine hAll.out _ ?_; repeat (first | exact KX.refl _ _ _ | (refine KX.grown ?_ (by assumption)) | (refine KX.step ?_ (by assumption)) | (with_reducible refine KX.alloc ?_ _) | (with_reducible refine KX.drew ?_)))
          clear hK K
          try simp only [Act.put, List.setIfInBounds_toArray, List.set_cons_zero, List.set_cons_succ]
          refine wpAnyH_ready (rs := [25]) (by kernel_rfl) (by simp) ?_
          refine AllReadyH.cons (o := ⟨some 72, _, _, _, _, _⟩) rfl (fun K hK => ?_) ?_
          · go_simp
            go_at_call 41
            refine (hPl.out _).mono ?_
            rintro e w3 ⟨Bk, rfl, p1, p2, p3, p4⟩
            go_wp2_with fail
            refine hK.out _ _ ?_ (fun hHeld => ?_)
            · (refine hAll.out _ ?_; repeat (first | exact KX.refl _ _ _ | (refine KX.grown ?_ (by assumption)) | (refine KX.step ?_ (by assumption)) | (with_reducible refine KX.alloc ?_ _) | (with_reducible refine KX.drew ?_)))
            clear hK K
            try simp only [Act.put, List.setIfInBounds_toArray, List.set_cons_zero, List.set_cons_succ]
            refine wpAnyH_ready (rs := [26]) (by kernel_rfl) (by simp) ?_
            refine AllReadyH.cons (o := ⟨some 73, _, _, _, _, _⟩) rfl (fun K hK => ?_) ?_
            · go_simp
              go_at_call 39
              refine (hJ.out A1 k1 A2 k2 Bk _ (by repeat (first | assumption | exact Below.refl _ _ | (refine bStep ?_ (by assumption)) | (with_reducible refine bAlc ?_ _) | (with_reducible refine bDrw ?_))) (rdl_to hd1 (by repeat (first | assumption | exact Below.refl _ _ | (refine bStep ?_ (by assumption)) | (with_reducible refine bAlc ?_ _) | (with_reducible refine bDrw ?_)))) (rdl_to hd2 (by repeat (first | assumption | exact Below.refl _ _ | (refine bStep ?_ (by assumption)) | (with_reducible refine bAlc ?_ _) | (with_reducible refine bDrw ?_)))) (cell_later (by repeat (first | assumption | exact Below.refl _ _ | (refine bStep ?_ (by assumption)) | (with_reducible refine bAlc ?_ _) | (with_reducible refine bDrw ?_))) p1) (bk_lt p3 (by repeat (first | assumption | exact Below.refl _ _ | (refine bStep ?_ (by assumption)) | (with_reducible refine bAlc ?_ _) | (with_reducible refine bDrw ?_))))).mono ?_
              rintro e w4 ⟨rfl, hM4, hg4⟩
              go_wp2_with fail
              refine hK.out _ _ ?_ (fun hHeld => ?_)
              · (refine hAll.out _ ?_; repeat (first | exact KX.refl _ _ _ | (refine KX.grown ?_ (by assumption)) | (refine KX.step ?_ (by assumption)) | (with_reducible refine KX.alloc ?_ _) | (with_reducible refine KX.drew ?_)))
              clear hK K
              try simp only [Act.put, List.setIfInBounds_toArray, List.set_cons_zero, List.set_cons_succ]
              refine wpAnyH_done (by kernel_rfl) ?_ _
              go_wp2_with fail
              go_meet
              exact hEnd.out _ (by repeat (first | exact KX.refl _ _ _ | (refine KX.grown ?_ (by assumption)) | (refine KX.step ?_ (by assumption)) | (with_reducible refine KX.alloc ?_ _) | (with_reducible refine KX.drew ?_))) hM4
            exact AllReadyH.nil
          exact AllReadyH.nil
        exact AllReadyH.nil
      exact AllReadyH.nil
    · have hde : d = p.right.length := by omega
      have hT : Hid (∀ W' SA sn sc, sn = 0 → Below W1.heap.size W1 W' → Calls Try.prog 40 #[.agg #[.int .i64 g.k, .slice ta g.toks.length tc, .string g.sep, .slice na g.names.length nc, .int .i64 g.start, .slice (some ⟨b, off, none⟩) g.prods.length pc], .slice (some ⟨bo, 0, none⟩) g.names.length g.names.length, .slice SA sn sc] W' (RetL W' T)) :=
        Lib.hid fun W' SA sn sc h0 hb => by
          subst h0
          refine hT0.out SA 0 sc ?_ W' hb
          rw [hde, List.drop_length]
          exact ⟨rfl, .inl rfl⟩
      clear hT0 hx2 hx2'
      subst hde
      by_cases hcap : rc = p.right.length
      · refine wp_region_held_drew (S := (fun w' => w'.cell? ⟨w.heap.size, 0, none⟩ = some (.int .i64 g.k) ∧ w'.cell? ⟨w.heap.size, 1, none⟩ = some (.slice ta g.toks.length tc) ∧ w'.cell? ⟨w.heap.size, 2, none⟩ = some (.string g.sep) ∧ w'.cell? ⟨w.heap.size, 3, none⟩ = some (.slice na g.names.length nc) ∧ w'.cell? ⟨w.heap.size, 4, none⟩ = some (.int .i64 g.start) ∧ w'.cell? ⟨w.heap.size, 5, none⟩ = some (.slice (some ⟨b, off, none⟩) g.prods.length pc) ∧
          w'.cell? ⟨b, off + i * 2, none⟩ = some (.int .i64 p.left) ∧ w'.cell? ⟨b, off + i * 2 + 1, none⟩ = some (.slice RA p.right.length rc) ∧ w'.cell? ⟨fo, jx, none⟩ = some (.map (some mb2)) ∧ KX W1 mb mb w')) (by kernel_rfl) (hAll.out _ (KX.refl _ _ _).drew) (fun hHeld => ?_)
        refine wpAnyH_take (i := 0) (oi := ⟨some 47, _, _, _, _, _⟩) (v := ?vb1) rfl (by kernel_rfl) (by kernel_rfl) (by kernel_rfl) (fun _ _ _ h => h) (Or.inl ⟨by rfl, ?hyb1⟩) (by assumption) ?restb1
        case hyb1 => (intro w hSw; (try dsimp only at hSw); go_simp <;> with_reducible rfl)
        try simp only [Act.put, List.setIfInBounds_toArray, List.set_cons_zero, List.set_cons_succ]
        refine wpAnyH_take (i := 1) (oi := ⟨some 48, _, _, _, _, _⟩) (v := ?vb2) rfl (by kernel_rfl) (by kernel_rfl) (by kernel_rfl) (fun _ _ _ h => h) (Or.inl ⟨by rfl, ?hyb2⟩) (by assumption) ?restb2
        case hyb2 => (intro w hSw; (try dsimp only at hSw); go_simp <;> with_reducible rfl)
        try simp only [Act.put, List.setIfInBounds_toArray, List.set_cons_zero, List.set_cons_succ]
        refine wpAnyH_take (i := 2) (oi := ⟨some 49, _, _, _, _, _⟩) (v := ?vb3) rfl (by kernel_rfl) (by kernel_rfl) (by kernel_rfl) (fun _ _ _ h => h) (Or.inl ⟨by rfl, ?hyb3⟩) (by assumption) ?restb3
        case hyb3 => (intro w hSw; (try dsimp only at hSw); go_simp <;> with_reducible rfl)
        try simp only [Act.put, List.setIfInBounds_toArray, List.set_cons_zero, List.set_cons_succ]
        refine wpAnyH_take (i := 3) (oi := ⟨some 50, _, _, _, _, _⟩) (v := ?vb4) rfl (by kernel_rfl) (by kernel_rfl) (by kernel_rfl) (fun _ _ _ h => h) (Or.inl ⟨by rfl, ?hyb4⟩) (by assumption) ?restb4
        case hyb4 => (intro w hSw; (try dsimp only at hSw); go_simp <;> with_reducible rfl)
        try simp only [Act.put, List.setIfInBounds_toArray, List.set_cons_zero, List.set_cons_succ]
        refine wpAnyH_take (i := 4) (oi := ⟨some 51, _, _, _, _, _⟩) (v := ?vb5) rfl (by kernel_rfl) (by kernel_rfl) (by kernel_rfl) (fun _ _ _ h => h) (Or.inl ⟨by rfl, ?hyb5⟩) (by assumption) ?restb5
        case hyb5 => (intro w hSw; (try dsimp only at hSw); go_simp <;> with_reducible rfl)
        try simp only [Act.put, List.setIfInBounds_toArray, List.set_cons_zero, List.set_cons_succ]
        refine wpAnyH_take (i := 5) (oi := ⟨some 52, _, _, _, _, _⟩) (v := ?vb6) rfl (by kernel_rfl) (by kernel_rfl) (by kernel_rfl) (fun _ _ _ h => h) (Or.inl ⟨by rfl, ?hyb6⟩) (by assumption) ?restb6
        case hyb6 => (intro w hSw; (try dsimp only at hSw); go_simp <;> with_reducible rfl)
        try simp only [Act.put, List.setIfInBounds_toArray, List.set_cons_zero, List.set_cons_succ]
        refine wpAnyH_take (i := 6) (oi := ⟨some 53, _, _, _, _, _⟩) (v := ?vb7) rfl (by kernel_rfl) (by kernel_rfl) (by kernel_rfl) (fun _ _ _ h => h) (Or.inl ⟨by rfl, ?hyb7⟩) (by assumption) ?restb7
        case hyb7 => (intro w hSw; (try dsimp only at hSw); go_simp <;> with_reducible rfl)
        try simp only [Act.put, List.setIfInBounds_toArray, List.set_cons_zero, List.set_cons_succ]
        refine wpAnyH_take (i := 7) (oi := ⟨some 54, _, _, _, _, _⟩) (v := ?vb8) rfl (by kernel_rfl) (by kernel_rfl) (by kernel_rfl) (fun _ _ _ h => h) (Or.inl ⟨by rfl, ?hyb8⟩) (by assumption) ?restb8
        case hyb8 => (intro w hSw; (try dsimp only at hSw); go_simp <;> with_reducible rfl)
        try simp only [Act.put, List.setIfInBounds_toArray, List.set_cons_zero, List.set_cons_succ]
        refine wpAnyH_take (i := 8) (oi := ⟨some 55, _, _, _, _, _⟩) (v := ?vb9) rfl (by kernel_rfl) (by kernel_rfl) (by kernel_rfl) (fun _ _ _ h => h) (Or.inl ⟨by rfl, ?hyb9⟩) (by assumption) ?restb9
        case hyb9 => (intro w hSw; (try dsimp only at hSw); go_simp <;> with_reducible rfl)
        try simp only [Act.put, List.setIfInBounds_toArray, List.set_cons_zero, List.set_cons_succ]
        refine wpAnyH_take (i := 9) (oi := ⟨some 56, _, _, _, _, _⟩) (v := ?vb10) rfl (by kernel_rfl) (by kernel_rfl) (by kernel_rfl) (fun _ _ _ h => h) (Or.inl ⟨by rfl, ?hyb10⟩) (by assumption) ?restb10
        case hyb10 => (intro w hSw; (try dsimp only at hSw); go_simp <;> with_reducible rfl)
        try simp only [Act.put, List.setIfInBounds_toArray, List.set_cons_zero, List.set_cons_succ]
        refine wpAnyH_take (i := 10) (oi := ⟨some 57, _, _, _, _, _⟩) (v := ?vb11) rfl (by kernel_rfl) (by kernel_rfl) (by kernel_rfl) (fun _ _ _ h => h) (Or.inl ⟨by rfl, ?hyb11⟩) (by assumption) ?restb11
        case hyb11 => (intro w hSw; (try dsimp only at hSw); go_simp <;> with_reducible rfl)
        try simp only [Act.put, List.setIfInBounds_toArray, List.set_cons_zero, List.set_cons_succ]
        refine wpAnyH_take (i := 12) (oi := ⟨some 59, _, _, _, _, _⟩) (v := ?vb12) rfl (by kernel_rfl) (by kernel_rfl) (by kernel_rfl) (fun _ _ _ h => h) (Or.inl ⟨by rfl, ?hyb12⟩) (by assumption) ?restb12
        case hyb12 => (intro w hSw; (try dsimp only at hSw); go_simp <;> with_reducible rfl)
        try simp only [Act.put, List.setIfInBounds_toArray, List.set_cons_zero, List.set_cons_succ]
        refine wpAnyH_take (i := 13) (oi := ⟨some 60, _, _, _, _, _⟩) (v := ?vb13) rfl (by kernel_rfl) (by kernel_rfl) (by kernel_rfl) (fun _ _ _ h => h) (Or.inl ⟨by rfl, ?hyb13⟩) (by assumption) ?restb13
        case hyb13 => (intro w hSw; (try dsimp only at hSw); go_simp <;> with_reducible rfl)
        try simp only [Act.put, List.setIfInBounds_toArray, List.set_cons_zero, List.set_cons_succ]
        refine wpAnyH_take (i := 14) (oi := ⟨some 61, _, _, _, _, _⟩) (v := ?vb14) rfl (by kernel_rfl) (by kernel_rfl) (by kernel_rfl) (fun _ _ _ h => h) (Or.inl ⟨by rfl, ?hyb14⟩) (by assumption) ?restb14
        case hyb14 => (intro w hSw; (try dsimp only at hSw); go_simp <;> with_reducible rfl)
        try simp only [Act.put, List.setIfInBounds_toArray, List.set_cons_zero, List.set_cons_succ]
        refine wpAnyH_take (i := 15) (oi := ⟨some 62, _, _, _, _, _⟩) (v := ?vb15) rfl (by kernel_rfl) (by kernel_rfl) (by kernel_rfl) (fun _ _ _ h => h) (Or.inl ⟨by rfl, ?hyb15⟩) (by assumption) ?restb15
        case hyb15 => (intro w hSw; (try dsimp only at hSw); go_simp <;> with_reducible rfl)
        try simp only [Act.put, List.setIfInBounds_toArray, List.set_cons_zero, List.set_cons_succ]
        refine wpAnyH_take (i := 16) (oi := ⟨some 63, _, _, _, _, _⟩) (v := ?vb16) rfl (by kernel_rfl) (by kernel_rfl) (by kernel_rfl) (fun _ _ _ h => h) (Or.inl ⟨by rfl, ?hyb16⟩) (by assumption) ?restb16
        case hyb16 => (intro w hSw; (try dsimp only at hSw); go_simp <;> with_reducible rfl)
        try simp only [Act.put, List.setIfInBounds_toArray, List.set_cons_zero, List.set_cons_succ]
        refine wpAnyH_take (i := 17) (oi := ⟨some 64, _, _, _, _, _⟩) (v := ?vb17) rfl (by kernel_rfl) (by kernel_rfl) (by kernel_rfl) (fun _ _ _ h => h) (Or.inl ⟨by rfl, ?hyb17⟩) (by assumption) ?restb17
        case hyb17 => (intro w hSw; (try dsimp only at hSw); go_simp <;> with_reducible rfl)
        try simp only [Act.put, List.setIfInBounds_toArray, List.set_cons_zero, List.set_cons_succ]
        refine wpAnyH_take (i := 18) (oi := ⟨some 65, _, _, _, _, _⟩) (v := ?vb18) rfl (by kernel_rfl) (by kernel_rfl) (by kernel_rfl) (fun _ _ _ h => h) (Or.inl ⟨by rfl, ?hyb18⟩) (by assumption) ?restb18
        case hyb18 => (intro w hSw; (try dsimp only at hSw); go_simp <;> with_reducible rfl)
        try simp only [Act.put, List.setIfInBounds_toArray, List.set_cons_zero, List.set_cons_succ]
        refine wpAnyH_take (i := 19) (oi := ⟨some 66, _, _, _, _, _⟩) (v := ?vb19) rfl (by kernel_rfl) (by kernel_rfl) (by kernel_rfl) (fun _ _ _ h => h) (Or.inl ⟨by rfl, ?hyb19⟩) (by assumption) ?restb19
        case hyb19 => (intro w hSw; (try dsimp only at hSw); go_simp <;> with_reducible rfl)
        try simp only [Act.put, List.setIfInBounds_toArray, List.set_cons_zero, List.set_cons_succ]
        refine wpAnyH_take (i := 20) (oi := ⟨some 67, _, _, _, _, _⟩) (v := ?vb20) rfl (by kernel_rfl) (by kernel_rfl) (by kernel_rfl) (fun _ _ _ h => h) (Or.inl ⟨by rfl, ?hyb20⟩) (by assumption) ?restb20
        case hyb20 => (intro w hSw; (try dsimp only at hSw); go_simp <;> with_reducible rfl)
        try simp only [Act.put, List.setIfInBounds_toArray, List.set_cons_zero, List.set_cons_succ]
        refine wpAnyH_take (i := 21) (oi := ⟨some 68, _, _, _, _, _⟩) (v := ?vb21) rfl (by kernel_rfl) (by kernel_rfl) (by kernel_rfl) (fun _ _ _ h => h) (Or.inl ⟨by rfl, ?hyb21⟩) (by assumption) ?restb21
        case hyb21 => (intro w hSw; (try dsimp only at hSw); go_simp <;> with_reducible rfl)
        try simp only [Act.put, List.setIfInBounds_toArray, List.set_cons_zero, List.set_cons_succ]
        refine wpAnyH_take (i := 23) (oi := ⟨some 70, _, _, _, _, _⟩) (v := ?vb22) rfl (by kernel_rfl) (by kernel_rfl) (by kernel_rfl) (fun _ _ _ h => h) (Or.inl ⟨by rfl, ?hyb22⟩) (by assumption) ?restb22
        case hyb22 => (intro w hSw; (try dsimp only at hSw); go_simp <;> with_reducible rfl)
        try simp only [Act.put, List.setIfInBounds_toArray, List.set_cons_zero, List.set_cons_succ]
        refine wpAnyH_take (i := 24) (oi := ⟨some 71, _, _, _, _, _⟩) (v := ?vb23) rfl (by kernel_rfl) (by kernel_rfl) (by kernel_rfl) (fun _ _ _ h => h) (Or.inl ⟨by rfl, ?hyb23⟩) (by assumption) ?restb23
        case hyb23 => (intro w hSw; (try dsimp only at hSw); go_simp <;> with_reducible rfl)
        try simp only [Act.put, List.setIfInBounds_toArray, List.set_cons_zero, List.set_cons_succ]
        refine wpAnyH_ready (rs := [11]) (by kernel_rfl) (by simp) ?_
        refine AllReadyH.cons (o := ⟨some 58, _, _, _, _, _⟩) rfl (fun K hK => ?_) ?_
        · go_simp
          go_at_call 40
          refine (hT.out _ _ _ _ (by first | rfl | omega) (by repeat (first | assumption | exact Below.refl _ _ | (refine bStep ?_ (by assumption)) | (with_reducible refine bAlc ?_ _) | (with_reducible refine bDrw ?_)))).mono ?_
          rintro e w1 ⟨v1, rfl, ho1, hb1⟩
          obtain ⟨A1, k1, rfl, hd1, hk1, hmm1, hg1⟩ := ho1.reads
          go_wp2_with fail
          refine hK.out _ _ ?_ (fun hHeld => ?_)
          · (refine hAll.out _ ?_; repeat (first | exact KX.refl _ _ _ | (refine KX.grown ?_ (by assumption)) | (refine KX.step ?_ (by assumption)) | (with_reducible refine KX.alloc ?_ _) | (with_reducible refine KX.drew ?_)))
          clear hK K
          try simp only [Act.put, List.setIfInBounds_toArray, List.set_cons_zero, List.set_cons_succ]
          refine wpAnyH_ready (rs := [22]) (by kernel_rfl) (by simp) ?_
          refine AllReadyH.cons (o := ⟨some 69, _, _, _, _, _⟩) rfl (fun K hK => ?_) ?_
          · go_simp
            go_at_call 26
            refine (hSo.out _ (by repeat (first | assumption | exact Below.refl _ _ | (refine bStep ?_ (by assumption)) | (with_reducible refine bAlc ?_ _) | (with_reducible refine bDrw ?_)))).mono ?_
            rintro e w2 ⟨v2, rfl, ho2, hb2⟩
            obtain ⟨A2, k2, rfl, hd2, hk2, hmm2, hg2⟩ := ho2.reads
            go_wp2_with fail
            refine hK.out _ _ ?_ (fun hHeld => ?_)
            · (refine hAll.out _ ?_; repeat (first | exact KX.refl _ _ _ | (refine KX.grown ?_ (by assumption)) | (refine KX.step ?_ (by assumption)) | (with_reducible refine KX.alloc ?_ _) | (with_reducible refine KX.drew ?_)))
            clear hK K
            try simp only [Act.put, List.setIfInBounds_toArray, List.set_cons_zero, List.set_cons_succ]
            refine wpAnyH_ready (rs := [25]) (by kernel_rfl) (by simp) ?_
            refine AllReadyH.cons (o := ⟨some 72, _, _, _, _, _⟩) rfl (fun K hK => ?_) ?_
            · go_simp
              go_at_call 41
              refine (hPl.out _).mono ?_
              rintro e w3 ⟨Bk, rfl, p1, p2, p3, p4⟩
              go_wp2_with fail
              refine hK.out _ _ ?_ (fun hHeld => ?_)
              · (refine hAll.out _ ?_; repeat (first | exact KX.refl _ _ _ | (refine KX.grown ?_ (by assumption)) | (refine KX.step ?_ (by assumption)) | (with_reducible refine KX.alloc ?_ _) | (with_reducible refine KX.drew ?_)))
              clear hK K
              try simp only [Act.put, List.setIfInBounds_toArray, List.set_cons_zero, List.set_cons_succ]
              refine wpAnyH_ready (rs := [26]) (by kernel_rfl) (by simp) ?_
              refine AllReadyH.cons (o := ⟨some 73, _, _, _, _, _⟩) rfl (fun K hK => ?_) ?_
              · go_simp
                go_at_call 39
                refine (hJ.out A1 k1 A2 k2 Bk _ (by repeat (first | assumption | exact Below.refl _ _ | (refine bStep ?_ (by assumption)) | (with_reducible refine bAlc ?_ _) | (with_reducible refine bDrw ?_))) (rdl_to hd1 (by repeat (first | assumption | exact Below.refl _ _ | (refine bStep ?_ (by assumption)) | (with_reducible refine bAlc ?_ _) | (with_reducible refine bDrw ?_)))) (rdl_to hd2 (by repeat (first | assumption | exact Below.refl _ _ | (refine bStep ?_ (by assumption)) | (with_reducible refine bAlc ?_ _) | (with_reducible refine bDrw ?_)))) (cell_later (by repeat (first | assumption | exact Below.refl _ _ | (refine bStep ?_ (by assumption)) | (with_reducible refine bAlc ?_ _) | (with_reducible refine bDrw ?_))) p1) (bk_lt p3 (by repeat (first | assumption | exact Below.refl _ _ | (refine bStep ?_ (by assumption)) | (with_reducible refine bAlc ?_ _) | (with_reducible refine bDrw ?_))))).mono ?_
                rintro e w4 ⟨rfl, hM4, hg4⟩
                go_wp2_with fail
                refine hK.out _ _ ?_ (fun hHeld => ?_)
                · (refine hAll.out _ ?_; repeat (first | exact KX.refl _ _ _ | (refine KX.grown ?_ (by assumption)) | (refine KX.step ?_ (by assumption)) | (with_reducible refine KX.alloc ?_ _) | (with_reducible refine KX.drew ?_)))
                clear hK K
                try simp only [Act.put, List.setIfInBounds_toArray, List.set_cons_zero, List.set_cons_succ]
                refine wpAnyH_done (by kernel_rfl) ?_ _
                go_wp2_with fail
                go_meet
                exact hEnd.out _ (by repeat (first | exact KX.refl _ _ _ | (refine KX.grown ?_ (by assumption)) | (refine KX.step ?_ (by assumption)) | (with_reducible refine KX.alloc ?_ _) | (with_reducible refine KX.drew ?_))) hM4
              exact AllReadyH.nil
            exact AllReadyH.nil
          exact AllReadyH.nil
        exact AllReadyH.nil
      · refine wp_region_held_drew (S := (fun w' => w'.cell? ⟨w.heap.size, 0, none⟩ = some (.int .i64 g.k) ∧ w'.cell? ⟨w.heap.size, 1, none⟩ = some (.slice ta g.toks.length tc) ∧ w'.cell? ⟨w.heap.size, 2, none⟩ = some (.string g.sep) ∧ w'.cell? ⟨w.heap.size, 3, none⟩ = some (.slice na g.names.length nc) ∧ w'.cell? ⟨w.heap.size, 4, none⟩ = some (.int .i64 g.start) ∧ w'.cell? ⟨w.heap.size, 5, none⟩ = some (.slice (some ⟨b, off, none⟩) g.prods.length pc) ∧
          w'.cell? ⟨b, off + i * 2, none⟩ = some (.int .i64 p.left) ∧ w'.cell? ⟨b, off + i * 2 + 1, none⟩ = some (.slice RA p.right.length rc) ∧ w'.cell? ⟨fo, jx, none⟩ = some (.map (some mb2)) ∧ KX W1 mb mb w')) (by kernel_rfl) (hAll.out _ (KX.refl _ _ _).drew) (fun hHeld => ?_)
        refine wpAnyH_take (i := 0) (oi := ⟨some 47, _, _, _, _, _⟩) (v := ?vc1) rfl (by kernel_rfl) (by kernel_rfl) (by kernel_rfl) (fun _ _ _ h => h) (Or.inl ⟨by rfl, ?hyc1⟩) (by assumption) ?restc1
        case hyc1 => (intro w hSw; (try dsimp only at hSw); go_simp <;> with_reducible rfl)
        try simp only [Act.put, List.setIfInBounds_toArray, List.set_cons_zero, List.set_cons_succ]
        refine wpAnyH_take (i := 1) (oi := ⟨some 48, _, _, _, _, _⟩) (v := ?vc2) rfl (by kernel_rfl) (by kernel_rfl) (by kernel_rfl) (fun _ _ _ h => h) (Or.inl ⟨by rfl, ?hyc2⟩) (by assumption) ?restc2
        case hyc2 => (intro w hSw; (try dsimp only at hSw); go_simp <;> with_reducible rfl)
        try simp only [Act.put, List.setIfInBounds_toArray, List.set_cons_zero, List.set_cons_succ]
        refine wpAnyH_take (i := 2) (oi := ⟨some 49, _, _, _, _, _⟩) (v := ?vc3) rfl (by kernel_rfl) (by kernel_rfl) (by kernel_rfl) (fun _ _ _ h => h) (Or.inl ⟨by rfl, ?hyc3⟩) (by assumption) ?restc3
        case hyc3 => (intro w hSw; (try dsimp only at hSw); go_simp <;> with_reducible rfl)
        try simp only [Act.put, List.setIfInBounds_toArray, List.set_cons_zero, List.set_cons_succ]
        refine wpAnyH_take (i := 3) (oi := ⟨some 50, _, _, _, _, _⟩) (v := ?vc4) rfl (by kernel_rfl) (by kernel_rfl) (by kernel_rfl) (fun _ _ _ h => h) (Or.inl ⟨by rfl, ?hyc4⟩) (by assumption) ?restc4
        case hyc4 => (intro w hSw; (try dsimp only at hSw); go_simp <;> with_reducible rfl)
        try simp only [Act.put, List.setIfInBounds_toArray, List.set_cons_zero, List.set_cons_succ]
        refine wpAnyH_take (i := 4) (oi := ⟨some 51, _, _, _, _, _⟩) (v := ?vc5) rfl (by kernel_rfl) (by kernel_rfl) (by kernel_rfl) (fun _ _ _ h => h) (Or.inl ⟨by rfl, ?hyc5⟩) (by assumption) ?restc5
        case hyc5 => (intro w hSw; (try dsimp only at hSw); go_simp <;> with_reducible rfl)
        try simp only [Act.put, List.setIfInBounds_toArray, List.set_cons_zero, List.set_cons_succ]
        refine wpAnyH_take (i := 5) (oi := ⟨some 52, _, _, _, _, _⟩) (v := ?vc6) rfl (by kernel_rfl) (by kernel_rfl) (by kernel_rfl) (fun _ _ _ h => h) (Or.inl ⟨by rfl, ?hyc6⟩) (by assumption) ?restc6
        case hyc6 => (intro w hSw; (try dsimp only at hSw); go_simp <;> with_reducible rfl)
        try simp only [Act.put, List.setIfInBounds_toArray, List.set_cons_zero, List.set_cons_succ]
        refine wpAnyH_take (i := 6) (oi := ⟨some 53, _, _, _, _, _⟩) (v := ?vc7) rfl (by kernel_rfl) (by kernel_rfl) (by kernel_rfl) (fun _ _ _ h => h) (Or.inl ⟨by rfl, ?hyc7⟩) (by assumption) ?restc7
        case hyc7 => (intro w hSw; (try dsimp only at hSw); go_simp <;> with_reducible rfl)
        try simp only [Act.put, List.setIfInBounds_toArray, List.set_cons_zero, List.set_cons_succ]
        refine wpAnyH_take (i := 7) (oi := ⟨some 54, _, _, _, _, _⟩) (v := ?vc8) rfl (by kernel_rfl) (by kernel_rfl) (by kernel_rfl) (fun _ _ _ h => h) (Or.inl ⟨by rfl, ?hyc8⟩) (by assumption) ?restc8
        case hyc8 => (intro w hSw; (try dsimp only at hSw); go_simp <;> with_reducible rfl)
        try simp only [Act.put, List.setIfInBounds_toArray, List.set_cons_zero, List.set_cons_succ]
        refine wpAnyH_take (i := 8) (oi := ⟨some 55, _, _, _, _, _⟩) (v := ?vc9) rfl (by kernel_rfl) (by kernel_rfl) (by kernel_rfl) (fun _ _ _ h => h) (Or.inl ⟨by rfl, ?hyc9⟩) (by assumption) ?restc9
        case hyc9 => (intro w hSw; (try dsimp only at hSw); go_simp <;> with_reducible rfl)
        try simp only [Act.put, List.setIfInBounds_toArray, List.set_cons_zero, List.set_cons_succ]
        refine wpAnyH_take (i := 9) (oi := ⟨some 56, _, _, _, _, _⟩) (v := ?vc10) rfl (by kernel_rfl) (by kernel_rfl) (by kernel_rfl) (fun _ _ _ h => h) (Or.inl ⟨by rfl, ?hyc10⟩) (by assumption) ?restc10
        case hyc10 => (intro w hSw; (try dsimp only at hSw); go_simp <;> with_reducible rfl)
        try simp only [Act.put, List.setIfInBounds_toArray, List.set_cons_zero, List.set_cons_succ]
        refine wpAnyH_take (i := 10) (oi := ⟨some 57, _, _, _, _, _⟩) (v := ?vc11) rfl (by kernel_rfl) (by kernel_rfl) (by kernel_rfl) (fun _ _ _ h => h) (Or.inl ⟨by rfl, ?hyc11⟩) (by assumption) ?restc11
        case hyc11 => (intro w hSw; (try dsimp only at hSw); go_simp <;> with_reducible rfl)
        try simp only [Act.put, List.setIfInBounds_toArray, List.set_cons_zero, List.set_cons_succ]
        refine wpAnyH_take (i := 12) (oi := ⟨some 59, _, _, _, _, _⟩) (v := ?vc12) rfl (by kernel_rfl) (by kernel_rfl) (by kernel_rfl) (fun _ _ _ h => h) (Or.inl ⟨by rfl, ?hyc12⟩) (by assumption) ?restc12
        case hyc12 => (intro w hSw; (try dsimp only at hSw); go_simp <;> with_reducible rfl)
        try simp only [Act.put, List.setIfInBounds_toArray, List.set_cons_zero, List.set_cons_succ]
        refine wpAnyH_take (i := 13) (oi := ⟨some 60, _, _, _, _, _⟩) (v := ?vc13) rfl (by kernel_rfl) (by kernel_rfl) (by kernel_rfl) (fun _ _ _ h => h) (Or.inl ⟨by rfl, ?hyc13⟩) (by assumption) ?restc13
        case hyc13 => (intro w hSw; (try dsimp only at hSw); go_simp <;> with_reducible rfl)
        try simp only [Act.put, List.setIfInBounds_toArray, List.set_cons_zero, List.set_cons_succ]
        refine wpAnyH_take (i := 14) (oi := ⟨some 61, _, _, _, _, _⟩) (v := ?vc14) rfl (by kernel_rfl) (by kernel_rfl) (by kernel_rfl) (fun _ _ _ h => h) (Or.inl ⟨by rfl, ?hyc14⟩) (by assumption) ?restc14
        case hyc14 => (intro w hSw; (try dsimp only at hSw); go_simp <;> with_reducible rfl)
        try simp only [Act.put, List.setIfInBounds_toArray, List.set_cons_zero, List.set_cons_succ]
        refine wpAnyH_take (i := 15) (oi := ⟨some 62, _, _, _, _, _⟩) (v := ?vc15) rfl (by kernel_rfl) (by kernel_rfl) (by kernel_rfl) (fun _ _ _ h => h) (Or.inl ⟨by rfl, ?hyc15⟩) (by assumption) ?restc15
        case hyc15 => (intro w hSw; (try dsimp only at hSw); go_simp <;> with_reducible rfl)
        try simp only [Act.put, List.setIfInBounds_toArray, List.set_cons_zero, List.set_cons_succ]
        refine wpAnyH_take (i := 16) (oi := ⟨some 63, _, _, _, _, _⟩) (v := ?vc16) rfl (by kernel_rfl) (by kernel_rfl) (by kernel_rfl) (fun _ _ _ h => h) (Or.inl ⟨by rfl, ?hyc16⟩) (by assumption) ?restc16
        case hyc16 => (intro w hSw; (try dsimp only at hSw); go_simp <;> with_reducible rfl)
        try simp only [Act.put, List.setIfInBounds_toArray, List.set_cons_zero, List.set_cons_succ]
        refine wpAnyH_take (i := 17) (oi := ⟨some 64, _, _, _, _, _⟩) (v := ?vc17) rfl (by kernel_rfl) (by kernel_rfl) (by kernel_rfl) (fun _ _ _ h => h) (Or.inl ⟨by rfl, ?hyc17⟩) (by assumption) ?restc17
        case hyc17 => (intro w hSw; (try dsimp only at hSw); go_simp <;> with_reducible rfl)
        try simp only [Act.put, List.setIfInBounds_toArray, List.set_cons_zero, List.set_cons_succ]
        refine wpAnyH_take (i := 18) (oi := ⟨some 65, _, _, _, _, _⟩) (v := ?vc18) rfl (by kernel_rfl) (by kernel_rfl) (by kernel_rfl) (fun _ _ _ h => h) (Or.inl ⟨by rfl, ?hyc18⟩) (by assumption) ?restc18
        case hyc18 => (intro w hSw; (try dsimp only at hSw); go_simp <;> with_reducible rfl)
        try simp only [Act.put, List.setIfInBounds_toArray, List.set_cons_zero, List.set_cons_succ]
        refine wpAnyH_take (i := 19) (oi := ⟨some 66, _, _, _, _, _⟩) (v := ?vc19) rfl (by kernel_rfl) (by kernel_rfl) (by kernel_rfl) (fun _ _ _ h => h) (Or.inl ⟨by rfl, ?hyc19⟩) (by assumption) ?restc19
        case hyc19 => (intro w hSw; (try dsimp only at hSw); go_simp <;> with_reducible rfl)
        try simp only [Act.put, List.setIfInBounds_toArray, List.set_cons_zero, List.set_cons_succ]
        refine wpAnyH_take (i := 20) (oi := ⟨some 67, _, _, _, _, _⟩) (v := ?vc20) rfl (by kernel_rfl) (by kernel_rfl) (by kernel_rfl) (fun _ _ _ h => h) (Or.inl ⟨by rfl, ?hyc20⟩) (by assumption) ?restc20
        case hyc20 => (intro w hSw; (try dsimp only at hSw); go_simp <;> with_reducible rfl)
        try simp only [Act.put, List.setIfInBounds_toArray, List.set_cons_zero, List.set_cons_succ]
        refine wpAnyH_take (i := 21) (oi := ⟨some 68, _, _, _, _, _⟩) (v := ?vc21) rfl (by kernel_rfl) (by kernel_rfl) (by kernel_rfl) (fun _ _ _ h => h) (Or.inl ⟨by rfl, ?hyc21⟩) (by assumption) ?restc21
        case hyc21 => (intro w hSw; (try dsimp only at hSw); go_simp <;> with_reducible rfl)
        try simp only [Act.put, List.setIfInBounds_toArray, List.set_cons_zero, List.set_cons_succ]
        refine wpAnyH_take (i := 23) (oi := ⟨some 70, _, _, _, _, _⟩) (v := ?vc22) rfl (by kernel_rfl) (by kernel_rfl) (by kernel_rfl) (fun _ _ _ h => h) (Or.inl ⟨by rfl, ?hyc22⟩) (by assumption) ?restc22
        case hyc22 => (intro w hSw; (try dsimp only at hSw); go_simp <;> with_reducible rfl)
        try simp only [Act.put, List.setIfInBounds_toArray, List.set_cons_zero, List.set_cons_succ]
        refine wpAnyH_take (i := 24) (oi := ⟨some 71, _, _, _, _, _⟩) (v := ?vc23) rfl (by kernel_rfl) (by kernel_rfl) (by kernel_rfl) (fun _ _ _ h => h) (Or.inl ⟨by rfl, ?hyc23⟩) (by assumption) ?restc23
        case hyc23 => (intro w hSw; (try dsimp only at hSw); go_simp <;> with_reducible rfl)
        try simp only [Act.put, List.setIfInBounds_toArray, List.set_cons_zero, List.set_cons_succ]
        refine wpAnyH_ready (rs := [11]) (by kernel_rfl) (by simp) ?_
        refine AllReadyH.cons (o := ⟨some 58, _, _, _, _, _⟩) rfl (fun K hK => ?_) ?_
        · go_simp
          go_at_call 40
          refine (hT.out _ _ _ _ (by first | rfl | omega) (by repeat (first | assumption | exact Below.refl _ _ | (refine bStep ?_ (by assumption)) | (with_reducible refine bAlc ?_ _) | (with_reducible refine bDrw ?_)))).mono ?_
          rintro e w1 ⟨v1, rfl, ho1, hb1⟩
          obtain ⟨A1, k1, rfl, hd1, hk1, hmm1, hg1⟩ := ho1.reads
          go_wp2_with fail
          refine hK.out _ _ ?_ (fun hHeld => ?_)
          · (refine hAll.out _ ?_; repeat (first | exact KX.refl _ _ _ | (refine KX.grown ?_ (by assumption)) | (refine KX.step ?_ (by assumption)) | (with_reducible refine KX.alloc ?_ _) | (with_reducible refine KX.drew ?_)))
          clear hK K
          try simp only [Act.put, List.setIfInBounds_toArray, List.set_cons_zero, List.set_cons_succ]
          refine wpAnyH_ready (rs := [22]) (by kernel_rfl) (by simp) ?_
          refine AllReadyH.cons (o := ⟨some 69, _, _, _, _, _⟩) rfl (fun K hK => ?_) ?_
          · go_simp
            go_at_call 26
            refine (hSo.out _ (by repeat (first | assumption | exact Below.refl _ _ | (refine bStep ?_ (by assumption)) | (with_reducible refine bAlc ?_ _) | (with_reducible refine bDrw ?_)))).mono ?_
            rintro e w2 ⟨v2, rfl, ho2, hb2⟩
            obtain ⟨A2, k2, rfl, hd2, hk2, hmm2, hg2⟩ := ho2.reads
            go_wp2_with fail
            refine hK.out _ _ ?_ (fun hHeld => ?_)
            · (refine hAll.out _ ?_; repeat (first | exact KX.refl _ _ _ | (refine KX.grown ?_ (by assumption)) | (refine KX.step ?_ (by assumption)) | (with_reducible refine KX.alloc ?_ _) | (with_reducible refine KX.drew ?_)))
            clear hK K
            try simp only [Act.put, List.setIfInBounds_toArray, List.set_cons_zero, List.set_cons_succ]
            refine wpAnyH_ready (rs := [25]) (by kernel_rfl) (by simp) ?_
            refine AllReadyH.cons (o := ⟨some 72, _, _, _, _, _⟩) rfl (fun K hK => ?_) ?_
            · go_simp
              go_at_call 41
              refine (hPl.out _).mono ?_
              rintro e w3 ⟨Bk, rfl, p1, p2, p3, p4⟩
              go_wp2_with fail
              refine hK.out _ _ ?_ (fun hHeld => ?_)
              · (refine hAll.out _ ?_; repeat (first | exact KX.refl _ _ _ | (refine KX.grown ?_ (by assumption)) | (refine KX.step ?_ (by assumption)) | (with_reducible refine KX.alloc ?_ _) | (with_reducible refine KX.drew ?_)))
              clear hK K
              try simp only [Act.put, List.setIfInBounds_toArray, List.set_cons_zero, List.set_cons_succ]
              refine wpAnyH_ready (rs := [26]) (by kernel_rfl) (by simp) ?_
              refine AllReadyH.cons (o := ⟨some 73, _, _, _, _, _⟩) rfl (fun K hK => ?_) ?_
              · go_simp
                go_at_call 39
                refine (hJ.out A1 k1 A2 k2 Bk _ (by repeat (first | assumption | exact Below.refl _ _ | (refine bStep ?_ (by assumption)) | (with_reducible refine bAlc ?_ _) | (with_reducible refine bDrw ?_))) (rdl_to hd1 (by repeat (first | assumption | exact Below.refl _ _ | (refine bStep ?_ (by assumption)) | (with_reducible refine bAlc ?_ _) | (with_reducible refine bDrw ?_)))) (rdl_to hd2 (by repeat (first | assumption | exact Below.refl _ _ | (refine bStep ?_ (by assumption)) | (with_reducible refine bAlc ?_ _) | (with_reducible refine bDrw ?_)))) (cell_later (by repeat (first | assumption | exact Below.refl _ _ | (refine bStep ?_ (by assumption)) | (with_reducible refine bAlc ?_ _) | (with_reducible refine bDrw ?_))) p1) (bk_lt p3 (by repeat (first | assumption | exact Below.refl _ _ | (refine bStep ?_ (by assumption)) | (with_reducible refine bAlc ?_ _) | (with_reducible refine bDrw ?_))))).mono ?_
                rintro e w4 ⟨rfl, hM4, hg4⟩
                go_wp2_with fail
                refine hK.out _ _ ?_ (fun hHeld => ?_)
                · (refine hAll.out _ ?_; repeat (first | exact KX.refl _ _ _ | (refine KX.grown ?_ (by assumption)) | (refine KX.step ?_ (by assumption)) | (with_reducible refine KX.alloc ?_ _) | (with_reducible refine KX.drew ?_)))
                clear hK K
                try simp only [Act.put, List.setIfInBounds_toArray, List.set_cons_zero, List.set_cons_succ]
                refine wpAnyH_done (by kernel_rfl) ?_ _
                go_wp2_with fail
                go_meet
                exact hEnd.out _ (by repeat (first | exact KX.refl _ _ _ | (refine KX.grown ?_ (by assumption)) | (refine KX.step ?_ (by assumption)) | (with_reducible refine KX.alloc ?_ _) | (with_reducible refine KX.drew ?_))) hM4
              exact AllReadyH.nil
            exact AllReadyH.nil
          exact AllReadyH.nil
        exact AllReadyH.nil
  case rest =>
    obtain ⟨hM, hbW⟩ := hcut
    have hl6 : J.length ≤ 600 := hfew'.out J hJnd.out fun y hy => (hJmem.out y).1 hy
    have hlen := hM.len 3
    have hz9 : ¬ (600 : Int) < J.length := by omega
    have hL : Hid (BSet g p d (lset J)) := Lib.hid ⟨lset_asc fun x hx => (hJfit.out x hx).1, fun y => (lset_mem (k := 8) (fun x hx => (hJfit.out x hx).1) y).trans (hJmem.out y)⟩
    have hM' := Lib.hid hM
    have hbW' := Lib.hid hbW
    clear hM hbW
    go_wp2_with (go_at_call 26; refine (sorted_any mb J _ hM'.out (fun x hx => (hJfit.out x hx).1) (by omega)).mono ?_; rintro e w3 ⟨v3, rfl, ho3, hb3⟩)
    go_ret2
    exact hP.out _ _ _ hL.out (ho3.mono hbW'.out.size) (hbW'.out.trans (hb3.mono hbW'.out.size))
end Go.Proofs.Ytnnkfgekiaaehaa

/- follow.Behind: its errors, and what it hands back for a given grammar. -/
namespace Go.Proofs.Ytnnkfgekiaaehaa
open Go.ChangeShapes Go.WideShapes Go.ChangeAt Go.RowKit
set_option linter.unusedVariables false

/-- the reckoned list is what is behind -/
theorem bset_of {g : Gr} (hok : gchk g = 0) (m1 m2 : Nat) (hF : closedFB g.prods g.k.toNat (firstC g m1) = true) (hO : closedOB g.prods g.k.toNat (firstC g m1) (followC g m1 m2) = true) {p : Pr} (hp : p ∈ g.prods) (d : Nat) :
    BSet g p d (lset (behL g.k.toNat (firstC g m1) (followC g m1 m2) p d)) := by
  have hk := gok_of hok
  have hps : ∀ p ∈ g.prods, (16 ≤ p.left ∧ p.left < 16 + (g.names.length : Int)) ∧ ∀ s ∈ p.right, SymOk g.names.length s := fun p hp => ⟨(hk.pr p hp).1, hk.sym hp⟩
  have h1 : FirstOk g.prods g.k.toNat g.names.length (firstC g m1) := runF_ok hk.k1 hk.k4 hps m1 _ (firstOk_start _ _ _)
  have h2 : FollowOk g.prods g.k.toNat g.names.length g.start (followC g m1 m2) := runO_ok hk.k1 hk.k4 hps h1 m2 _ (followOk_start _ _ _ _ hk.st)
  have hfit : ∀ z ∈ behL g.k.toNat (firstC g m1) (followC g m1 m2) p d, Fit g.k.toNat z :=
    sums_fit hk.k4 (tail_fit hk.k1 hk.k4 h1.fit _ (fun z hz => hk.sym hp z (List.mem_of_mem_drop hz))) (lset_fit (setsFit_get h2.fit _))
  exact ⟨lset_asc fun x hx => (hfit x hx).1, fun y => (lset_mem (k := 8) (fun x hx => (hfit x hx).1) y).trans (behind_iff hok h1.fit h1.sound (closedF_of hF) h2.fit h2.sound (closedO_of h2.begin_ hO) hp d y)⟩
theorem BSet.few {g : Gr} {p : Pr} {d : Nat} {L : List Lk} (h : BSet g p d L) (hl : L.length ≤ 600) : FewB g p d := fun M hn hM => Nat.le_trans (nodup_len hn fun y hy => (h.2 y).2 (hM y hy)) hl
theorem exG_02 : BSet exG ⟨16, [0, 16, 1]⟩ 2 [Lk.of [1], Lk.of [1, 1]] := by
  have h := bset_of exG_ok 4 4 exG_first exG_follow (p := ⟨16, [0, 16, 1]⟩) (by decide +kernel) 2
  have e : lset (behL exG.k.toNat (firstC exG 4) (followC exG 4 4) ⟨16, [0, 16, 1]⟩ 2) = [Lk.of [1], Lk.of [1, 1]] := by decide +kernel
  rwa [e] at h
theorem exG_01 : BSet exG ⟨16, [0, 16, 1]⟩ 1 [Lk.of [0, 0], Lk.of [0, 1], Lk.of [0, 2], Lk.of [1], Lk.of [1, 1], Lk.of [2, 1]] := by
  have h := bset_of exG_ok 4 4 exG_first exG_follow (p := ⟨16, [0, 16, 1]⟩) (by decide +kernel) 1
  have e : lset (behL exG.k.toNat (firstC exG 4) (followC exG 4 4) ⟨16, [0, 16, 1]⟩ 1) = [Lk.of [0, 0], Lk.of [0, 1], Lk.of [0, 2], Lk.of [1], Lk.of [1, 1], Lk.of [2, 1]] := by decide +kernel
  rwa [e] at h
/-- a place that there is not -/
def noPlace (g : Gr) (i d : Int) : Prop := i < 0 ∨ (g.prods.length : Int) ≤ i ∨ d < 0 ∨ ∃ p, g.prods[i.toNat]? = some p ∧ (p.right.length : Int) < d

set_option maxRecDepth 100000 in
set_option maxHeartbeats 4000000 in
theorem behind_bad (g : Gr) (a : GA) (i d : Int) (w : World) (hg : GrAt w w.heap.size g a) (hok : gchk g = 0) (hno : noPlace g i d) :
    Calls Try.prog 22 #[gval g a, .int .i64 i, .int .i64 d] w fun e w' => e = .returned (.tuple #[.slice none 0 0, .int .i64 2]) ∧ Below w.heap.size w w' := by
  obtain ⟨ta, tc, na, nc, pa, pc⟩ := a
  have hG0 := GB.start hg
  have hC := Lib.hid (fun (W : World) (h : GrAt W W.heap.size g ⟨ta, tc, na, nc, pa, pc⟩) => gcheck_any g ⟨ta, tc, na, nc, pa, pc⟩ W h (small_of hok))
  rw [hok] at hC
  have hgp := Lib.hid hg.prods
  have hpl := (gok_of hok).pl
  clear hg hok
  unfold gval at *
  unfold gcells at *
  dsimp only at *
  go_enter Try.func22, Try.ntmps22
  go_upto_region 4 with (go_at_call 38; refine (hC.out _ ((hG0.2.1).mono hG0.2.2.size)).mono ?_; rintro e w1 ⟨rfl, hb1⟩)
  have hG1 := hG0.step hb1
  clear hG0 hb1
  obtain ⟨c0, c1, c2, c3, c4, c5⟩ := hG1.cells
  dsimp only at c1 c3 c5
  have hbW := Lib.hid hG1.2.2
  by_cases h1 : i < 0
  · clear hG1 hno
    go_wp2_with fail
    go_ret2
    exact ⟨rfl, hbW.out⟩
  by_cases h2 : (g.prods.length : Int) ≤ i
  · clear hG1 hno
    go_wp2_with fail
    go_ret2
    exact ⟨rfl, hbW.out⟩
  by_cases h3 : d < 0
  · clear hG1 hno
    go_wp2_with fail
    go_ret2
    exact ⟨rfl, hbW.out⟩
  obtain ⟨p, hp, hd⟩ : ∃ p, g.prods[i.toNat]? = some p ∧ (p.right.length : Int) < d := by
    rcases hno with h | h | h | h
    · exact absurd h h1
    · exact absurd h h2
    · exact absurd h h3
    · exact h
  obtain ⟨n, hn⟩ := Int.eq_ofNat_of_zero_le (show 0 ≤ i by omega)
  subst hn
  rw [Int.toNat_natCast] at hp
  obtain ⟨b, off, rfl, hbt, x0, RA, rc, x1, hx2, hx3, hx4⟩ := hgp.out.get hp
  have y1 := (hG1.2.2.cell (p := ⟨b, off + n * 2 + 1, none⟩) hbt).trans x1
  clear x0 x1 hx2
  replace hp := Lib.hid hp
  have hz1 : (0 : Int) ≤ n := by omega
  have hz2 : (n : Int) < g.prods.length := by omega
  have hz3 : ¬ d ≤ (p.right.length : Int) := by omega
  go_wp2_with fail
  go_ret2
  exact ⟨rfl, hbW.out⟩
end Go.Proofs.Ytnnkfgekiaaehaa

/- look.Check. -/
namespace Go.Proofs.Ytnnkfgekiaaehaa
open Go.ChangeShapes Go.WideShapes Go.ChangeAt Go.RowKit
set_option linter.unusedVariables false

theorem splice_of (l : List Int) (h : l.length ≤ 4) : (splice [Value.int .i64 0, .int .i64 0, .int .i64 0, .int .i64 0, .int .i64 0] 1 (ints l)).toArray = #[.int .i64 0, .int .i64 (Lk.of l).a, .int .i64 (Lk.of l).b, .int .i64 (Lk.of l).c, .int .i64 (Lk.of l).d] := by
  match l, h with
  | [], _ => rfl
  | [a], _ => rfl
  | [a, b], _ => rfl
  | [a, b, c], _ => rfl
  | [a, b, c, d], _ => rfl
  | a :: b :: c :: d :: e :: l, h => exfalso; simp at h
theorem size3 : (Try.prog.info? 3).map (·.size) = some 1 := by kernel_rfl
theorem copy_look {W1 : World} {g B : Nat} (q : Blk W1 g 42 #[.int .i64 0, .int .i64 0, .int .i64 0, .int .i64 0, .int .i64 0]) {A : Option Addr} {n : Nat} (c : Nat) {l : List Int} (h : Rd1 W1 B A n (ints l)) (hn : n ≤ 4) :
    ∃ W2, (Builtin.copy_ #[22, 22] 3 #[.slice (some ⟨g, 1, none⟩) 4 4, .slice A n c]).run Try.prog W1 = .ok (.int .i64 n) W2 ∧
      Blk W2 g 42 #[.int .i64 0, .int .i64 (Lk.of l).a, .int .i64 (Lk.of l).b, .int .i64 (Lk.of l).c, .int .i64 (Lk.of l).d] ∧ ∀ W0, Below W0.heap.size W0 W1 → W0.heap.size ≤ g → Below W0.heap.size W0 W2 := by
  have hl : l.length = n := by have := h.1; simpa [ints] using this
  have hsp := splice_of l (by omega)
  by_cases h0 : n = 0
  · subst h0
    have hln : l = [] := List.eq_nil_of_length_eq_zero hl
    subst hln
    exact ⟨W1, run_copy_none (P := Try.prog) W1 22 22 3 3 (some ⟨g, 1, none⟩) A 4 4 0 c under22 size3 (by simp), q, fun W0 hb _ => hb⟩
  · rcases h.2 with h2 | ⟨b, off, rfl, hbt, hc⟩
    · exact absurd h2 h0
    · have hmin : (ints l).length = Nat.min n 4 := by simp only [ints, List.length_map]; rw [hl]; exact (Nat.min_eq_left hn).symm
      have hr := run_copy_row (P := Try.prog) W1 22 22 3 3 g 1 4 4 ⟨b, off, none⟩ n c #[.int .i64 0, .int .i64 0, .int .i64 0, .int .i64 0, .int .i64 0] 42 (ints l) under22 size3 q hmin
        (fun j v hv => by
          have hadd : (⟨b, off, none⟩ : Addr).add j = ⟨b, off + j, none⟩ := by unfold Addr.add; split <;> simp_all
          rw [hadd]; exact hc j v hv) (by simp [ints]; omega) (fun v hv => by obtain ⟨z, _, rfl⟩ := List.mem_map.1 hv; rfl)
      have hil : (ints l).length = n := by simp [ints, hl]
      rw [show goInt (ints l).length = Value.int .i64 n by rw [hil]; rfl] at hr
      have e : ((#[Value.int .i64 0, .int .i64 0, .int .i64 0, .int .i64 0, .int .i64 0] : Array Value).toList.take 1 ++ ints l ++ (#[Value.int .i64 0, .int .i64 0, .int .i64 0, .int .i64 0, .int .i64 0] : Array Value).toList.drop (1 + (ints l).length)).toArray = #[.int .i64 0, .int .i64 (Lk.of l).a, .int .i64 (Lk.of l).b, .int .i64 (Lk.of l).c, .int .i64 (Lk.of l).d] := by
        rw [List.append_assoc]; exact hsp
      rw [e] at hr
      exact ⟨_, hr, setRow_heap W1 g _ _ 42 _ q, fun W0 hb hg => below_setRow hb hg _⟩
set_option maxRecDepth 100000 in
theorem lookof_any (A : Option Addr) (n c : Nat) (l : List Int) (w : World) (h : Rd1 w w.heap.size A n (ints l)) (hn : n ≤ 4) : Calls Try.prog 77 #[.slice A n c] w fun e w' => e = .returned (Lk.of l).v ∧ Below w.heap.size w w' := by
  have hl : l.length = n := by have := h.1; simpa [ints] using this
  have hyn : (Lk.of l).n = n := by rw [of_n, hl]
  have hb1 : Below w.heap.size w (w.alloc (.cells #[.int .i64 0, .int .i64 0, .int .i64 0, .int .i64 0, .int .i64 0] 42)) := bAlc (Below.refl _ _) _
  obtain ⟨W2, hrun, q3, hb2⟩ := copy_look (Blk.new w 42 #[.int .i64 0, .int .i64 0, .int .i64 0, .int .i64 0, .int .i64 0]) c (h.below hb1) hn
  have hB2 := hb2 w hb1 (Nat.le_refl _)
  replace hl := Lib.hid hl
  clear h hb2
  generalize Lk.of l = y at *
  obtain ⟨yn, ya, yb, yc, yd⟩ := y
  dsimp only at hyn q3
  subst hyn
  unfold Lk.v
  go_enter Try.func77, Try.ntmps77
  have z0 := q3.cell 0
  have z1 := q3.frozen 0
  simp only [List.getElem?_toArray, List.getElem?_cons_zero] at z0
  go_upto_region 1 with (fail)
  generalize w.alloc (.cells #[.int .i64 0, .int .i64 0, .int .i64 0, .int .i64 0, .int .i64 0] 42) = W1 at *
  go_upto_region 2 with (fail)
  have q4 := q3.put 0 (.int .i64 n)
  have hb4 := bSet hB2 ⟨w.heap.size, 0, none⟩ (.int .i64 n) (Nat.le_refl _)
  clear z0 z1 q3 hB2 hb1 hrun
  generalize W2.setCell ⟨w.heap.size, 0, none⟩ (.int .i64 n) = W4 at *
  have q5 : Blk W4 w.heap.size 42 (Lk.cells ⟨n, ya, yb, yc, yd⟩) := q4
  have a0 := q5.cell 0
  have a1 := q5.cell 1
  have a2 := q5.cell 2
  have a3 := q5.cell 3
  have a4 := q5.cell 4
  have f0 := q5.frozen 0
  have f1 := q5.frozen 1
  have f2 := q5.frozen 2
  have f3 := q5.frozen 3
  have f4 := q5.frozen 4
  simp only [Lk.cells, List.getElem?_toArray, List.getElem?_cons_zero, List.getElem?_cons_succ] at a0 a1 a2 a3 a4
  go_wp2_with fail
  exact bodyPost_ret (results_look rfl _ _ _ ⟨n, ya, yb, yc, yd⟩ rfl (put5 q5 ⟨n, ya, yb, yc, yd⟩)) rfl ⟨rfl, bSet5 hb4 (Nat.le_refl _) _ _ _ _ _⟩

theorem pad_of {x : Lk} (h0 : 0 ≤ x.n) (h4 : x.n ≤ 4) : Lk.of x.l = x ↔ padB x = true := by
  obtain ⟨n, a, b, c, d⟩ := x
  simp only at h0 h4
  obtain ⟨k, rfl⟩ := Int.eq_ofNat_of_zero_le h0
  have : k = 0 ∨ k = 1 ∨ k = 2 ∨ k = 3 ∨ k = 4 := by omega
  rcases this with rfl | rfl | rfl | rfl | rfl <;> simp [Lk.of, Lk.l, padB, List.range_succ, Lk.s] <;> constructor <;> intro h <;> omega
theorem lk_rd {W : World} {g : Nat} {x : Lk} (h : Blk W g 42 x.cells) (k : Nat) (hk : x.n = k) (h4 : k ≤ 4) : Rd1 W W.heap.size (some ⟨g, 1, none⟩) k (ints x.l) := by
  have hl : x.l.length = k := by unfold Lk.l; rw [hk, List.length_take]; simp; omega
  refine ⟨by simp [ints, hl], .inr ⟨g, 1, rfl, h.lt, fun i v hv => ?_⟩⟩
  have hi : i < x.l.length := by have := (List.getElem?_eq_some_iff.1 hv).1; simpa [ints] using this
  rw [h.cell]
  have e : (ints x.l)[i]? = some (.int .i64 (x.s i)) := by
    have h1 : x.l[i]? = some (x.s i) := by
      unfold Lk.l
      rw [hk, List.getElem?_take, if_pos (by simp; omega)]
      rcases i with _ | _ | _ | _ | i <;> first | rfl | omega
    simp [ints, h1]
  rw [e] at hv
  cases hv
  exact Lk.cellAt x i (by omega)
theorem of_wf {x : Lk} (hx : x.wf) (h0 : 0 ≤ x.n) (h4 : x.n ≤ 4) : (Lk.of x.l).wf := by
  obtain ⟨n, a, b, c, d⟩ := x
  obtain ⟨h1, h2, h3, h5, h6⟩ := hx
  simp only at h0 h4 h1 h2 h3 h5 h6
  obtain ⟨k, rfl⟩ := Int.eq_ofNat_of_zero_le h0
  have z : (Lit.int .i64 0).wf = true := by decide
  have : k = 0 ∨ k = 1 ∨ k = 2 ∨ k = 3 ∨ k = 4 := by omega
  rcases this with rfl | rfl | rfl | rfl | rfl <;> exact ⟨h1, by first | exact h2 | exact z, by first | exact h3 | exact z, by first | exact h5 | exact z, by first | exact h6 | exact z⟩

set_option maxRecDepth 100000 in
set_option maxHeartbeats 4000000 in
theorem lcheck60_any (x : Lk) (m : Int) (w : World) (hx : x.wf) : Calls Try.prog 60 #[x.v, .int .i64 m] w fun e w' => e = .returned (.int .i64 (lchk x m)) ∧ Below w.heap.size w w' := by
  have q0 := Blk.new w 42 x.cells
  have hb0 : Below w.heap.size w (w.alloc (.cells x.cells 42)) := bAlc (Below.refl _ _) _
  have hOf0 := Lib.hid (fun (W : World) (k : Nat) (hk : x.n = k) (h4 : k ≤ 4) (h : Blk W w.heap.size 42 x.cells) => lookof_any (some ⟨w.heap.size, 1, none⟩) k 4 x.l W (lk_rd h k hk h4) h4)
  have hC := Lib.hid (Lk.cellAt x)
  have hpo := Lib.hid (pad_of (x := x))
  have hne := Lib.hid (fun (h0 : 0 ≤ x.n) (h4 : x.n ≤ 4) (W : World) => look_neq (Lk.of x.l) x (of_wf hx h0 h4) hx W)
  unfold Lk.v
  unfold Lk.cells at q0 hb0 hOf0
  by_cases h1 : m < 1
  · have hE : lchk x m = 2 := by unfold lchk; rw [if_pos (by omega)]
    rw [hE]; clear hE
    go_enter Try.func60, Try.ntmps60
    go_wp2_with fail
    go_ret
    exact ⟨rfl, hb0⟩
  by_cases h2 : 8 < m
  · have hE : lchk x m = 2 := by unfold lchk; rw [if_pos (by omega)]
    rw [hE]; clear hE
    go_enter Try.func60, Try.ntmps60
    go_wp2_with fail
    go_ret
    exact ⟨rfl, hb0⟩
  by_cases h3 : x.n < 0
  · have hE : lchk x m = 3 := by unfold lchk; rw [if_neg (by omega), if_pos (by omega)]
    rw [hE]; clear hE hOf0 hne hpo
    go_enter Try.func60, Try.ntmps60
    go_upto_region 3 with (fail)
    generalize w.alloc (.cells #[.int .i64 x.n, .int .i64 x.a, .int .i64 x.b, .int .i64 x.c, .int .i64 x.d] 42) = W1 at *
    have c0 := q0.cell 0
    simp only [List.getElem?_toArray, List.getElem?_cons_zero] at c0
    have hAll : Hid (∀ w', Below W1.heap.size W1 w' → w'.cell? ⟨w.heap.size, 0, none⟩ = some (.int .i64 x.n) ∧ Below W1.heap.size W1 w') := Lib.hid fun w' h => ⟨cell_later h c0, h⟩
    have hFin : Hid (∀ w', Below W1.heap.size W1 w' → Below w.heap.size w w') := Lib.hid fun w' h => bStep hb0 h
    clear c0 q0 hb0
    refine wp_region_held_drew (S := (fun w' => w'.cell? ⟨w.heap.size, 0, none⟩ = some (.int .i64 x.n) ∧ Below W1.heap.size W1 w')) (by kernel_rfl) (hAll.out _ (bDrw (Below.refl _ _))) (fun hHeld => ?_)
    refine wpAnyH_take (i := 0) (oi := ⟨some 15, _, _, _, _, _⟩) (v := ?va1) rfl (by kernel_rfl) (by kernel_rfl) (by kernel_rfl) (fun _ _ _ h => h) (Or.inl ⟨by rfl, ?hya1⟩) (by assumption) ?resta1
    case hya1 => (intro w hSw; (try dsimp only at hSw); go_simp <;> with_reducible rfl)
    try simp only [Act.put, List.setIfInBounds_toArray, List.set_cons_zero, List.set_cons_succ]
    refine wpAnyH_take (i := 1) (oi := ⟨some 16, _, _, _, _, _⟩) (v := ?va2) rfl (by kernel_rfl) (by kernel_rfl) (by kernel_rfl) (fun _ _ _ h => h) (Or.inl ⟨by rfl, ?hya2⟩) (by assumption) ?resta2
    case hya2 => (intro w hSw; (try dsimp only at hSw); go_simp <;> with_reducible rfl)
    try simp only [Act.put, List.setIfInBounds_toArray, List.set_cons_zero, List.set_cons_succ]
    refine wpAnyH_take (i := 2) (oi := ⟨some 17, _, _, _, _, _⟩) (v := ?va3) rfl (by kernel_rfl) (by kernel_rfl) (by kernel_rfl) (fun _ _ _ h => h) (Or.inl ⟨by rfl, ?hya3⟩) (by assumption) ?resta3
    case hya3 => (intro w hSw; (try dsimp only at hSw); go_simp <;> with_reducible rfl)
    try simp only [Act.put, List.setIfInBounds_toArray, List.set_cons_zero, List.set_cons_succ]
    refine wpAnyH_take (i := 3) (oi := ⟨some 18, _, _, _, _, _⟩) (v := ?va4) rfl (by kernel_rfl) (by kernel_rfl) (by kernel_rfl) (fun _ _ _ h => h) (Or.inl ⟨by rfl, ?hya4⟩) (by assumption) ?resta4
    case hya4 => (intro w hSw; (try dsimp only at hSw); go_simp <;> with_reducible rfl)
    try simp only [Act.put, List.setIfInBounds_toArray, List.set_cons_zero, List.set_cons_succ]
    refine wpAnyH_take (i := 4) (oi := ⟨some 19, _, _, _, _, _⟩) (v := undef) rfl (by kernel_rfl) (by kernel_rfl) (by kernel_rfl) (fun _ _ _ h => h) (Or.inr ⟨by rfl, rfl⟩) (by assumption) ?_
    try simp only [Act.put, List.setIfInBounds_toArray, List.set_cons_zero, List.set_cons_succ]
    refine wpAnyH_take (i := 5) (oi := ⟨some 20, _, _, _, _, _⟩) (v := undef) rfl (by kernel_rfl) (by kernel_rfl) (by kernel_rfl) (fun _ _ _ h => h) (Or.inr ⟨by rfl, rfl⟩) (by assumption) ?_
    try simp only [Act.put, List.setIfInBounds_toArray, List.set_cons_zero, List.set_cons_succ]
    refine wpAnyH_take (i := 6) (oi := ⟨some 21, _, _, _, _, _⟩) (v := undef) rfl (by kernel_rfl) (by kernel_rfl) (by kernel_rfl) (fun _ _ _ h => h) (Or.inr ⟨by rfl, rfl⟩) (by assumption) ?_
    try simp only [Act.put, List.setIfInBounds_toArray, List.set_cons_zero, List.set_cons_succ]
    refine wpAnyH_take (i := 7) (oi := ⟨some 22, _, _, _, _, _⟩) (v := ?va8) rfl (by kernel_rfl) (by kernel_rfl) (by kernel_rfl) (fun _ _ _ h => h) (Or.inl ⟨by rfl, ?hya8⟩) (by assumption) ?resta8
    case hya8 => (intro w hSw; (try dsimp only at hSw); go_simp <;> with_reducible rfl)
    try simp only [Act.put, List.setIfInBounds_toArray, List.set_cons_zero, List.set_cons_succ]
    refine wpAnyH_take (i := 8) (oi := ⟨some 23, _, _, _, _, _⟩) (v := ?va9) rfl (by kernel_rfl) (by kernel_rfl) (by kernel_rfl) (fun _ _ _ h => h) (Or.inl ⟨by rfl, ?hya9⟩) (by assumption) ?resta9
    case hya9 => (intro w hSw; (try dsimp only at hSw); go_simp <;> with_reducible rfl)
    try simp only [Act.put, List.setIfInBounds_toArray, List.set_cons_zero, List.set_cons_succ]
    refine wpAnyH_take (i := 9) (oi := ⟨some 24, _, _, _, _, _⟩) (v := undef) rfl (by kernel_rfl) (by kernel_rfl) (by kernel_rfl) (fun _ _ _ h => h) (Or.inr ⟨by rfl, rfl⟩) (by assumption) ?_
    try simp only [Act.put, List.setIfInBounds_toArray, List.set_cons_zero, List.set_cons_succ]
    refine wpAnyH_take (i := 10) (oi := ⟨some 25, _, _, _, _, _⟩) (v := undef) rfl (by kernel_rfl) (by kernel_rfl) (by kernel_rfl) (fun _ _ _ h => h) (Or.inr ⟨by rfl, rfl⟩) (by assumption) ?_
    try simp only [Act.put, List.setIfInBounds_toArray, List.set_cons_zero, List.set_cons_succ]
    refine wpAnyH_take (i := 11) (oi := ⟨some 26, _, _, _, _, _⟩) (v := undef) rfl (by kernel_rfl) (by kernel_rfl) (by kernel_rfl) (fun _ _ _ h => h) (Or.inr ⟨by rfl, rfl⟩) (by assumption) ?_
    try simp only [Act.put, List.setIfInBounds_toArray, List.set_cons_zero, List.set_cons_succ]
    refine wpAnyH_take (i := 12) (oi := ⟨some 27, _, _, _, _, _⟩) (v := undef) rfl (by kernel_rfl) (by kernel_rfl) (by kernel_rfl) (fun _ _ _ h => h) (Or.inr ⟨by rfl, rfl⟩) (by assumption) ?_
    try simp only [Act.put, List.setIfInBounds_toArray, List.set_cons_zero, List.set_cons_succ]
    refine wpAnyH_take (i := 13) (oi := ⟨some 28, _, _, _, _, _⟩) (v := undef) rfl (by kernel_rfl) (by kernel_rfl) (by kernel_rfl) (fun _ _ _ h => h) (Or.inr ⟨by rfl, rfl⟩) (by assumption) ?_
    try simp only [Act.put, List.setIfInBounds_toArray, List.set_cons_zero, List.set_cons_succ]
    refine wpAnyH_take (i := 14) (oi := ⟨some 29, _, _, _, _, _⟩) (v := undef) rfl (by kernel_rfl) (by kernel_rfl) (by kernel_rfl) (fun _ _ _ h => h) (Or.inr ⟨by rfl, rfl⟩) (by assumption) ?_
    try simp only [Act.put, List.setIfInBounds_toArray, List.set_cons_zero, List.set_cons_succ]
    refine wpAnyH_take (i := 15) (oi := ⟨some 30, _, _, _, _, _⟩) (v := undef) rfl (by kernel_rfl) (by kernel_rfl) (by kernel_rfl) (fun _ _ _ h => h) (Or.inr ⟨by rfl, rfl⟩) (by assumption) ?_
    try simp only [Act.put, List.setIfInBounds_toArray, List.set_cons_zero, List.set_cons_succ]
    refine wpAnyH_take (i := 16) (oi := ⟨some 31, _, _, _, _, _⟩) (v := ?va17) rfl (by kernel_rfl) (by kernel_rfl) (by kernel_rfl) (fun _ _ _ h => h) (Or.inl ⟨by rfl, ?hya17⟩) (by assumption) ?resta17
    case hya17 => (intro w hSw; (try dsimp only at hSw); go_simp <;> with_reducible rfl)
    try simp only [Act.put, List.setIfInBounds_toArray, List.set_cons_zero, List.set_cons_succ]
    refine wpAnyH_take (i := 17) (oi := ⟨some 14, _, _, _, _, _⟩) (v := ?va18) rfl (by kernel_rfl) (by kernel_rfl) (by kernel_rfl) (fun _ _ _ h => h) (Or.inl ⟨by rfl, ?hya18⟩) (by assumption) ?resta18
    case hya18 => (intro w hSw; (try dsimp only at hSw); go_simp <;> with_reducible rfl)
    try simp only [Act.put, List.setIfInBounds_toArray, List.set_cons_zero, List.set_cons_succ]
    refine wpAnyH_done (by kernel_rfl) ?_ _
    go_wp2_with fail
    go_ret
    exact ⟨rfl, hFin.out _ (by repeat (first | assumption | exact Below.refl _ _ | (refine bStep ?_ (by assumption)) | (with_reducible refine bAlc ?_ _) | (with_reducible refine bDrw ?_)))⟩
  by_cases h4 : 4 < x.n
  · have hE : lchk x m = 3 := by unfold lchk; rw [if_neg (by omega), if_pos (by omega)]
    rw [hE]; clear hE hOf0 hne hpo
    go_enter Try.func60, Try.ntmps60
    go_upto_region 3 with (fail)
    generalize w.alloc (.cells #[.int .i64 x.n, .int .i64 x.a, .int .i64 x.b, .int .i64 x.c, .int .i64 x.d] 42) = W1 at *
    have c0 := q0.cell 0
    simp only [List.getElem?_toArray, List.getElem?_cons_zero] at c0
    have hAll : Hid (∀ w', Below W1.heap.size W1 w' → w'.cell? ⟨w.heap.size, 0, none⟩ = some (.int .i64 x.n) ∧ Below W1.heap.size W1 w') := Lib.hid fun w' h => ⟨cell_later h c0, h⟩
    have hFin : Hid (∀ w', Below W1.heap.size W1 w' → Below w.heap.size w w') := Lib.hid fun w' h => bStep hb0 h
    clear c0 q0 hb0
    refine wp_region_held_drew (S := (fun w' => w'.cell? ⟨w.heap.size, 0, none⟩ = some (.int .i64 x.n) ∧ Below W1.heap.size W1 w')) (by kernel_rfl) (hAll.out _ (bDrw (Below.refl _ _))) (fun hHeld => ?_)
    refine wpAnyH_take (i := 0) (oi := ⟨some 15, _, _, _, _, _⟩) (v := ?vb1) rfl (by kernel_rfl) (by kernel_rfl) (by kernel_rfl) (fun _ _ _ h => h) (Or.inl ⟨by rfl, ?hyb1⟩) (by assumption) ?restb1
    case hyb1 => (intro w hSw; (try dsimp only at hSw); go_simp <;> with_reducible rfl)
    try simp only [Act.put, List.setIfInBounds_toArray, List.set_cons_zero, List.set_cons_succ]
    refine wpAnyH_take (i := 1) (oi := ⟨some 16, _, _, _, _, _⟩) (v := ?vb2) rfl (by kernel_rfl) (by kernel_rfl) (by kernel_rfl) (fun _ _ _ h => h) (Or.inl ⟨by rfl, ?hyb2⟩) (by assumption) ?restb2
    case hyb2 => (intro w hSw; (try dsimp only at hSw); go_simp <;> with_reducible rfl)
    try simp only [Act.put, List.setIfInBounds_toArray, List.set_cons_zero, List.set_cons_succ]
    refine wpAnyH_take (i := 2) (oi := ⟨some 17, _, _, _, _, _⟩) (v := ?vb3) rfl (by kernel_rfl) (by kernel_rfl) (by kernel_rfl) (fun _ _ _ h => h) (Or.inl ⟨by rfl, ?hyb3⟩) (by assumption) ?restb3
    case hyb3 => (intro w hSw; (try dsimp only at hSw); go_simp <;> with_reducible rfl)
    try simp only [Act.put, List.setIfInBounds_toArray, List.set_cons_zero, List.set_cons_succ]
    refine wpAnyH_take (i := 3) (oi := ⟨some 18, _, _, _, _, _⟩) (v := ?vb4) rfl (by kernel_rfl) (by kernel_rfl) (by kernel_rfl) (fun _ _ _ h => h) (Or.inl ⟨by rfl, ?hyb4⟩) (by assumption) ?restb4
    case hyb4 => (intro w hSw; (try dsimp only at hSw); go_simp <;> with_reducible rfl)
    try simp only [Act.put, List.setIfInBounds_toArray, List.set_cons_zero, List.set_cons_succ]
    refine wpAnyH_take (i := 4) (oi := ⟨some 19, _, _, _, _, _⟩) (v := ?vb5) rfl (by kernel_rfl) (by kernel_rfl) (by kernel_rfl) (fun _ _ _ h => h) (Or.inl ⟨by rfl, ?hyb5⟩) (by assumption) ?restb5
    case hyb5 => (intro w hSw; (try dsimp only at hSw); go_simp <;> with_reducible rfl)
    try simp only [Act.put, List.setIfInBounds_toArray, List.set_cons_zero, List.set_cons_succ]
    refine wpAnyH_take (i := 5) (oi := ⟨some 20, _, _, _, _, _⟩) (v := ?vb6) rfl (by kernel_rfl) (by kernel_rfl) (by kernel_rfl) (fun _ _ _ h => h) (Or.inl ⟨by rfl, ?hyb6⟩) (by assumption) ?restb6
    case hyb6 => (intro w hSw; (try dsimp only at hSw); go_simp <;> with_reducible rfl)
    try simp only [Act.put, List.setIfInBounds_toArray, List.set_cons_zero, List.set_cons_succ]
    refine wpAnyH_take (i := 6) (oi := ⟨some 21, _, _, _, _, _⟩) (v := ?vb7) rfl (by kernel_rfl) (by kernel_rfl) (by kernel_rfl) (fun _ _ _ h => h) (Or.inl ⟨by rfl, ?hyb7⟩) (by assumption) ?restb7
    case hyb7 => (intro w hSw; (try dsimp only at hSw); go_simp <;> with_reducible rfl)
    try simp only [Act.put, List.setIfInBounds_toArray, List.set_cons_zero, List.set_cons_succ]
    refine wpAnyH_take (i := 7) (oi := ⟨some 22, _, _, _, _, _⟩) (v := ?vb8) rfl (by kernel_rfl) (by kernel_rfl) (by kernel_rfl) (fun _ _ _ h => h) (Or.inl ⟨by rfl, ?hyb8⟩) (by assumption) ?restb8
    case hyb8 => (intro w hSw; (try dsimp only at hSw); go_simp <;> with_reducible rfl)
    try simp only [Act.put, List.setIfInBounds_toArray, List.set_cons_zero, List.set_cons_succ]
    refine wpAnyH_take (i := 8) (oi := ⟨some 23, _, _, _, _, _⟩) (v := ?vb9) rfl (by kernel_rfl) (by kernel_rfl) (by kernel_rfl) (fun _ _ _ h => h) (Or.inl ⟨by rfl, ?hyb9⟩) (by assumption) ?restb9
    case hyb9 => (intro w hSw; (try dsimp only at hSw); go_simp <;> with_reducible rfl)
    try simp only [Act.put, List.setIfInBounds_toArray, List.set_cons_zero, List.set_cons_succ]
    refine wpAnyH_take (i := 9) (oi := ⟨some 24, _, _, _, _, _⟩) (v := undef) rfl (by kernel_rfl) (by kernel_rfl) (by kernel_rfl) (fun _ _ _ h => h) (Or.inr ⟨by rfl, rfl⟩) (by assumption) ?_
    try simp only [Act.put, List.setIfInBounds_toArray, List.set_cons_zero, List.set_cons_succ]
    refine wpAnyH_take (i := 10) (oi := ⟨some 25, _, _, _, _, _⟩) (v := undef) rfl (by kernel_rfl) (by kernel_rfl) (by kernel_rfl) (fun _ _ _ h => h) (Or.inr ⟨by rfl, rfl⟩) (by assumption) ?_
    try simp only [Act.put, List.setIfInBounds_toArray, List.set_cons_zero, List.set_cons_succ]
    refine wpAnyH_take (i := 11) (oi := ⟨some 26, _, _, _, _, _⟩) (v := undef) rfl (by kernel_rfl) (by kernel_rfl) (by kernel_rfl) (fun _ _ _ h => h) (Or.inr ⟨by rfl, rfl⟩) (by assumption) ?_
    try simp only [Act.put, List.setIfInBounds_toArray, List.set_cons_zero, List.set_cons_succ]
    refine wpAnyH_take (i := 12) (oi := ⟨some 27, _, _, _, _, _⟩) (v := undef) rfl (by kernel_rfl) (by kernel_rfl) (by kernel_rfl) (fun _ _ _ h => h) (Or.inr ⟨by rfl, rfl⟩) (by assumption) ?_
    try simp only [Act.put, List.setIfInBounds_toArray, List.set_cons_zero, List.set_cons_succ]
    refine wpAnyH_take (i := 13) (oi := ⟨some 28, _, _, _, _, _⟩) (v := undef) rfl (by kernel_rfl) (by kernel_rfl) (by kernel_rfl) (fun _ _ _ h => h) (Or.inr ⟨by rfl, rfl⟩) (by assumption) ?_
    try simp only [Act.put, List.setIfInBounds_toArray, List.set_cons_zero, List.set_cons_succ]
    refine wpAnyH_take (i := 14) (oi := ⟨some 29, _, _, _, _, _⟩) (v := undef) rfl (by kernel_rfl) (by kernel_rfl) (by kernel_rfl) (fun _ _ _ h => h) (Or.inr ⟨by rfl, rfl⟩) (by assumption) ?_
    try simp only [Act.put, List.setIfInBounds_toArray, List.set_cons_zero, List.set_cons_succ]
    refine wpAnyH_take (i := 15) (oi := ⟨some 30, _, _, _, _, _⟩) (v := undef) rfl (by kernel_rfl) (by kernel_rfl) (by kernel_rfl) (fun _ _ _ h => h) (Or.inr ⟨by rfl, rfl⟩) (by assumption) ?_
    try simp only [Act.put, List.setIfInBounds_toArray, List.set_cons_zero, List.set_cons_succ]
    refine wpAnyH_take (i := 16) (oi := ⟨some 31, _, _, _, _, _⟩) (v := ?vb17) rfl (by kernel_rfl) (by kernel_rfl) (by kernel_rfl) (fun _ _ _ h => h) (Or.inl ⟨by rfl, ?hyb17⟩) (by assumption) ?restb17
    case hyb17 => (intro w hSw; (try dsimp only at hSw); go_simp <;> with_reducible rfl)
    try simp only [Act.put, List.setIfInBounds_toArray, List.set_cons_zero, List.set_cons_succ]
    refine wpAnyH_take (i := 17) (oi := ⟨some 14, _, _, _, _, _⟩) (v := ?vb18) rfl (by kernel_rfl) (by kernel_rfl) (by kernel_rfl) (fun _ _ _ h => h) (Or.inl ⟨by rfl, ?hyb18⟩) (by assumption) ?restb18
    case hyb18 => (intro w hSw; (try dsimp only at hSw); go_simp <;> with_reducible rfl)
    try simp only [Act.put, List.setIfInBounds_toArray, List.set_cons_zero, List.set_cons_succ]
    refine wpAnyH_done (by kernel_rfl) ?_ _
    go_wp2_with fail
    go_ret
    exact ⟨rfl, hFin.out _ (by repeat (first | assumption | exact Below.refl _ _ | (refine bStep ?_ (by assumption)) | (with_reducible refine bAlc ?_ _) | (with_reducible refine bDrw ?_)))⟩
  have hE : lchk x m = if padB x = false then 3 else if inB x m = false then 14 else 0 := by unfold lchk; rw [if_neg (by omega), if_neg (by omega)]
  rw [hE]; clear hE
  obtain ⟨n, hn⟩ := Int.eq_ofNat_of_zero_le (show 0 ≤ x.n by omega)
  have hI := Lib.hid (inB_iff x m)
  have hpo' := Lib.hid (hpo.out (by omega) (by omega))
  have hne' := hne.out (by omega) (by omega)
  have hOf1 := Lib.hid (fun (W : World) h => hOf0.out W n hn (by omega) h)
  clear hpo hne hOf0
  have hN := Lib.hid hn
  have hpd : decide (Lk.of x.l = x) = padB x := by
    cases h : padB x
    · exact decide_eq_false fun e => by have := hpo'.out.1 e; rw [h] at this; cases this
    · exact decide_eq_true (hpo'.out.2 h)
  rw [hpd] at hne'
  clear hpo'
  replace hpd := Lib.hid hpd
  generalize padB x = pb at *
  generalize inB x m = q at hI ⊢
  generalize hs : x.s = s at *
  clear hs
  generalize Lk.of x.l = y at *
  unfold Lk.v at hOf1 hne'
  generalize hxn : x.n = xn at *
  clear hxn
  subst hn
  go_enter Try.func60, Try.ntmps60
  go_upto_region 3 with (fail)
  generalize w.alloc (.cells #[.int .i64 n, .int .i64 x.a, .int .i64 x.b, .int .i64 x.c, .int .i64 x.d] 42) = W1 at *
  have c0 := q0.cell 0
  have c1 := q0.cell 1
  have c2 := q0.cell 2
  have c3 := q0.cell 3
  have c4 := q0.cell 4
  simp only [List.getElem?_toArray, List.getElem?_cons_zero, List.getElem?_cons_succ] at c0 c1 c2 c3 c4
  have hn0 : (0 : Int) ≤ n := by omega
  have hn4 : (n : Int) ≤ 4 := by omega
  have hAll : Hid (∀ w', Below W1.heap.size W1 w' → w'.cell? ⟨w.heap.size, 0, none⟩ = some (.int .i64 n) ∧ w'.cell? ⟨w.heap.size, 1, none⟩ = some (.int .i64 x.a) ∧ w'.cell? ⟨w.heap.size, 2, none⟩ = some (.int .i64 x.b) ∧ w'.cell? ⟨w.heap.size, 3, none⟩ = some (.int .i64 x.c) ∧ w'.cell? ⟨w.heap.size, 4, none⟩ = some (.int .i64 x.d) ∧ Below W1.heap.size W1 w') :=
    Lib.hid fun w' h => ⟨cell_later h c0, cell_later h c1, cell_later h c2, cell_later h c3, cell_later h c4, h⟩
  have hOf := Lib.hid (fun (W : World) (h : Below W1.heap.size W1 W) => hOf1.out W (q0.step h))
  clear hOf1 c0 c1 c2 c3 c4
  go_cut [14] (fun s14 wx => s14 = .bool (!pb) ∧ Below W1.heap.size W1 wx)
  case first =>
    refine wp_region_held_drew (S := (fun w' => w'.cell? ⟨w.heap.size, 0, none⟩ = some (.int .i64 n) ∧ w'.cell? ⟨w.heap.size, 1, none⟩ = some (.int .i64 x.a) ∧ w'.cell? ⟨w.heap.size, 2, none⟩ = some (.int .i64 x.b) ∧ w'.cell? ⟨w.heap.size, 3, none⟩ = some (.int .i64 x.c) ∧ w'.cell? ⟨w.heap.size, 4, none⟩ = some (.int .i64 x.d) ∧ Below W1.heap.size W1 w')) (by kernel_rfl) (hAll.out _ (bDrw (Below.refl _ _))) (fun hHeld => ?_)
    refine wpAnyH_take (i := 0) (oi := ⟨some 15, _, _, _, _, _⟩) (v := ?vc1) rfl (by kernel_rfl) (by kernel_rfl) (by kernel_rfl) (fun _ _ _ h => h) (Or.inl ⟨by rfl, ?hyc1⟩) (by assumption) ?restc1
    case hyc1 => (intro w hSw; (try dsimp only at hSw); go_simp <;> with_reducible rfl)
    try simp only [Act.put, List.setIfInBounds_toArray, List.set_cons_zero, List.set_cons_succ]
    refine wpAnyH_take (i := 1) (oi := ⟨some 16, _, _, _, _, _⟩) (v := ?vc2) rfl (by kernel_rfl) (by kernel_rfl) (by kernel_rfl) (fun _ _ _ h => h) (Or.inl ⟨by rfl, ?hyc2⟩) (by assumption) ?restc2
    case hyc2 => (intro w hSw; (try dsimp only at hSw); go_simp <;> with_reducible rfl)
    try simp only [Act.put, List.setIfInBounds_toArray, List.set_cons_zero, List.set_cons_succ]
    refine wpAnyH_take (i := 2) (oi := ⟨some 17, _, _, _, _, _⟩) (v := ?vc3) rfl (by kernel_rfl) (by kernel_rfl) (by kernel_rfl) (fun _ _ _ h => h) (Or.inl ⟨by rfl, ?hyc3⟩) (by assumption) ?restc3
    case hyc3 => (intro w hSw; (try dsimp only at hSw); go_simp <;> with_reducible rfl)
    try simp only [Act.put, List.setIfInBounds_toArray, List.set_cons_zero, List.set_cons_succ]
    refine wpAnyH_take (i := 3) (oi := ⟨some 18, _, _, _, _, _⟩) (v := ?vc4) rfl (by kernel_rfl) (by kernel_rfl) (by kernel_rfl) (fun _ _ _ h => h) (Or.inl ⟨by rfl, ?hyc4⟩) (by assumption) ?restc4
    case hyc4 => (intro w hSw; (try dsimp only at hSw); go_simp <;> with_reducible rfl)
    try simp only [Act.put, List.setIfInBounds_toArray, List.set_cons_zero, List.set_cons_succ]
    refine wpAnyH_take (i := 4) (oi := ⟨some 19, _, _, _, _, _⟩) (v := ?vc5) rfl (by kernel_rfl) (by kernel_rfl) (by kernel_rfl) (fun _ _ _ h => h) (Or.inl ⟨by rfl, ?hyc5⟩) (by assumption) ?restc5
    case hyc5 => (intro w hSw; (try dsimp only at hSw); go_simp <;> with_reducible rfl)
    try simp only [Act.put, List.setIfInBounds_toArray, List.set_cons_zero, List.set_cons_succ]
    refine wpAnyH_take (i := 5) (oi := ⟨some 20, _, _, _, _, _⟩) (v := ?vc6) rfl (by kernel_rfl) (by kernel_rfl) (by kernel_rfl) (fun _ _ _ h => h) (Or.inl ⟨by rfl, ?hyc6⟩) (by assumption) ?restc6
    case hyc6 => (intro w hSw; (try dsimp only at hSw); go_simp <;> with_reducible rfl)
    try simp only [Act.put, List.setIfInBounds_toArray, List.set_cons_zero, List.set_cons_succ]
    refine wpAnyH_take (i := 6) (oi := ⟨some 21, _, _, _, _, _⟩) (v := ?vc7) rfl (by kernel_rfl) (by kernel_rfl) (by kernel_rfl) (fun _ _ _ h => h) (Or.inl ⟨by rfl, ?hyc7⟩) (by assumption) ?restc7
    case hyc7 => (intro w hSw; (try dsimp only at hSw); go_simp <;> with_reducible rfl)
    try simp only [Act.put, List.setIfInBounds_toArray, List.set_cons_zero, List.set_cons_succ]
    refine wpAnyH_take (i := 7) (oi := ⟨some 22, _, _, _, _, _⟩) (v := ?vc8) rfl (by kernel_rfl) (by kernel_rfl) (by kernel_rfl) (fun _ _ _ h => h) (Or.inl ⟨by rfl, ?hyc8⟩) (by assumption) ?restc8
    case hyc8 => (intro w hSw; (try dsimp only at hSw); go_simp <;> with_reducible rfl)
    try simp only [Act.put, List.setIfInBounds_toArray, List.set_cons_zero, List.set_cons_succ]
    refine wpAnyH_take (i := 8) (oi := ⟨some 23, _, _, _, _, _⟩) (v := ?vc9) rfl (by kernel_rfl) (by kernel_rfl) (by kernel_rfl) (fun _ _ _ h => h) (Or.inl ⟨by rfl, ?hyc9⟩) (by assumption) ?restc9
    case hyc9 => (intro w hSw; (try dsimp only at hSw); go_simp <;> with_reducible rfl)
    try simp only [Act.put, List.setIfInBounds_toArray, List.set_cons_zero, List.set_cons_succ]
    refine wpAnyH_take (i := 9) (oi := ⟨some 24, _, _, _, _, _⟩) (v := ?vc10) rfl (by kernel_rfl) (by kernel_rfl) (by kernel_rfl) (fun _ _ _ h => h) (Or.inl ⟨by rfl, ?hyc10⟩) (by assumption) ?restc10
    case hyc10 => (intro w hSw; (try dsimp only at hSw); go_simp <;> with_reducible rfl)
    try simp only [Act.put, List.setIfInBounds_toArray, List.set_cons_zero, List.set_cons_succ]
    refine wpAnyH_take (i := 10) (oi := ⟨some 25, _, _, _, _, _⟩) (v := ?vc11) rfl (by kernel_rfl) (by kernel_rfl) (by kernel_rfl) (fun _ _ _ h => h) (Or.inl ⟨by rfl, ?hyc11⟩) (by assumption) ?restc11
    case hyc11 => (intro w hSw; (try dsimp only at hSw); go_simp <;> with_reducible rfl)
    try simp only [Act.put, List.setIfInBounds_toArray, List.set_cons_zero, List.set_cons_succ]
    refine wpAnyH_take (i := 11) (oi := ⟨some 26, _, _, _, _, _⟩) (v := ?vc12) rfl (by kernel_rfl) (by kernel_rfl) (by kernel_rfl) (fun _ _ _ h => h) (Or.inl ⟨by rfl, ?hyc12⟩) (by assumption) ?restc12
    case hyc12 => (intro w hSw; (try dsimp only at hSw); go_simp <;> with_reducible rfl)
    try simp only [Act.put, List.setIfInBounds_toArray, List.set_cons_zero, List.set_cons_succ]
    refine wpAnyH_take (i := 12) (oi := ⟨some 27, _, _, _, _, _⟩) (v := ?vc13) rfl (by kernel_rfl) (by kernel_rfl) (by kernel_rfl) (fun _ _ _ h => h) (Or.inl ⟨by rfl, ?hyc13⟩) (by assumption) ?restc13
    case hyc13 => (intro w hSw; (try dsimp only at hSw); go_simp <;> with_reducible rfl)
    try simp only [Act.put, List.setIfInBounds_toArray, List.set_cons_zero, List.set_cons_succ]
    refine wpAnyH_take (i := 14) (oi := ⟨some 29, _, _, _, _, _⟩) (v := ?vc14) rfl (by kernel_rfl) (by kernel_rfl) (by kernel_rfl) (fun _ _ _ h => h) (Or.inl ⟨by rfl, ?hyc14⟩) (by assumption) ?restc14
    case hyc14 => (intro w hSw; (try dsimp only at hSw); go_simp <;> with_reducible rfl)
    try simp only [Act.put, List.setIfInBounds_toArray, List.set_cons_zero, List.set_cons_succ]
    refine wpAnyH_ready (rs := [13]) (by kernel_rfl) (by simp) ?_
    refine AllReadyH.cons (o := ⟨some 28, _, _, _, _, _⟩) rfl (fun K hK => ?_) ?_
    · go_simp
      go_at_call 77
      refine (hOf.out _ (by repeat (first | assumption | exact Below.refl _ _ | (refine bStep ?_ (by assumption)) | (with_reducible refine bAlc ?_ _) | (with_reducible refine bDrw ?_)))).mono ?_
      rintro e w1 ⟨rfl, hb1⟩
      go_wp2_with fail
      refine hK.out _ _ ?_ (fun hHeld => ?_)
      · (refine hAll.out _ ?_; repeat (first | assumption | exact Below.refl _ _ | (refine bStep ?_ (by assumption)) | (with_reducible refine bAlc ?_ _) | (with_reducible refine bDrw ?_)))
      clear hK K
      try simp only [Act.put, List.setIfInBounds_toArray, List.set_cons_zero, List.set_cons_succ]
      refine wpAnyH_take (i := 15) (oi := ⟨some 30, _, _, _, _, _⟩) (v := ?vc15) rfl (by kernel_rfl) (by kernel_rfl) (by kernel_rfl) (fun _ _ _ h => h) (Or.inl ⟨by rfl, ?hyc15⟩) (by assumption) ?restc15
      case hyc15 => (intro w hSw; (try dsimp only at hSw); go_simp <;> with_reducible rfl)
      try simp only [Act.put, List.setIfInBounds_toArray, List.set_cons_zero, List.set_cons_succ]
      refine wpAnyH_take (i := 16) (oi := ⟨some 31, _, _, _, _, _⟩) (v := ?vc16) rfl (by kernel_rfl) (by kernel_rfl) (by kernel_rfl) (fun _ _ _ h => h) (Or.inl ⟨by rfl, ?hyc16⟩) (by assumption) ?restc16
      case hyc16 => (intro w hSw; (try dsimp only at hSw); go_simp <;> with_reducible rfl)
      try simp only [Act.put, List.setIfInBounds_toArray, List.set_cons_zero, List.set_cons_succ]
      refine wpAnyH_take (i := 17) (oi := ⟨some 14, _, _, _, _, _⟩) (v := ?vc17) rfl (by kernel_rfl) (by kernel_rfl) (by kernel_rfl) (fun _ _ _ h => h) (Or.inl ⟨by rfl, ?hyc17⟩) (by assumption) ?restc17
      case hyc17 => (intro w hSw; (try dsimp only at hSw); go_simp <;> with_reducible rfl)
      try simp only [Act.put, List.setIfInBounds_toArray, List.set_cons_zero, List.set_cons_succ]
      refine wpAnyH_done (by kernel_rfl) ?_ _
      go_wp2_with fail
      go_meet
      exact ⟨rfl, (by repeat (first | assumption | exact Below.refl _ _ | (refine bStep ?_ (by assumption)) | (with_reducible refine bAlc ?_ _) | (with_reducible refine bDrw ?_)))⟩
    exact AllReadyH.nil
  case rest =>
    obtain ⟨rfl, hbc⟩ := hcut
    have qc := q0.step hbc
    have hb := bStep hb0 hbc
    clear q0 hb0 hAll hOf hne' hbc
    cases pb
    · go_wp2_with fail
      go_ret
      exact ⟨rfl, hb⟩
    · have z0 := qc.cell 0
      simp only [List.getElem?_toArray, List.getElem?_cons_zero] at z0
      go_wp2_with fail
      go_loopg [37] n (fun k i wr => ∃ j : Nat, wr = wc ∧ i = .int .i64 j ∧ j + k = n ∧ ∀ i : Nat, i < j → 0 ≤ s i ∧ s i < m)
      case atStart => exact ⟨0, rfl, rfl, by omega, by intros; omega⟩
      case round =>
        obtain ⟨j, rfl, rfl, hj3, hg⟩ := hrel
        replace hg := Lib.hid hg
        replace hj3 := Lib.hid hj3
        by_cases hj : j < n
        · have hj4 : j < 4 := by omega
          have hc : wr.cell? ⟨w.heap.size, 1 + j, none⟩ = some (.int .i64 (s j)) := by rw [qc.cell]; exact hC.out j hj4
          by_cases hz : s j < 0
          · have hqF : q = false := by
              cases q
              · rfl
              · exact absurd (hI.out.1 rfl j hj4 (by omega)).1 (by omega)
            subst hqF
            go_wp2_with fail
            go_ret
            exact ⟨rfl, hb⟩
          · by_cases hz2 : s j < m
            · have hG := Lib.hid (show ∀ i : Nat, i < j + 1 → 0 ≤ s i ∧ s i < m by
                intro i h1
                by_cases e : i = j
                · rw [e]; exact ⟨by omega, hz2⟩
                · exact hg.out i (by omega))
              go_wp2_with fail
              go_roundg (n - (j + 1))
              case measure => have := hj3.out; omega
              case rel => exact ⟨j + 1, rfl, by go_num, by have := hj3.out; omega, hG.out⟩
            · have hqF : q = false := by
                cases q
                · rfl
                · exact absurd (hI.out.1 rfl j hj4 (by omega)).2 hz2
              subst hqF
              go_wp2_with fail
              go_ret
              exact ⟨rfl, hb⟩
        · have hqT : q = true := hI.out.2 fun i h4 hn => hg.out i (by omega)
          subst hqT
          go_wp2_with fail
          go_ret
          exact ⟨rfl, hb⟩
end Go.Proofs.Ytnnkfgekiaaehaa

/- follow.Has and follow.Ends. -/
namespace Go.Proofs.Ytnnkfgekiaaehaa
open Go.ChangeShapes Go.WideShapes Go.ChangeAt Go.RowKit
set_option linter.unusedVariables false

/-- what Has hands back: whether the look is in FOLLOW -/
def RetH (g : Gr) (s : Int) (x : Lk) (w : World) (e : Ending) (w' : World) : Prop := ∃ b : Bool, e = .returned (.tuple #[.bool b, .int .i64 0]) ∧ (b = true ↔ FO g.prods g.k.toNat g.start s x) ∧ Below w.heap.size w w'

set_option maxRecDepth 100000 in
set_option maxHeartbeats 4000000 in
theorem has35_any (g : Gr) (a : GA) (s : Int) (x : Lk) (w : World) (hg : GrAt w w.heap.size g a) (hok : gchk g = 0) (hs : ntB g s = true) (hx : x.wf) (hr : lchk x g.toks.length = 0) : Calls Try.prog 35 #[gval g a, .int .i64 s, x.v] w (RetH g s x w) := by
  obtain ⟨ta, tc, na, nc, pa, pc⟩ := a
  have hb := nt_bd hs
  have hk := gok_of hok
  have hn8 := hk.nm
  have hG0 := (GB.start hg).alloc (.cells x.cells 42)
  have q5 : Blk ((w.alloc (.cells (gcells g ⟨ta, tc, na, nc, pa, pc⟩) 26)).alloc (.cells x.cells 42)) (w.heap.size + 1) 42 x.cells := Blk.newAt _ _ _ _ (by simp)
  have hN := Lib.hid (fun (W : World) (h : GrAt W W.heap.size g ⟨ta, tc, na, nc, pa, pc⟩) => nonterm24_any g ⟨ta, tc, na, nc, pa, pc⟩ s W h (small_of hok) (by omega) (by omega))
  rw [(nonE_ok hok hs).1, (nonE_ok hok hs).2] at hN
  have hA := Lib.hid (fun (W : World) (h : GrAt W W.heap.size g ⟨ta, tc, na, nc, pa, pc⟩) => all_any g ⟨ta, tc, na, nc, pa, pc⟩ g.k.toNat hk W h)
  have hCh := Lib.hid (fun (W : World) => lcheck60_any x g.toks.length W hx)
  rw [hr] at hCh
  have hSet := Lib.hid (fun (ss fs : List (List Lk)) h1 h2 h3 h4 h5 h6 y => retA_set hok hs (ss := ss) (fs := fs) h1 h2 h3 h4 h5 h6 y)
  have hP := Lib.hid (fun (b : Bool) (w' : World) (h1 : b = true ↔ FO g.prods g.k.toNat g.start s x) (h3 : Below w.heap.size w w') => (show RetH g s x w (.returned (.tuple #[.bool b, .int .i64 0])) w' from ⟨b, rfl, h1, h3⟩))
  have hxw : lookKey.ok x := hx
  obtain ⟨ix, hix⟩ := Int.eq_ofNat_of_zero_le (show 0 ≤ s - 16 by omega)
  have hixn : (s - 16).toNat = ix := by omega
  have hixi : ix < g.names.length := by omega
  have hzx : (0 : Int) ≤ ix := by omega
  have hzy : (ix : Int) < g.names.length := by omega
  have hn9 : g.names.length ≤ 8 := hn8.2
  rw [hix] at hN
  rw [hixn] at hSet
  clear hg hok hs hk hb hn8 hr
  replace hxw := Lib.hid hxw
  replace hix := Lib.hid hix
  replace hixn := Lib.hid hixn
  unfold gval at *
  unfold gcells at *
  unfold Lk.cells at *
  unfold Lk.v at *
  dsimp only at *
  go_enter Try.func35, Try.ntmps35
  go_upto_region 1 with (fail)
  generalize (w.alloc (.cells #[.int .i64 g.k, .slice ta g.toks.length tc, .string g.sep, .slice na g.names.length nc, .int .i64 g.start, .slice pa g.prods.length pc] 26)).alloc (.cells #[.int .i64 x.n, .int .i64 x.a, .int .i64 x.b, .int .i64 x.c, .int .i64 x.d] 42) = W0 at *
  obtain ⟨c0, c1, c2, c3, c4, c5⟩ := hG0.cells
  dsimp only at c1 c3 c5
  go_upto_region 4 with (go_at_call 24; refine (hN.out _ ((hG0.2.1).mono hG0.2.2.size)).mono ?_; rintro e w1 ⟨rfl, hb1⟩)
  have hG1 := hG0.step hb1
  have q6 := q5.step hb1
  clear hG0 hb1 c0 c1 c2 c3 c4 c5 q5
  obtain ⟨c0, c1, c2, c3, c4, c5⟩ := hG1.cells
  dsimp only at c1 c3 c5
  have d0 := q6.cell 0
  have d1 := q6.cell 1
  have d2 := q6.cell 2
  have d3 := q6.cell 3
  have d4 := q6.cell 4
  simp only [List.getElem?_toArray, List.getElem?_cons_zero, List.getElem?_cons_succ] at d0 d1 d2 d3 d4
  go_upto_region 7 with (go_at_call 60; refine (hCh.out _).mono ?_; rintro e w2 ⟨rfl, hb2⟩)
  have hG2 := hG1.step hb2
  have q7 := q6.step hb2
  clear hG1 hb2 c0 c1 c2 c3 c4 c5 d0 d1 d2 d3 d4 q6
  obtain ⟨c0, c1, c2, c3, c4, c5⟩ := hG2.cells
  dsimp only at c1 c3 c5
  go_upto_region 8 with (go_at_call 25; refine (hA.out _ ((hG2.2.1).mono hG2.2.2.size)).mono ?_; rintro e w3 ⟨bo, fo, ss, fs, rfl, hS1, hS2, k1, k2, k3, k4, k5, k6, k7, k8, hb3⟩)
  have hG3 := hG2.step hb3
  have q8 := q7.step hb3
  obtain ⟨mb, hmb, z0, hM⟩ := hS2.at0 ix hixi
  have hmem := hSet.out ss fs k1 k2 k3 k4 k5 k6
  have hbW := Lib.hid hG3.2.2
  clear hS1 hS2 k1 k2 k3 k4 k5 k6 k7 k8 hb3 hG2 c0 c1 c2 c3 c4 c5 hSet q7 hG3
  generalize fs.getD ix [] = S at *
  have hlk : ∀ W', (W'.heap[mb]? = w3.heap[mb]?) → (Instr.lookup 67 (.map (some mb)) (.agg #[.int .i64 x.n, .int .i64 x.a, .int .i64 x.b, .int .i64 x.c, .int .i64 x.d]) false).run Try.prog W' = .ok (.bool (decide (x ∈ S))) W' := fun W' h => by
    have h2 : MapK lookKey W' mb S := by
      obtain ⟨es, clock, hq, r⟩ := hM
      exact ⟨es, clock, h.trans hq, r⟩
    exact h2.look under67 x hxw.out
  have hl1 := fun n : Nat => hlk (w3.drewN n) rfl
  have hfin : Hid (decide (x ∈ S) = true ↔ FO g.prods g.k.toNat g.start s x) := Lib.hid (by rw [decide_eq_true_iff]; exact hmem x)
  have d0 := q8.cell 0
  have d1 := q8.cell 1
  have d2 := q8.cell 2
  have d3 := q8.cell 3
  have d4 := q8.cell 4
  simp only [List.getElem?_toArray, List.getElem?_cons_zero, List.getElem?_cons_succ] at d0 d1 d2 d3 d4
  replace hmem := Lib.hid hmem
  replace hM := Lib.hid hM
  clear hlk
  generalize decide (x ∈ S) = R at *
  go_quiet (fail)
  go_wp2_with fail
  go_ret2
  exact hP.out _ _ hfin.out (bDrwN hbW.out _)

theorem zero_wf : (Lk.of []).wf := by refine ⟨?_, ?_, ?_, ?_, ?_⟩ <;> decide
theorem ends_any (g : Gr) (a : GA) (s : Int) (w : World) (hg : GrAt w w.heap.size g a) (hok : gchk g = 0) (hs : ntB g s = true) : Calls Try.prog 18 #[gval g a, .int .i64 s] w (RetH g s (Lk.of []) w) := by
  obtain ⟨ta, tc, na, nc, pa, pc⟩ := a
  have hk := gok_of hok
  have hH := Lib.hid (fun (W : World) (h : GrAt W W.heap.size g ⟨ta, tc, na, nc, pa, pc⟩) => has35_any g ⟨ta, tc, na, nc, pa, pc⟩ s (Lk.of []) W h hok hs zero_wf (nil_right _ (by have := hk.tk; omega)))
  have hG0 := GB.start hg
  have hP := Lib.hid (fun (b : Bool) (w' : World) (h1 : b = true ↔ FO g.prods g.k.toNat g.start s (Lk.of [])) (h3 : Below w.heap.size w w') => (show RetH g s (Lk.of []) w (.returned (.tuple #[.bool b, .int .i64 0])) w' from ⟨b, rfl, h1, h3⟩))
  clear hg hok hs hk
  unfold gval at *
  unfold gcells at *
  dsimp only at *
  have hz : (Lk.of []).v = .agg #[.int .i64 0, .int .i64 0, .int .i64 0, .int .i64 0, .int .i64 0] := rfl
  rw [hz] at hH
  clear hz
  go_enter Try.func18, Try.ntmps18
  go_wp2_with (go_at_call 35; refine (hH.out _ ((hG0.2.1).mono hG0.2.2.size)).mono ?_; rintro e w1 ⟨R, rfl, hR, hb1⟩; replace hR := Lib.hid hR)
  go_ret2
  exact hP.out _ _ hR.out (hG0.step hb1).2.2
end Go.Proofs.Ytnnkfgekiaaehaa

/- follow.Uses. -/
namespace Go.Proofs.Ytnnkfgekiaaehaa
open Go.RowKit Go.Shelf Go.ChangeShapes Go.WideShapes Go.ChangeAt
set_option linter.unusedVariables false
attribute [local go_sem] Oper.semAt_some

/-- the cells of places -/
def cellsQ (l : List (Nat × Nat)) : List Value := l.flatMap fun x => [.int .i64 x.1, .int .i64 x.2]
theorem cellsQ_len : ∀ l : List (Nat × Nat), (cellsQ l).length = l.length * 2
  | [] => rfl
  | x :: l => by
    have := cellsQ_len l
    simp only [cellsQ, List.flatMap_cons, List.length_append, List.length_cons, List.length_nil] at this ⊢
    omega
theorem cellsQ_app (l m : List (Nat × Nat)) : cellsQ (l ++ m) = cellsQ l ++ cellsQ m := by simp [cellsQ]
theorem cellsQ_get : ∀ (l : List (Nat × Nat)) (i : Nat) (x : Nat × Nat), l[i]? = some x → (cellsQ l)[i * 2]? = some (.int .i64 x.1) ∧ (cellsQ l)[i * 2 + 1]? = some (.int .i64 x.2)
  | [], i, x, h => by simp at h
  | y :: l, 0, x, h => by simp at h; subst h; exact ⟨rfl, rfl⟩
  | y :: l, i + 1, x, h => by
    have := cellsQ_get l i x (by simpa using h)
    rw [show (i + 1) * 2 = i * 2 + 1 + 1 by omega]
    exact this
/-- v is a slice of the call's own of places -/
def OwnQ (W : World) (base : Nat) (v : Value) (l : List (Nat × Nat)) : Prop := W.ownsRow base 54 2 v l.length (cellsQ l)
/-- the slice at A reads as places -/
def RdQ (W : World) (B : Nat) (A : Option Addr) (n : Nat) (l : List (Nat × Nat)) : Prop :=
  l.length = n ∧ (n = 0 ∨ ∃ b off, A = some ⟨b, off, none⟩ ∧ b < B ∧ ∀ (i : Nat) (x : Nat × Nat), l[i]? = some x → W.cell? ⟨b, off + i * 2, none⟩ = some (.int .i64 x.1) ∧ W.cell? ⟨b, off + i * 2 + 1, none⟩ = some (.int .i64 x.2))
theorem OwnQ.reads {W : World} {base : Nat} {v : Value} {l : List (Nat × Nat)} (h : OwnQ W base v l) : ∃ A c, v = .slice A l.length c ∧ RdQ W W.heap.size A l.length l ∧ l.length ≤ c ∧ c ≤ maxLen := by
  rcases h.2 with ⟨rfl, h0⟩ | ⟨g, cap, cur, rfl, hb, hg, hnc, hcm, hcs, ht⟩
  · exact ⟨none, 0, by rw [h0], ⟨rfl, .inl h0⟩, by omega, by simp [maxLen]⟩
  · refine ⟨some ⟨g, 0, none⟩, cap, rfl, ⟨rfl, .inr ⟨g, 0, rfl, (Array.getElem?_eq_some_iff.1 hg).1, fun i x hx => ?_⟩⟩, hnc, hcm⟩
    have hi := (List.getElem?_eq_some_iff.1 hx).1
    obtain ⟨d1, d2⟩ := cellsQ_get l i x hx
    rw [← ht, List.getElem?_take, if_pos (by omega)] at d1 d2
    refine ⟨?_, ?_⟩
    · rw [cell_of_row W g _ cur 54 (0, 0) hg, Nat.zero_add]; simpa using d1
    · rw [cell_of_row W g _ cur 54 (0, 0) hg, Nat.zero_add]; simpa using d2
theorem RdQ.below {W W' : World} {B : Nat} {A : Option Addr} {n : Nat} {l : List (Nat × Nat)} (h : RdQ W B A n l) (hb : Below B W W') : RdQ W' B A n l := by
  refine ⟨h.1, ?_⟩
  rcases h.2 with h0 | ⟨b, off, rfl, hlt, hc⟩
  · exact .inl h0
  · exact .inr ⟨b, off, rfl, hlt, fun i x hx => ⟨(hb.cell (p := ⟨b, off + i * 2, none⟩) hlt).trans (hc i x hx).1, (hb.cell (p := ⟨b, off + i * 2 + 1, none⟩) hlt).trans (hc i x hx).2⟩⟩
theorem RdQ.mono {W : World} {B B' : Nat} {A : Option Addr} {n : Nat} {l : List (Nat × Nat)} (h : RdQ W B A n l) (hb : B ≤ B') : RdQ W B' A n l := by
  refine ⟨h.1, ?_⟩
  rcases h.2 with h0 | ⟨b, off, rfl, hlt, hc⟩
  · exact .inl h0
  · exact .inr ⟨b, off, rfl, by omega, hc⟩
theorem RdQ.get {W : World} {B : Nat} {A : Option Addr} {n : Nat} {l : List (Nat × Nat)} (h : RdQ W B A n l) {i : Nat} {x : Nat × Nat} (hx : l[i]? = some x) : ∃ b off, A = some ⟨b, off, none⟩ ∧ b < B ∧ W.cell? ⟨b, off + i * 2, none⟩ = some (.int .i64 x.1) ∧ W.cell? ⟨b, off + i * 2 + 1, none⟩ = some (.int .i64 x.2) := by
  have hi := (List.getElem?_eq_some_iff.1 hx).1
  rcases h.2 with h0 | ⟨b, off, rfl, hb, hc⟩
  · have := h.1; omega
  · exact ⟨b, off, rfl, hb, hc i x hx⟩
theorem info54 : (Try.prog.info? 54).map (fun i => (i.zero, i.size, i.bytes)) = some (some (.agg #[.int .i64 0, .int .i64 0]), 2, 16) := by kernel_rfl
theorem under49 : Try.prog.underlying 49 = some (.slice 54) := by kernel_rfl

/-- the places of the uses of s -/
def usesQ (vs : List PV) (s : Int) : List (Nat × Nat) := (usAll (fun x => decide (x = s)) vs).map fun u => (u.1, u.2.1)
theorem usesQ_mem (g : Gr) (vs : List PV) (hvs : vs.map PV.p = g.prods) (s : Int) (u : Nat × Nat) : u ∈ usesQ vs s ↔ ∃ p, g.prods[u.1]? = some p ∧ p.right[u.2]? = some s := by
  unfold usesQ
  rw [List.mem_map]
  constructor
  · rintro ⟨x, hx, rfl⟩
    obtain ⟨h1, h2⟩ := List.mem_filter.1 hx
    obtain ⟨y, _, hy1, hy2⟩ := prsU_mem.1 h1
    have := of_decide_eq_true h2
    exact ⟨y.p, by rw [← hvs, List.getElem?_map]; simp at hy1; rw [hy1]; rfl, by rw [← this]; exact hy2⟩
  · rintro ⟨p, hp, hd⟩
    rw [← hvs, List.getElem?_map] at hp
    obtain ⟨y, hy1, hy2⟩ := Option.map_eq_some_iff.1 hp
    exact ⟨(u.1, u.2, s), List.mem_filter.2 ⟨prsU_mem.2 ⟨y, Nat.zero_le _, hy1, by rw [hy2]; exact hd⟩, decide_eq_true rfl⟩, rfl⟩
theorem rowU_len (k : Nat) : ∀ (l : List Int) (d : Nat), (rowU k d l).length = l.length
  | [], _ => rfl
  | s :: l, d => by rw [rowU, List.length_cons, rowU_len k l, List.length_cons]
theorem prsU_len : ∀ (vs : List PV) (k : Nat), (∀ x ∈ vs, x.p.right.length ≤ 6) → (prsU k vs).length ≤ vs.length * 6
  | [], _, _ => by simp [prsU]
  | p :: vs, k, h => by
    have h1 := prsU_len vs (k + 1) fun x hx => h x (List.mem_cons_of_mem _ hx)
    have h2 := h p List.mem_cons_self
    rw [prsU, List.length_append, rowU_len, List.length_cons]
    omega
/-- the uses of s, from number k on -/
def usesN (k : Nat) : List Pr → List (Nat × Nat × Int)
  | [] => []
  | p :: ps => rowU k 0 p.right ++ usesN (k + 1) ps
/-- the uses of s in the productions -/
def useL (ps : List Pr) (s : Int) : List (Nat × Nat) := ((usesN 0 ps).filter fun u => decide (u.2.2 = s)).map fun u => (u.1, u.2.1)
theorem usesN_of : ∀ (vs : List PV) (k : Nat), prsU k vs = usesN k (vs.map PV.p)
  | [], _ => rfl
  | v :: vs, k => by rw [prsU, List.map_cons, usesN, usesN_of vs (k + 1)]
theorem useL_of (vs : List PV) (s : Int) : usesQ vs s = useL (vs.map PV.p) s := by
  unfold usesQ useL usAll usF; rw [usesN_of]
/-- what Uses hands back -/
def RetUs (g : Gr) (s : Int) (w : World) (e : Ending) (w' : World) : Prop :=
  ∃ l v, e = .returned (.tuple #[v, .int .i64 0]) ∧ OwnQ w' w.heap.size v l ∧ ((∀ u : Nat × Nat, u ∈ l ↔ ∃ p, g.prods[u.1]? = some p ∧ p.right[u.2]? = some s) ∧ l = useL g.prods s) ∧ l.length ≤ 144 ∧ Below w.heap.size w w'
theorem usesF_any (s x : Int) (b : Nat) (w : World) (h : w.cell? ⟨b, 0, none⟩ = some (.int .i64 s)) : Calls Try.prog 37 #[.int .i64 x, .pointer (some ⟨b, 0, none⟩)] w fun e w' => e = .returned (.bool (decide (x = s))) ∧ w = w' := by
  by_cases hx : x = s
  · subst hx
    rw [decide_eq_true rfl]
    go_enter Try.func37, Try.ntmps37
    go_wp2_with fail
    go_ret
    exact ⟨by simp, rfl⟩
  · rw [decide_eq_false hx]
    have hxb : (x == s) = false := by simpa using hx
    go_enter Try.func37, Try.ntmps37
    go_wp2_with fail
    go_ret
    exact ⟨by simp [hxb], rfl⟩
theorem row_mono {w : World} {base b' : Nat} {e : TypeId} {size : Nat} {v : Value} {n : Nat} {xs : List Value} (h : w.ownsRow base e size v n xs) (hb : b' ≤ base) : w.ownsRow b' e size v n xs := by
  refine ⟨h.1, ?_⟩
  rcases h.2 with hn | ⟨g, cap, cur, rfl, hg0, hg, rest⟩
  · exact .inl hn
  · exact .inr ⟨g, cap, cur, rfl, by omega, hg, rest⟩
/-- between two uses -/
def QI (w : World) (g : Gr) (a : GA) (s : Int) (b8 B : Nat) {q : Int → Bool} {vs : List PV} (pre : List (UseT q vs)) (W : World) : Prop :=
  GB w g a W ∧ Blk W (w.heap.size + 1) 3 #[.int .i64 s] ∧ B ≤ W.heap.size ∧ ∃ A c, Blk W b8 49 #[.slice A pre.length c] ∧ W.ownsRow B 54 2 (.slice A pre.length c) pre.length (cellsQ (pre.map fun u => (u.1.1, u.1.2.1)))
theorem QI.own {w : World} {g : Gr} {a : GA} {s : Int} {b8 B : Nat} {q : Int → Bool} {vs : List PV} (h1 : w.heap.size + 1 < B) (h2 : b8 < B) : OwnFrom B (fun (pre : List (UseT q vs)) W => QI w g a s b8 B pre W) := by
  rintro pre X Y row ⟨c1, c2, c3, A, c, c4, c5⟩ hg hr
  refine ⟨c1.low (lo := B) (by omega) (below_of_grown hg (fun r e => (hr r e).1) c3), c2.grown hg (fun e => by have := (hr _ e.symm).1; omega), Nat.le_trans c3 hg.size, A, c, c4.grown hg (fun e => by have := (hr _ e.symm).1; omega), row_grown c5 hg (fun b cs e hq => ?_)⟩
  obtain ⟨_, o, ho, hc⟩ := hr b e
  have : X.heap[b]? = some (.cells cs 54 (0, 0)) := hq
  rw [this] at ho; cases ho; cases hc
theorem QI.step {w : World} {g : Gr} {a : GA} {s : Int} {b8 B : Nat} {q : Int → Bool} {vs : List PV} {pre : List (UseT q vs)} {W W' : World} (h : QI w g a s b8 B pre W) (hb : Below W.heap.size W W') : QI w g a s b8 B pre W' := by
  obtain ⟨c1, c2, c3, A, c, c4, c5⟩ := h
  exact ⟨c1.step hb, c2.step hb, Nat.le_trans c3 hb.size, A, c, c4.step hb, row_step c5 hb⟩

set_option maxRecDepth 100000 in
set_option maxHeartbeats 8000000 in
theorem uses_any (g : Gr) (a : GA) (s : Int) (w : World) (hg : GrAt w w.heap.size g a) (hok : gchk g = 0) (hs : ntB g s = true) : Calls Try.prog 20 #[gval g a, .int .i64 s] w (RetUs g s w) := by
  obtain ⟨ta, tc, na, nc, pa, pc⟩ := a
  have hb := nt_bd hs
  have hk := gok_of hok
  have hn8 := hk.nm
  obtain ⟨vs, hvs1, hvs2, hvs3⟩ := hg.prods.vals
  have hvl : vs.length = g.prods.length := by rw [← hvs1]; simp
  have hvr : ∀ x ∈ vs, x.p.right.length ≤ 6 := fun x hx => (hk.pr x.p (by rw [← hvs1]; exact List.mem_map_of_mem hx)).2.1
  have hQm := Lib.hid (And.intro (fun u => usesQ_mem g vs hvs1 s u) (show usesQ vs s = useL g.prods s by rw [useL_of, hvs1]))
  have hUl : (usAll (fun x => decide (x = s)) vs).length ≤ 144 := Nat.le_trans (List.length_filter_le _ _) (Nat.le_trans (prsU_len vs 0 hvr) (by have := hk.pl; omega))
  have hvs := Lib.hid (And.intro hvs2 hvs3)
  have hvr' := Lib.hid hvr
  have hvl' := Lib.hid hvl
  clear hvs1 hvs2 hvs3 hvr hvl
  have hpl : g.prods.length ≤ 24 := hk.pl
  have hG0 := GB.start hg
  have hN := Lib.hid (fun (W : World) (h : GrAt W W.heap.size g ⟨ta, tc, na, nc, pa, pc⟩) => nonterm24_any g ⟨ta, tc, na, nc, pa, pc⟩ s W h (small_of hok) (by omega) (by omega))
  rw [(nonE_ok hok hs).1, (nonE_ok hok hs).2] at hN
  have hP := Lib.hid (fun (l : List (Nat × Nat)) (v : Value) (w' : World) (h1 : OwnQ w' w.heap.size v l) (h2 : (∀ u : Nat × Nat, u ∈ l ↔ ∃ p, g.prods[u.1]? = some p ∧ p.right[u.2]? = some s) ∧ l = useL g.prods s) (h3 : l.length ≤ 144) (h4 : Below w.heap.size w w') => (show RetUs g s w (.returned (.tuple #[v, .int .i64 0])) w' from ⟨l, v, rfl, h1, h2, h3, h4⟩))
  clear hg hok hs hk hb hn8
  unfold gval at *
  unfold gcells at *
  dsimp only at *
  refine (callsIn_wide (n := 6)).1 ?_
  refine callsIn_of_wp_marks Try.func20 rfl trivial ?_ rfl
  refine wpIn_wide.2 ?_
  simp only [Try.ntmps20, List.size_toArray, List.length_cons, List.length_nil, Nat.reduceAdd, Nat.reduceSub, Array.replicate_succ, Array.replicate_zero, List.push_toArray, List.append_toArray, List.nil_append, List.cons_append]
  go_upto_region 1 with (fail)
  have q3 : Blk ((w.alloc (.cells #[.int .i64 g.k, .slice ta g.toks.length tc, .string g.sep, .slice na g.names.length nc, .int .i64 g.start, .slice pa g.prods.length pc] 26)).alloc (.cells #[.int .i64 s] 3)) (w.heap.size + 1) 3 #[.int .i64 s] := Blk.newAt _ _ _ _ (by simp)
  have hG1 := hG0.alloc (.cells #[.int .i64 s] 3)
  have hsz : ((w.alloc (.cells #[.int .i64 g.k, .slice ta g.toks.length tc, .string g.sep, .slice na g.names.length nc, .int .i64 g.start, .slice pa g.prods.length pc] 26)).alloc (.cells #[.int .i64 s] 3)).heap.size = w.heap.size + 2 := by simp
  clear hG0
  generalize (w.alloc (.cells #[.int .i64 g.k, .slice ta g.toks.length tc, .string g.sep, .slice na g.names.length nc, .int .i64 g.start, .slice pa g.prods.length pc] 26)).alloc (.cells #[.int .i64 s] 3) = W0 at *
  obtain ⟨c0, c1, c2, c3, c4, c5⟩ := hG1.cells
  dsimp only at c1 c3 c5
  have y3 := q3.cell 0
  simp only [List.getElem?_toArray, List.getElem?_cons_zero] at y3
  replace hsz := Lib.hid hsz
  go_upto_region 4 with (go_at_call 24; refine (hN.out _ (hG1.2.1.mono hG1.2.2.size)).mono ?_; rintro e w1 ⟨rfl, hb1⟩)
  have hG2 := hG1.step hb1
  have q3b := q3.step hb1
  have h1s := hb1.size
  clear hG1 q3 c0 c1 c2 c3 c4 c5 y3 hb1
  go_upto_region 5 with (fail)
  have hbA : Below w1.heap.size w1 (w1.alloc (.cells #[.slice none 0 0] 49)) := bAlc (Below.refl _ _) _
  have q8 := Blk.new w1 49 #[.slice none 0 0]
  have hG3 := hG2.step hbA
  have q3c := q3b.step hbA
  have hs8 : (w1.alloc (.cells #[.slice none 0 0] 49)).heap.size = w1.heap.size + 1 := by simp
  clear hG2 q3b hbA
  generalize w1.alloc (.cells #[.slice none 0 0] 49) = W2 at *
  generalize hw1 : w1.heap.size = b8 at *
  obtain ⟨c0, c1, c2, c3, c4, c5⟩ := hG3.cells
  dsimp only at c1 c3 c5
  have hMk := Lib.hid (fun (W : World) => mkuses_any g ⟨ta, tc, na, nc, pa, pc⟩ 37 #[.pointer (some ⟨w.heap.size + 1, 0, none⟩)] W)
  unfold gval at hMk
  unfold gcells at hMk
  dsimp only at hMk
  replace hs8 := Lib.hid hs8
  replace hw1 := Lib.hid hw1
  go_wp2_with (go_at_call 36; refine (hMk.out _).mono ?_; rintro e w6 ⟨rfl, hw6⟩; replace hw6 := Lib.hid hw6)
  have hb6 : Below W2.heap.size W2 w6 := by rw [hw6.out]; exact bAlc (bAlc (Below.refl _ _) _) _
  have hG4 := hG3.step hb6
  have q3d := q3c.step hb6
  have q8d := q8.step hb6
  have hB1 : W2.heap.size = b8 + 1 := hs8.out
  have hs6 : w6.heap.size = b8 + 3 := by rw [hw6.out]; simp; omega
  have hlo : w.heap.size + 2 ≤ b8 := by have := hsz.out; have := hw1.out; omega
  have hUS : USt w.heap.size W2.heap.size (W2.heap.size + 1) pa g.prods.length pc vs (.func (.func 37) #[] #[.pointer (some ⟨w.heap.size + 1, 0, none⟩)]) w6 := by
    have e1 : Below w.heap.size w w6 := hG4.2.2
    refine ⟨?_, ?_, hvs.out.1.below e1, fun x hx => (hvs.out.2 x hx).below e1, e1.size⟩
    · rw [hw6.out]; exact ((Blk.new W2 26 _).alloc _).cell 5
    · rw [hw6.out]; exact (Blk.newAt _ _ _ _ (by simp)).cell 0
  have hE6 : w6.cell? ⟨w.heap.size + 1, 0, none⟩ = some (.int .i64 s) := q3d.cell 0
  clear hw6 hb6 hG3 q3c q8 c0 c1 c2 c3 c4 c5
  rw [hB1] at hUS ⊢
  refine (wpIn_wide (n := 6)).1 ?_
  refine wpIn_rangeFunc_ownH (F := Fence.wide) (n := 6) rfl (by omega) (gf := 61) (lb := #[.pointer (some ⟨b8 + 1, 0, none⟩), .pointer (some ⟨b8 + 1 + 1, 0, none⟩)]) rfl trivial (enters_of Try.func61 (by kernel_rfl) rfl)
    (uses_stops (fun x => decide (x = s)) 37 #[.pointer (some ⟨w.heap.size + 1, 0, none⟩)] (KpU (w.heap.size + 2) (b8 + 1) (b8 + 1 + 1)) (fun W => W.cell? ⟨w.heap.size + 1, 0, none⟩ = some (.int .i64 s)) 5 (by omega) (b8 + 1) (b8 + 1 + 1) w.heap.size pa g.prods.length pc vs (by omega)
      (fun x hx => by have := hvr'.out x hx; omega) w6 (fun X Y h s => s.kept ⟨h.1.mono (by omega), h.2⟩) (fun X Y h e => (h.1.cell (p := ⟨w.heap.size + 1, 0, none⟩) (by simp)).trans e) (fun X Y h e => cell_later h e) (fun _ _ h => h.1.size) (enters_of Try.func37 (by kernel_rfl) rfl) (fun x W hW => callsIn_wide.2 (usesF_any s x (w.heap.size + 1) W hW)) hUS hE6)
    KpU.trans (fun W l o o' hl _ _ _ => KpU.put W l o' hl (by omega) (by omega) (by omega)) (Below.refl _ _) (fun _ => rfl)
    (fun pre W => QI w g ⟨ta, tc, na, nc, pa, pc⟩ s b8 (b8 + 3) pre W) (fun _ _ _ => False)
    (by rw [hs6]; exact QI.own (by omega) (by omega)) (fun _ s X Y row hs _ _ => hs)
    ⟨hG4, q3d, by omega, none, 0, q8d, World.ownsRow_nil w6 (b8 + 3) 54 2⟩
    (fun x a' W => ∃ Bx, b8 + 3 ≤ Bx ∧ Blk W Bx 54 #[.int .i64 (x.1.1 : Int), .int .i64 (x.1.2.1 : Int)] ∧ ∃ (f : Nat → Value), a' = { tmps := #[(f 0), (f 1), .pointer (some ⟨w.heap.size, 0, none⟩), .pointer (some ⟨w.heap.size + 1, 0, none⟩), (f 4), (f 5), (f 6), (f 7), .pointer (some ⟨b8, 0, none⟩), .pointer (some ⟨Bx, 0, none⟩), (f 10), (f 11), (f 12), (f 13), (f 14), (f 15), (f 16), (f 17), (f 18), (f 19), (f 20), (f 21), (f 22), (f 23), (f 24), (f 25), (f 26), (f 27), (f 28)], defers := [] })
    (fun x a' _ X Y row hs hg hr => by obtain ⟨Bx, h1, h2, h3⟩ := hs; exact ⟨Bx, h1, blk_own Bx 54 (fun (_ : Unit) => #[.int .i64 (x.1.1 : Int), .int .i64 (x.1.2.1 : Int)]) () X Y row h2 hg (fun r e => (hr r e).2), h3⟩)
    ?assign ?body ?done ?stop
  case assign =>
    rintro l pre x W K hI hK
    dsimp only [encU]
    have hbA : Below W.heap.size W (W.alloc (.cells #[.int .i64 (x.1.1 : Int), .int .i64 (x.1.2.1 : Int)] 54)) := bAlc (Below.refl _ _) _
    have hBW : b8 + 3 ≤ W.heap.size := hI.2.2.1
    have hIA := hI.step hbA
    have hlow : w.heap.size + 2 ≤ W.heap.size := by omega
    gi_wp2
    exact hK _ _ ((KeepsOthers.alloc _ _).from _) ⟨hbA.mono hlow, hbA.block _ (by omega), hbA.block _ (by omega)⟩ hIA ⟨W.heap.size, hBW, Blk.new W 54 _, ex_frame _ rfl⟩
  case body =>
    rintro l pre x a' Wb hl ⟨r, hr⟩ ⟨k1, k2, k3, A, c, k4, k5⟩ ⟨Bx, hBx, bX, f2, rfl⟩ hlt
    have hlt' : pre.length < 144 := Nat.lt_of_lt_of_le hlt hUl
    have x0 := bX.cell 0
    have x1 := bX.cell 1
    have y8 := k4.cell 0
    simp only [List.getElem?_toArray, List.getElem?_cons_zero, List.getElem?_cons_succ] at x0 x1 y8
    obtain ⟨i0, hi, hz0, hz1, hz2⟩ := info_parts info54
    have hC1 : Hid (∀ (j : Nat) (u : Value), [Value.int .i64 (x.1.1 : Int), .int .i64 (x.1.2.1 : Int)][j]? = some u → (Wb.alloc (.cells #[.int .i64 (x.1.1 : Int), .int .i64 (x.1.2.1 : Int)] 54)).cell? ((⟨Wb.heap.size, 0, none⟩ : Addr).add j) = some u) := Lib.hid fun j u hu => by
      have hadd : (⟨Wb.heap.size, 0, none⟩ : Addr).add j = ⟨Wb.heap.size, 0 + j, none⟩ := by unfold Addr.add; split <;> simp_all
      rw [hadd, (Blk.new Wb 54 _).cell, Nat.zero_add]
      simpa using hu
    have hC2 : Hid (∀ u ∈ [Value.int .i64 (x.1.1 : Int), .int .i64 (x.1.2.1 : Int)], u.oneCell' = true) := Lib.hid fun u hu => by
      simp only [List.mem_cons, List.not_mem_nil, or_false] at hu
      rcases hu with rfl | rfl <;> rfl
    have hFin : Hid (∀ (w1 : World) (A' : Option Addr) (c' : Nat), (Wb.alloc (.cells #[.int .i64 (x.1.1 : Int), .int .i64 (x.1.2.1 : Int)] 54)).grownBy w1 (Value.slice A pre.length c).ownBlock →
        w1.ownsRow (b8 + 3) 54 2 (.slice A' (pre.length + 1) c') (pre.length + 1) (cellsQ (pre.map fun u => (u.1.1, u.1.2.1)) ++ [.int .i64 (x.1.1 : Int), .int .i64 (x.1.2.1 : Int)]) →
        w1.cell? ⟨b8, 0, none⟩ = some (.slice A pre.length c) ∧ w1.frozen? ⟨b8, 0, none⟩ = false ∧
        (KeepsFrom w6.heap.size Wb (w1.setCell ⟨b8, 0, none⟩ (.slice A' (pre.length + 1) c')) ∧ KpU (w.heap.size + 2) (b8 + 1) (b8 + 1 + 1) Wb (w1.setCell ⟨b8, 0, none⟩ (.slice A' (pre.length + 1) c')) ∧
          QI w g ⟨ta, tc, na, nc, pa, pc⟩ s b8 (b8 + 3) (pre ++ [x]) (w1.setCell ⟨b8, 0, none⟩ (.slice A' (pre.length + 1) c')))) := Lib.hid fun w1 A' c' hg ho => by
      have hlow : ∀ k, (Value.slice A pre.length c).ownBlock = some k → b8 + 3 ≤ k := fun k hk => (own_in k5 k hk).1
      have hne : ∀ j, j < b8 + 3 → some j ≠ (Value.slice A pre.length c).ownBlock := fun j hj e => by have := hlow j e.symm; omega
      have q8 := (k4.alloc (.cells #[.int .i64 (x.1.1 : Int), .int .i64 (x.1.2.1 : Int)] 54)).grown hg (hne _ (by omega))
      have hB : Below (w.heap.size + 2) Wb (w1.setCell ⟨b8, 0, none⟩ (.slice A' (pre.length + 1) c')) :=
        (((bAlc (Below.refl _ _) _ : Below Wb.heap.size Wb (Wb.alloc (.cells #[.int .i64 (x.1.1 : Int), .int .i64 (x.1.2.1 : Int)] 54))).mono (show w.heap.size + 2 ≤ Wb.heap.size by omega)).grown hg (by simp; omega) (fun k hk => by have := hlow k hk; omega)).setCell (show w.heap.size + 2 ≤ b8 by omega) _
      have hcells : ∀ (j : Nat) (o : Obj), (Value.slice A pre.length c).ownBlock = some j → (Wb.alloc (.cells #[.int .i64 (x.1.1 : Int), .int .i64 (x.1.2.1 : Int)] 54)).heap[j]? = some o → o.isCells = true := fun j o e ho => by
        rcases k5.2 with ⟨e1, _⟩ | ⟨gb, cap, cur, e1, _, hb, _⟩
        · rw [e1] at e; cases e
        · rw [e1] at e; injection e with e; subst e
          have := (show Blk Wb gb 54 cur from hb).alloc (.cells #[.int .i64 (x.1.1 : Int), .int .i64 (x.1.2.1 : Int)] 54)
          unfold Blk at this
          rw [this] at ho; cases ho; rfl
      have hblk : ∀ j, j < b8 + 3 → j ≠ b8 → (w1.setCell ⟨b8, 0, none⟩ (.slice A' (pre.length + 1) c')).heap[j]? = Wb.heap[j]? := fun j hj hn =>
        (Below.heap_setCell w1 _ _ j (by simpa using hn)).trans ((hg.block j (by simp; omega) (hne j hj)).trans (Below.heap_alloc _ _ _ (by omega)))
      refine ⟨q8.cell 0, q8.frozen 0, ((KeepsOthers.alloc Wb _).trans ((KeepsOthers.of_grownBy hg hcells).trans (KeepsOthers.setCell w1 _ _))).from _, ⟨hB, hblk _ (by omega) (by omega), hblk _ (by omega) (by omega)⟩, ?_⟩
      refine ⟨k1.low (lo := w.heap.size + 2) (by omega) hB, k2.below hB (by omega), Nat.le_trans k3 hB.size, A', c', ?_, ?_⟩
      · rw [show (pre ++ [x]).length = pre.length + 1 by simp]
        exact q8.put 0 _
      · rw [show (pre ++ [x]).length = pre.length + 1 by simp, List.map_append, cellsQ_app]
        exact row_grown ho (grownBy_setC' _ _ _ _) (fun b cs e hq => by injection e with e; subst e; cases blk_type q8 hq)
    replace hUl := Lib.hid hUl
    replace hlt' := Lib.hid hlt'
    clear k1 k2 bX hlt
    gi_wp2_with (gi_at_builtin; refine wpListIn_append_own _ rfl _ _ 49 rfl (b8 + 3) 54 i0 (.agg #[.int .i64 0, .int .i64 0]) 2 16 under49 hi hz0 hz1 hz2 rfl (by decide) _ _ _ rfl (k5.alloc _) ⟨Wb.heap.size, 0, none⟩ 1 1 [.int .i64 (x.1.1 : Int), .int .i64 (x.1.2.1 : Int)] rfl rfl hC1.out hC2.out (by have := hlt'.out; unfold maxLen; omega) (by have := hlt'.out; omega) (by simp; omega) ?_; intro v' w1 hown' hgrow _; obtain ⟨g', cap', rfl⟩ := ownsRow_succ hown'; obtain ⟨z1, z2, z3⟩ := hFin.out w1 _ _ hgrow hown'; replace z3 := Lib.hid z3; clear hown' hgrow)
    exact z3.out
  case done =>
    rintro D xs Wb hD hys ⟨k1, k2, k3, A, c, k4, k5⟩ hKD
    have hys' : xs.map (·.1) = usAll (fun x => decide (x = s)) vs := hys
    have y8 := k4.cell 0
    simp only [List.getElem?_toArray, List.getElem?_cons_zero] at y8
    have hlq : xs.map (fun u => (u.1.1, u.1.2.1)) = usesQ vs s := by
      have := congrArg (List.map fun u : Nat × Nat × Int => (u.1, u.2.1)) hys'
      rw [List.map_map] at this
      exact this
    have hxl : xs.length ≤ 144 := by
      have := congrArg List.length hys'
      rw [List.length_map] at this
      omega
    have hkey : Hid (RetUs g s w (.returned (.tuple #[.slice A xs.length c, .int .i64 0])) (Wb.putObj D (.deferred none))) := Lib.hid (by
      refine hP.out (xs.map (fun u => (u.1.1, u.1.2.1))) _ _ ?_ ?_ (by rw [List.length_map]; exact hxl) (k1.2.2.trans ⟨rfl, rfl, rfl, by simp, fun k hk => World.putObj_heap_other (by omega)⟩)
      · unfold OwnQ
        rw [List.length_map]
        exact row_grown (row_mono k5 (by omega)) (grownBy_putObj' _ D (.deferred none)) (fun b cs e hq => by injection e with e; subst e; unfold Blk at hq; rw [hKD] at hq; cases hq)
      · rw [hlq]; exact hQm.out)
    replace hys := Lib.hid hys
    replace hys' := Lib.hid hys'
    replace hlq := Lib.hid hlq
    go_wp2_with fail
    refine ⟨by simp, .inl ⟨_, _, rfl, run_takeDeferred hKD, ?_⟩⟩
    exact ⟨.tuple #[.slice A xs.length c, .int .i64 0], results_tmp2 (t := 4) (u := 5) rfl _ _ _, hkey.out⟩
  case stop =>
    rintro D c pre W hD _ hf
    exact hf.elim
end Go.Proofs.Ytnnkfgekiaaehaa

/- Spots: their equality; SameSpots. -/
namespace Go.Proofs.Ytnnkfgekiaaehaa
open Go.ChangeShapes Go.WideShapes Go.ChangeAt Go.RowKit
set_option linter.unusedVariables false

/-- a spot as a value -/
def spv (x : Nat × Nat) : Value := .agg #[.int .i64 x.1, .int .i64 x.2]
theorem spv_inj {x y : Nat × Nat} (h : spv x = spv y) : x = y := by
  cases x; cases y; simp [spv] at h; rw [Prod.mk.injEq]; omega
theorem under54 : Try.prog.underlying 54 = some (.struct (Try.prog.fieldsOf 54)) := by kernel_rfl
theorem spotKeyed : Maps.Keyed Try.prog 54 := Maps.Keyed.of_law (deep_law_gate (P := Try.prog) (k := 54) (by kernel_rfl) (of_decide_eq_true (by kernel_rfl)) (of_decide_eq_true (by kernel_rfl)) (by kernel_rfl) (by kernel_rfl))
theorem fields54 : ∃ f0 f1 : Field, Try.prog.fieldsOf 54 = #[f0, f1] ∧ f0.name = "Prod" ∧ f0.type = 3 ∧ f0.offset = 0 ∧ f1.name = "Dot" ∧ f1.type = 3 ∧ f1.offset = 1 := by
  refine ⟨(Try.prog.fieldsOf 54)[0]!, (Try.prog.fieldsOf 54)[1]!, by kernel_rfl, by kernel_rfl, by kernel_rfl, by kernel_rfl, by kernel_rfl, by kernel_rfl, by kernel_rfl⟩
theorem cells54 : Try.prog.cellsOf 54 = 2 := by kernel_rfl
theorem keyT54 : Try.prog.keyType 54 = true := by kernel_rfl
theorem nat_wf {n : Nat} (h : n ≤ 1000000) : (Lit.int .i64 (n : Int)).wf = true := by
  have e1 : IntKind.i64.min = -9223372036854775808 := by decide
  have e2 : IntKind.i64.max = 9223372036854775807 := by decide
  simp [Lit.wf, e1, e2]
  omega
theorem take_eq_allq {α : Type} {l m : List α} {i : Nat} (hl : l.length ≤ i) (hlm : l.length = m.length) (h : l.take i = m.take i) : l = m := by
  rwa [List.take_of_length_le hl, List.take_of_length_le (by omega)] at h
theorem spot_key (x : Nat × Nat) (h1 : x.1 ≤ 1000000) (h2 : x.2 ≤ 1000000) : ∃ l, keyOf Try.prog 54 (spv x) = some l := by
  obtain ⟨d, hd⟩ := size_types
  obtain ⟨f0, f1, hf, n0, t0, o0, n1, t1, o1⟩ := fields54
  have hk : Try.prog.keyLits (Try.prog.types.size + 1) 54 (spv x).cells.toList = some [.int .i64 x.1, .int .i64 x.2] := by
    rw [hd]; unfold Program.keyLits; rw [under54, hf]
    simp [spv, Value.cells, cells54, cells3, n0, t0, o0, n1, t1, o1, lits_int, nat_wf h1, nat_wf h2]
  have hfo : Value.formed Try.prog 54 (spv x) = true := by
    simp [Value.formed, spv, cells54]
  unfold keyOf
  rw [under54]
  show ∃ l, (if (Try.prog.keyType 54 && Value.formed Try.prog 54 (spv x)) = true then (Try.prog.keyLits (Try.prog.types.size + 1) 54 (spv x).cells.toList).map (fun ls => Lit.string (keyBytes ls)) else none) = some l
  rw [if_pos (by rw [keyT54, hfo]; rfl), hk]
  exact ⟨_, rfl⟩
theorem spot_same (x y : Nat × Nat) (hx : x.1 ≤ 1000000 ∧ x.2 ≤ 1000000) (hy : y.1 ≤ 1000000 ∧ y.2 ≤ 1000000) (w : World) : (Op.equal 54 (spv x) (spv y)).run Try.prog w = .ok (decide (x = y)) w := by
  obtain ⟨lx, h1⟩ := spot_key x hx.1 hx.2
  obtain ⟨ly, h2⟩ := spot_key y hy.1 hy.2
  have hm : ∃ m, m ≤ 10000 ∧ Try.prog.keyTypeAt m 54 = true := ⟨3, by omega, by kernel_rfl⟩
  obtain ⟨m, hm1, hm2⟩ := hm
  obtain ⟨r, hr, hiff⟩ := run_equal_deep (P := Try.prog) w hm1 hm2 (by kernel_rfl) h1 h2
  rw [hr]
  have : r = decide (x = y) := by
    by_cases e : x = y
    · subst e
      rw [h1] at h2
      cases h2
      simp [hiff]
    · have : r ≠ true := fun h => e (by
        have hl := hiff.mp h
        rw [← hl] at h2
        exact spv_inj (spotKeyed.inj h1 h2))
      cases r
      · simp [e]
      · exact absurd rfl this
  rw [this]
theorem spot_neq (x y : Nat × Nat) (hx : x.1 ≤ 1000000 ∧ x.2 ≤ 1000000) (hy : y.1 ≤ 1000000 ∧ y.2 ≤ 1000000) (w : World) : (binOp .neq 54 (spv x) (spv y)).run Try.prog w = .ok (.bool (!decide (x = y))) w := by
  have h := spot_same x y hx hy w
  simp only [spv] at h ⊢
  simp only [binOp]
  simp [h, Result.andThen]
def SpotsOk (l : List (Nat × Nat)) : Prop := ∀ x ∈ l, x.1 ≤ 1000000 ∧ x.2 ≤ 1000000

theorem samespots_any (A A2 : Option Addr) (n m c c2 : Nat) (l k : List (Nat × Nat)) (w : World) (ha : RdQ w w.heap.size A n l) (hb : RdQ w w.heap.size A2 m k) (hr : SpotsOk l) (hr2 : SpotsOk k) (hn : n ≤ maxLen) (hm : m ≤ maxLen) :
    Calls Try.prog 21 #[.slice A n c, .slice A2 m c2] w fun e w' => e = .returned (.bool (decide (l = k))) ∧ Below w.heap.size w w' := by
  have hl := Lib.hid ha.1
  have hk := Lib.hid hb.1
  obtain ⟨R, hR⟩ : ∃ R, R = decide (l = k) := ⟨_, rfl⟩
  rw [← hR]
  replace hR := Lib.hid hR
  unfold maxLen at hn hm
  by_cases hnm : n = m
  · subst hnm
    have hE := Lib.hid (fun (y x : Nat × Nat) (hy : y ∈ l) (hx : x ∈ k) (w : World) => spot_neq y x (hr y hy) (hr2 x hx) w)
    unfold spv at hE
    go_enter Try.func21, Try.ntmps21
    go_wp2_with fail
    go_loopg [5] n (fun gk s5 wr => ∃ i : Nat, s5 = .int .i64 i ∧ i + gk = n ∧ l.take i = k.take i ∧ RdQ wr w.heap.size A n l ∧ RdQ wr w.heap.size A2 n k ∧ Below w.heap.size w wr)
    case atStart => exact ⟨0, rfl, by omega, by simp, ha, hb, Below.refl _ _⟩
    case round =>
      clear ha hb
      obtain ⟨i, rfl, hi, hni, ha, hb, hw⟩ := hrel
      replace hi := Lib.hid hi
      replace hni := Lib.hid hni
      by_cases hin : i < n
      · have hil : i < l.length := by have := hl.out; omega
        have hik : i < k.length := by have := hk.out; omega
        have hyi : l[i]? = some l[i] := List.getElem?_eq_getElem hil
        have hxi : k[i]? = some k[i] := List.getElem?_eq_getElem hik
        obtain ⟨b, off, rfl, hbt, x0, x1⟩ := ha.get hyi
        obtain ⟨b', off', rfl, hbt', y0, y1⟩ := hb.get hxi
        have htk : l.take (i + 1) = l.take i ++ [l[i]] := List.take_succ_eq_append_getElem hil
        have htk2 : k.take (i + 1) = k.take i ++ [k[i]] := List.take_succ_eq_append_getElem hik
        have hee := hE.out l[i] k[i] (List.getElem_mem hil) (List.getElem_mem hik)
        generalize hy : l[i] = y at *
        generalize hx : k[i] = x at *
        replace hy := Lib.hid hy
        replace hyi := Lib.hid hyi
        replace hx := Lib.hid hx
        replace hxi := Lib.hid hxi
        replace htk := Lib.hid htk
        replace htk2 := Lib.hid htk2
        have hzi : (0 : Int) ≤ i := by omega
        have hzn : (i : Int) < n := by omega
        by_cases hyx : y = x
        · simp only [hyx, decide_true, Bool.not_true] at hee
          have hG := Lib.hid (show l.take (i + 1) = k.take (i + 1) by rw [htk.out, htk2.out, hni.out, hyx])
          subst hyx
          go_wp2_with fail
          go_quiet (fail)
          go_wp2_with fail
          go_roundg (n - (i + 1))
          case measure => have := hi.out; omega
          case rel => exact ⟨i + 1, by go_num, by have := hi.out; omega, hG.out, ha.below (bDrwN' _ _), hb.below (bDrwN' _ _), bDrwN hw _⟩
        · have hRF : R = false := by
            rw [hR.out]; apply decide_eq_false
            rintro rfl
            exact hyx (hy.out.symm.trans hx.out)
          subst hRF
          simp only [hyx, decide_false, Bool.not_false] at hee
          clear hyx
          go_wp2_with fail
          go_quiet (fail)
          go_wp2_with fail
          go_ret
          exact ⟨rfl, bDrwN hw _⟩
      · have hRT : R = true := by
          rw [hR.out]; exact decide_eq_true (take_eq_allq (by have := hl.out; omega) (by have := hl.out; have := hk.out; omega) hni.out)
        subst hRT
        go_wp2_with fail
        go_ret
        exact ⟨rfl, hw⟩
  · have hb1 : ((n : Int) != (m : Int)) = true := by simp; omega
    have hRF : R = false := by
      rw [hR.out]; apply decide_eq_false
      rintro rfl
      exact hnm (hl.out.symm.trans hk.out)
    subst hRF
    clear hnm
    go_enter Try.func21, Try.ntmps21
    go_wp2_with fail
    go_ret
    exact ⟨rfl, Below.refl _ _⟩
end Go.Proofs.Ytnnkfgekiaaehaa
