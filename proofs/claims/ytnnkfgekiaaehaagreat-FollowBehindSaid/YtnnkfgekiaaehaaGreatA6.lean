/- Walks and plain laws, part 6 of 9: The reference 16: follows; follow.uses: the places behind whose dot a wanted symbol stands; A drawn region that calls and lays blocks, inside a round of a range over a function; follow.all: what stands in memory; the marks of the loops. Conditions: none beyond those that each theorem states. -/
import Derived.Test.YtnnkfgekiaaehaaGreatA5
import Derived.Deep.RegionHeld3
/- The reference 16: follows. -/
namespace Go.Proofs.YtnnkfgekiaaehaaGreat
open Go.ChangeShapes Go.WideShapes Go.ChangeAt Go.RowKit
set_option linter.unusedVariables false

/-- what follows hands back -/
def RetFo (g : Gr) (k : Nat) (w : World) (e : Ending) (w' : World) : Prop :=
  ∃ b fs ss, e = .returned (.slice (some ⟨b, 0, none⟩) g.names.length g.names.length) ∧ SetsA w' b g.names.length g.toks.length fs ∧ SetsFit k fs ∧ SoundO g.prods k g.start fs ∧ SetsFit k ss ∧ SoundF g.prods k ss ∧ ClosedF g.prods k ss ∧ ClosedO g.prods k g.start ss fs ∧ Below w.heap.size w w'
theorem fo_rightG {g : Gr} {k : Nat} (hok : GOk g k) {s : Int} {x : Lk} (h : FO g.prods k g.start s x) : x.right g.toks.length :=
  (fo_right hok.k1 hok.k4 (by have := hok.tk; omega) (fun p hp s hs h16 => by have := (hok.pr p hp).2.2 s hs; omega) h).1
theorem SetsA.other {W : World} {bo bf n n' : Nat} {m : Int} {ss fs : List (List Lk)} (h : SetsA W bf n m ss) (ho : SetsA W bo n' m fs) (hne : bf ≠ bo) (i : Nat) (v : Value) : SetsA (W.setCell ⟨bo, i, none⟩ v) bf n m ss := by
  obtain ⟨h1, cs, h2, h3, h4⟩ := h
  obtain ⟨o1, cs', o2, o3, o4⟩ := ho
  refine ⟨h1, cs, h2.far hne v, h3, fun j s hs => ?_⟩
  obtain ⟨A, c, a, b⟩ := h4 j s hs
  refine ⟨A, c, a, b.put o2 (fun j v hv => ?_) i v⟩
  have hj := (Array.getElem?_eq_some_iff.1 hv).1
  obtain ⟨A, c, a, _⟩ := o4 j _ (List.getElem?_eq_getElem (by omega))
  rw [a] at hv
  injection hv with hv
  exact ⟨_, _, _, hv.symm⟩
/-- the uses of one production up to a place are in the sets -/
def UseC (k : Nat) (ss fs : List (List Lk)) (p : Pr) (D : Nat) : Prop := ∀ (d : Nat) (s : Int), d < D → p.right[d]? = some s → 16 ≤ s → ∀ z ∈ usesL k ss fs p d, z ∈ fs.getD (s - 16).toNat []
/-- the set that a use adds -/
def useR (k : Nat) (ss fs : List (List Lk)) (p : Pr) (d : Nat) : List Lk := sumR k (tailL k ss (p.right.drop (d + 1))) (fs.getD (p.left - 16).toNat [])
theorem use_facts {g : Gr} {k : Nat} (hok : GOk g k) {ss fs : List (List Lk)} (hf : SetsFit k ss) (hff : SetsFit k fs) (hss : SoundF g.prods k ss) (hs : SoundO g.prods k g.start fs) {p : Pr} (hp : p ∈ g.prods) {d : Nat} {s : Int} (hd : p.right[d]? = some s) (h16 : 16 ≤ s) :
    (∀ x ∈ useR k ss fs p d, Fit k x) ∧ Asc (useR k ss fs p d) ∧ (∀ x ∈ useR k ss fs p d, x.right g.toks.length) ∧ (∀ x, x ∈ useR k ss fs p d ↔ x ∈ usesL k ss fs p d) ∧ (∀ x ∈ useR k ss fs p d, FO g.prods k g.start s x) := by
  have hk1 := hok.k1
  have hk4 := hok.k4
  have hpr := hok.pr p hp
  have hdr : ∀ z ∈ p.right.drop (d + 1), SymOk g.names.length z := fun z hz => hok.sym hp z (List.mem_of_mem_drop hz)
  have hT := tail_fit hk1 hk4 hf _ hdr
  have hL := setsFit_get hff (p.left - 16).toNat
  have hfo : ∀ x ∈ useR k ss fs p d, FO g.prods k g.start s x := fun x hx => by
    obtain ⟨y, hy, z, hz, rfl⟩ := (sumR_mem hk4 hT hL x).1 hx
    have hz2 := hs _ z hz
    rw [show (16 : Int) + ((p.left - 16).toNat : Int) = p.left by omega] at hz2
    exact .use hp hd h16 (tail_sound hk1 hk4 hf hss _ hdr y hy) hz2
  refine ⟨sumR_fit hk4 hT hL, sumR_asc hk4 hT hL, fun x hx => fo_rightG hok (hfo x hx), fun x => ?_, hfo⟩
  unfold useR usesL
  rw [sumR_mem hk4 hT hL, sums_mem]
  constructor
  · rintro ⟨y, hy, z, hz, rfl⟩; exact ⟨y, hy, z, (lset_mem (k := 8) (fun x hx => (hL x hx).1) z).2 hz, rfl⟩
  · rintro ⟨y, hy, z, hz, rfl⟩; exact ⟨y, hy, z, (lset_mem (k := 8) (fun x hx => (hL x hx).1) z).1 hz, rfl⟩
theorem follow_sound {g : Gr} {k : Nat} {fs : List (List Lk)} (hs : SoundO g.prods k g.start fs) {s : Int} (h16 : 16 ≤ s) (hi : (s - 16).toNat < fs.length) {U : List Lk} (hU : ∀ x ∈ U, FO g.prods k g.start s x) (J : List Lk) (hJ : ∀ x, x ∈ J ↔ x ∈ fs.getD (s - 16).toNat [] ∨ x ∈ U) : SoundO g.prods k g.start (fs.set (s - 16).toNat J) := by
  refine setO_sound hs _ hi fun y hy => ?_
  rw [show (16 : Int) + ((s - 16).toNat : Int) = s by omega]
  rcases (hJ y).1 hy with h | h
  · have := hs _ y h
    rwa [show (16 : Int) + ((s - 16).toNat : Int) = s by omega] at this
  · exact hU y h
theorem nil_kept {fs : List (List Lk)} {i0 ix : Nat} {J : List Lk} (h : Lk.of [] ∈ fs.getD i0 []) (hi : ix < fs.length) (hJ : ∀ x ∈ fs.getD ix [], x ∈ J) : Lk.of [] ∈ (fs.set ix J).getD i0 [] := by
  rw [getD_set fs _ _ _ hi]
  split
  · rename_i e; subst e; exact hJ _ h
  · exact h

set_option maxRecDepth 100000 in
set_option maxHeartbeats 8000000 in
theorem follows_any (g : Gr) (a : GA) (k : Nat) (hok : GOk g k) (w : World) (hg : GrAt w w.heap.size g a) : Calls Tryz.prog 43 #[gval g a] w (RetFo g k w) := by
  have hP := Lib.hid (fun (b : Nat) (fs ss : List (List Lk)) (w' : World) (h1 : SetsA w' b g.names.length g.toks.length fs) (h3 : SetsFit k fs) (h4 : SoundO g.prods k g.start fs) (h5 : SetsFit k ss) (h6 : SoundF g.prods k ss) (h7 : ClosedF g.prods k ss) (h8 : ClosedO g.prods k g.start ss fs) (h9 : Below w.heap.size w w') =>
    (show RetFo g k w (.returned (.slice (some ⟨b, 0, none⟩) g.names.length g.names.length)) w' from ⟨b, fs, ss, rfl, h1, h3, h4, h5, h6, h7, h8, h9⟩))
  obtain ⟨ta, tc, na, nc, pa, pc⟩ := a
  have hok' := Lib.hid hok
  have hG0 := GB.start hg
  have hgw := Lib.hid hg
  have hOfA := Lib.hid (fun (l : List Int) hl (bo : Nat) (ss : List (List Lk)) (RA : Option Addr) (rc : Nat) (W : World) hg hS hf hR hln => refof_ok g ⟨ta, tc, na, nc, pa, pc⟩ k hok l hl bo ss RA rc W hg hS hf hR hln)
  have hFi := Lib.hid (fun (W : World) (h : GrAt W W.heap.size g ⟨ta, tc, na, nc, pa, pc⟩) => firsts_any g ⟨ta, tc, na, nc, pa, pc⟩ k hok W h)
  have hk := Lib.hid hok.k1
  have hk4 := Lib.hid hok.k4
  have hkk := Lib.hid hok.hk
  have hn8' := Lib.hid hok.nm
  have hm := Lib.hid hok.tk
  have hp24 := Lib.hid hok.pl
  have hst := hok.st
  obtain ⟨i0, hi0⟩ := Int.eq_ofNat_of_zero_le (show 0 ≤ g.start - 16 by omega)
  have hi0n : (g.start - 16).toNat = i0 := by omega
  have hi0i : i0 < g.names.length := by omega
  have zw0 : IntKind.i64.wrap (g.start - 16) = (i0 : Int) := by rw [hi0]; exact IntWalk.i64_in _ (by have := hn8'.out; omega)
  have hz0x : (0 : Int) ≤ i0 := by omega
  have hz0y : (i0 : Int) < g.names.length := by omega
  obtain ⟨i28, hi28, hq0, hq1, hq2⟩ := info_parts info28
  clear hg hok
  replace hst := Lib.hid hst
  replace hi0 := Lib.hid hi0
  replace hi0n := Lib.hid hi0n
  unfold gval at *
  unfold gcells at *
  dsimp only at *
  go_enter Tryz.func43, Tryz.ntmps43
  go_upto_region 2 with (go_at_call 42; refine (hFi.out _ ((hG0.2.1).mono hG0.2.2.size)).mono ?_; rintro e w1 ⟨bf, ss, rfl, hSf, hbf, hfit, hsnd, hcls, hb1⟩)
  have hG1 := hG0.step hb1
  clear hG0 hb1 hFi
  replace hfit := Lib.hid hfit
  replace hsnd := Lib.hid hsnd
  replace hcls := Lib.hid hcls
  obtain ⟨c0, c1, c2, c3, c4, c5⟩ := hG1.cells
  dsimp only at c1 c3 c5
  go_upto_region 3 with (at_make; refine wpList_make_row _ rfl _ _ 50 rfl 28 i28 (.slice none 0 0) under50 hi28 hq0 hq1 rfl _ _ g.names.length rfl rfl (by rw [hq2]; have := hn8'.out; omega) (by have := hn8'.out; omega) ?_)
  have q0 := Blk.newAt w1 28 (madeCells #[.slice none 0 0] g.names.length) w1.heap.size rfl
  have hS0 := SetsA.new (m := g.toks.length) q0
  have hbA : Below w1.heap.size w1 (w1.alloc (.cells (madeCells #[.slice none 0 0] g.names.length) 28)) := bAlc (Below.refl _ _) _
  have hG2 := hG1.step hbA
  have hSf2 := hSf.step hbA
  have hbfo : bf ≠ w1.heap.size := by have := hSf.lt; omega
  have hgo : w.heap.size < w1.heap.size := hG1.lt
  clear q0 hG1 hSf c0 c1 c2 c3 c4 c5 hbA
  generalize w1.alloc (.cells (madeCells #[.slice none 0 0] g.names.length) 28) = W1 at *
  obtain ⟨bo, hbo⟩ : ∃ bo, bo = w1.heap.size := ⟨_, rfl⟩
  rw [← hbo] at hS0 hbfo hgo ⊢
  clear hbo
  obtain ⟨c0, c1, c2, c3, c4, c5⟩ := hG2.cells
  dsimp only at c1 c3 c5
  obtain ⟨X0, xc0, hcx0, hfx0, _⟩ := hS0.get i0 hi0i
  have hbL : Below W1.heap.size W1 (W1.alloc (.cells #[.int .i64 0, .int .i64 0, .int .i64 0, .int .i64 0, .int .i64 0] 41)) := bAlc (Below.refl _ _) _
  have hSL := hS0.step hbL
  have hcxL := cell_later hbL hcx0
  have hfxL : (W1.alloc (.cells #[.int .i64 0, .int .i64 0, .int .i64 0, .int .i64 0, .int .i64 0] 41)).frozen? ⟨bo, i0, none⟩ = false := by obtain ⟨_, _, _, h, _⟩ := hSL.get i0 hi0i; exact h
  have hlit : SetAt (W1.alloc (.cells #[.int .i64 0, .int .i64 0, .int .i64 0, .int .i64 0, .int .i64 0] 41)) g.toks.length (some ⟨W1.heap.size, 0, none⟩) [Lk.of []].length 1 [Lk.of []] :=
    ⟨(rdL_one (x := Lk.of []) (Blk.new W1 41 _)).mono (by simp), fun x hx => by simp at hx; subst hx; exact nil_right _ (by have := hm.out; omega), asc_one _, by simp, by simp, by simp [maxLen]⟩
  have hSP := hSL.put i0 hlit
  have hSfL := (hSf2.step hbL).other hSL hbfo i0 (.slice (some ⟨W1.heap.size, 0, none⟩) 1 1)
  have hGL := (hG2.step hbL).far ⟨bo, i0, none⟩ (.slice (some ⟨W1.heap.size, 0, none⟩) 1 1) hgo
  go_upto_region 4 with (fail)
  clear c0 c1 c2 c3 c4 c5 hcx0 hfx0 hcxL hfxL hlit hSL hS0 hG2 hSf2 hbL
  simp only [List.length_cons, List.length_nil, Nat.zero_add] at hSP
  generalize (W1.alloc (.cells #[.int .i64 0, .int .i64 0, .int .i64 0, .int .i64 0, .int .i64 0] 41)).setCell ⟨bo, i0, none⟩ (.slice (some ⟨W1.heap.size, 0, none⟩) 1 1) = W2 at *
  have hlr : (List.replicate g.names.length ([] : List Lk)).length = g.names.length := by simp
  have hfit0 : Hid (SetsFit k ((List.replicate g.names.length ([] : List Lk)).set i0 [Lk.of []])) := Lib.hid (set_fit (by intro s hs x hx; rw [List.eq_of_mem_replicate hs] at hx; cases hx) _ (by intro x hx; simp at hx; subst hx; exact nil_fit k))
  have hsnd0 : Hid (SoundO g.prods k g.start ((List.replicate g.names.length ([] : List Lk)).set i0 [Lk.of []])) := Lib.hid (setO_sound (by
    intro j y hy
    rw [List.getD_eq_getElem?_getD, List.getElem?_replicate] at hy
    split at hy <;> simp at hy) _ (by rw [hlr]; exact hi0i) (by
    intro y hy
    simp at hy
    subst hy
    rw [show (16 : Int) + (i0 : Int) = g.start by have := hi0.out; omega]
    exact .start))
  have hnil0 : Hid (Lk.of [] ∈ ((List.replicate g.names.length ([] : List Lk)).set i0 [Lk.of []]).getD i0 []) := Lib.hid (by rw [getD_set _ _ _ _ (by rw [hlr]; exact hi0i), if_pos rfl]; simp)
  have htot0 : Hid (tot ((List.replicate g.names.length ([] : List Lk)).set i0 [Lk.of []]) ≤ g.names.length * 4681) := Lib.hid (by
    have := tot_le ((List.replicate g.names.length ([] : List Lk)).set i0 [Lk.of []]) (fun s hs => fit_len (asc_nodup (hSP.asc s hs).1) (hfit0.out s hs))
    rwa [hSP.1] at this)
  generalize (List.replicate g.names.length ([] : List Lk)).set i0 [Lk.of []] = fs0 at *
  clear hlr
  go_wp2_with fail
  go_loopg [5] (2 * (g.names.length * 4681 - tot fs0) + 1) (fun gk s5 wr => ∃ (fs : List (List Lk)) (gr : Bool), s5 = .bool gr ∧ Hid (2 * tot fs + gk = 2 * (g.names.length * 4681) + (if gr then 1 else 0)) ∧ Hid (gr = false → ClosedO g.prods k g.start ss fs) ∧ Hid (SetsFit k fs) ∧ Hid (SoundO g.prods k g.start fs) ∧ Hid (Lk.of [] ∈ fs.getD i0 []) ∧ SetsA wr bo g.names.length g.toks.length fs ∧ SetsA wr bf g.names.length g.toks.length ss ∧ GB w g ⟨ta, tc, na, nc, pa, pc⟩ wr)
  case atStart => exact ⟨fs0, true, rfl, Lib.hid (by have := htot0.out; simp; omega), Lib.hid (by simp), hfit0, hsnd0, hnil0, hSP, hSfL, hGL⟩
  case round =>
    clear hSP hSfL hGL htot0 hfit0 hsnd0 hnil0 fs0
    obtain ⟨fs, gr0, rfl, hgk, hcl0, hffit, hfsnd, hnil, hS, hSf, hG⟩ := hrel
    cases gr0 with
    | false =>
      have hclo := Lib.hid (hcl0.out rfl)
      replace hcl0 := Lib.hid hcl0
      go_wp2_with fail
      go_ret
      exact hP.out bo fs ss _ hS hffit.out hfsnd.out hfit.out hsnd.out hcls.out hclo.out hG.2.2
    | true =>
      clear hcl0
      obtain ⟨c0, c1, c2, c3, c4, c5⟩ := hG.cells
      dsimp only at c1 c3 c5
      go_wp2_with fail
      clear c0 c1 c2 c3 c4 c5
      go_loopg [5, 6] g.prods.length (fun gk2 s5 s6 wr => ∃ (j : Nat) (fs' : List (List Lk)) (gr : Bool), s6 = .int .i64 j ∧ s5 = .bool gr ∧ Hid (j + gk2 = g.prods.length) ∧ Hid (SetsFit k fs') ∧ Hid (SoundO g.prods k g.start fs') ∧ Hid (Lk.of [] ∈ fs'.getD i0 []) ∧ SetsA wr bo g.names.length g.toks.length fs' ∧ SetsA wr bf g.names.length g.toks.length ss ∧ GB w g ⟨ta, tc, na, nc, pa, pc⟩ wr ∧
        Hid (if gr then tot fs < tot fs' else fs' = fs ∧ ∀ p ∈ g.prods.take j, UseC k ss fs p p.right.length))
      case atStart => exact ⟨0, fs, false, rfl, rfl, Lib.hid (by omega), hffit, hfsnd, hnil, hS, hSf, hG, Lib.hid (by simp)⟩
      case round =>
        clear hS hG hffit hfsnd hSf hnil
        obtain ⟨j, fs', gr, rfl, rfl, hj, hffit, hfsnd, hnil, hS, hSf, hG, hgr⟩ := hrel
        obtain ⟨c0, c1, c2, c3, c4, c5⟩ := hG.cells
        dsimp only at c1 c3 c5
        by_cases hjn : j < g.prods.length
        · have hxi : g.prods[j]? = some g.prods[j] := List.getElem?_eq_getElem hjn
          obtain ⟨b, off, hA, hbt, x0, RA, rc, x1, hx2, hx3, hx4⟩ := hgw.out.prods.get hxi
          dsimp only at hA
          subst hA
          have hmem := List.getElem_mem hjn
          have htk : g.prods.take (j + 1) = g.prods.take j ++ [g.prods[j]] := List.take_succ_eq_append_getElem hjn
          have hpr := hok'.out.pr _ hmem
          generalize g.prods[j] = p at *
          obtain ⟨jx, hjx⟩ := Int.eq_ofNat_of_zero_le (show 0 ≤ p.left - 16 by omega)
          have hjxn : (p.left - 16).toNat = jx := by omega
          have hjxi : jx < g.names.length := by omega
          have zwj : IntKind.i64.wrap (p.left - 16) = (jx : Int) := by rw [hjx]; exact IntWalk.i64_in _ (by have := hn8'.out; omega)
          have hzjx : (0 : Int) ≤ jx := by omega
          have hzjy : (jx : Int) < g.names.length := by omega
          have hzj : (0 : Int) ≤ j := by omega
          have hzk : (j : Int) < g.prods.length := by omega
          have hzl : g.prods.length ≤ 24 := hp24.out
          have hpl6 : p.right.length ≤ 6 := hpr.2.1
          replace hxi := Lib.hid hxi
          replace htk := Lib.hid htk
          replace hmem := Lib.hid hmem
          replace hpr := Lib.hid hpr
          replace hjxn := Lib.hid hjxn
          replace hjx := Lib.hid hjx
          have y0 := (hG.2.2.cell (p := ⟨b, off + j * 2, none⟩) hbt).trans x0
          have y1 := (hG.2.2.cell (p := ⟨b, off + j * 2 + 1, none⟩) hbt).trans x1
          clear x0 x1
          go_upto_region 11 with (fail)
          have hbA : Below wr.heap.size wr (wr.alloc (.cells #[.int .i64 p.left, .slice RA p.right.length rc] 47)) := bAlc (Below.refl _ _) _
          have q7 := Blk.new wr 47 #[.int .i64 p.left, .slice RA p.right.length rc]
          have hS1 := hS.step hbA
          have hSf1 := hSf.step hbA
          have hG1 := hG.step hbA
          have hgp : bo ≠ wr.heap.size := by have := hS.lt; omega
          clear c0 c1 c2 c3 c4 c5 y0 y1 hS hSf hG hbA
          generalize wr.alloc (.cells #[.int .i64 p.left, .slice RA p.right.length rc] 47) = W3 at *
          generalize wr.heap.size = gp at *
          have p1 := q7.cell 1
          simp only [List.getElem?_toArray, List.getElem?_cons_zero, List.getElem?_cons_succ] at p1
          go_wp2_with fail
          clear p1
          go_loopg [5, 8] p.right.length (fun gk3 s5 s8 wr => ∃ (d : Nat) (fs'' : List (List Lk)) (gr : Bool), s8 = .int .i64 d ∧ s5 = .bool gr ∧ Hid (d + gk3 = p.right.length) ∧ Hid (SetsFit k fs'') ∧ Hid (SoundO g.prods k g.start fs'') ∧ Hid (Lk.of [] ∈ fs''.getD i0 []) ∧ SetsA wr bo g.names.length g.toks.length fs'' ∧ SetsA wr bf g.names.length g.toks.length ss ∧ GB w g ⟨ta, tc, na, nc, some ⟨b, off, none⟩, pc⟩ wr ∧ Blk wr gp 47 #[.int .i64 p.left, .slice RA p.right.length rc] ∧
            Hid (if gr then tot fs < tot fs'' else fs'' = fs ∧ (∀ q ∈ g.prods.take j, UseC k ss fs q q.right.length) ∧ UseC k ss fs p d))
          case atStart => exact ⟨0, fs', gr, rfl, rfl, Lib.hid (by omega), hffit, hfsnd, hnil, hS1, hSf1, hG1, q7, Lib.hid (by
            have := hgr.out
            cases gr
            · simp only [Bool.false_eq_true, if_false] at this ⊢
              exact ⟨this.1, this.2, fun d s h => by omega⟩
            · simpa using this)⟩
          case round =>
            clear hS1 hSf1 hG1 q7 hffit hfsnd hnil hgr
            obtain ⟨d, fs', gr, rfl, rfl, hd, hffit, hfsnd, hnil, hS, hSf, hG, q7, hgr⟩ := hrel
            obtain ⟨c0, c1, c2, c3, c4, c5⟩ := hG.cells
            dsimp only at c1 c3 c5
            have p0 := q7.cell 0
            have p1 := q7.cell 1
            simp only [List.getElem?_toArray, List.getElem?_cons_zero, List.getElem?_cons_succ] at p0 p1
            by_cases hdn : d < p.right.length
            · have hsi : p.right[d]? = some p.right[d] := List.getElem?_eq_getElem hdn
              obtain ⟨rb, roff, hRA, hbt2, z0⟩ := hx2.get (show (ints p.right)[d]? = some (.int .i64 p.right[d]) by rw [ints, List.getElem?_map, hsi]; rfl)
              have hsm := hpr.out.2.2 _ (List.getElem_mem hdn)
              generalize p.right[d] = s at *
              have z1 := (hG.2.2.cell (p := ⟨rb, roff + d, none⟩) hbt2).trans z0
              clear z0
              have hzd : (0 : Int) ≤ d := by omega
              have hzd2 : (d : Int) < p.right.length := by omega
              have hx2k := hx2
              rw [hRA] at p1
              replace hRA := Lib.hid hRA
              replace hsi := Lib.hid hsi
              by_cases h16 : s < 16
              · go_wp2_with fail
                go_roundg (p.right.length - (d + 1))
                case measure => have := hd.out; omega
                case rel => exact ⟨d + 1, fs', gr, by go_num, rfl, Lib.hid (by have := hd.out; omega), hffit, hfsnd, hnil, hS, hSf, hG, q7, Lib.hid (by
                  have := hgr.out
                  cases gr
                  · simp only [Bool.false_eq_true, if_false] at this ⊢
                    refine ⟨this.1, this.2.1, fun d' s' h1 h2 h3 => ?_⟩
                    by_cases e : d' = d
                    · subst e; rw [hsi.out] at h2; injection h2 with h2; omega
                    · exact this.2.2 d' s' (by omega) h2 h3
                  · simpa using this)⟩
              · have hsb : 16 ≤ s ∧ s < 16 + (g.names.length : Int) := by have := hm.out; omega
                obtain ⟨ix, hix⟩ := Int.eq_ofNat_of_zero_le (show 0 ≤ s - 16 by omega)
                have hixn : (s - 16).toNat = ix := by omega
                have hixi : ix < g.names.length := by omega
                have zwi : IntKind.i64.wrap (s - 16) = (ix : Int) := by rw [hix]; exact IntWalk.i64_in _ (by have := hn8'.out; omega)
                have hzix : (0 : Int) ≤ ix := by omega
                have hziy : (ix : Int) < g.names.length := by omega
                have hlen' := hS.1
                obtain ⟨uf1, uf2, uf3, uf4, uf5⟩ := use_facts hok'.out hfit.out hffit.out hsnd.out hfsnd.out hmem.out hsi.out hsb.1
                have hfoS := follow_sound hfsnd.out hsb.1 (show (s - 16).toNat < fs'.length by omega) uf5
                rw [hixn] at hfoS
                obtain ⟨hA0, hR0⟩ := hS.asc (fs'.getD ix []) (by rw [List.getD_eq_getElem?_getD, List.getElem?_eq_getElem (by omega)]; exact List.getElem_mem (by omega))
                have hR := round_merge (ps := g.prods) (k := k) (m := g.toks.length) (P := SoundO g.prods k g.start) (by have := hm.out; omega) (by have := hm.out; omega) (show ix < fs'.length by omega) hffit.out hA0 hR0 uf1 uf2 uf3 hfoS
                have hUe : useR k ss fs' p d = sumR k (tailL k ss (p.right.drop (d + 1))) (fs'.getD jx []) := by unfold useR; rw [hjxn.out]
                have hdr : ∀ z ∈ p.right.drop (d + 1), (0 ≤ z ∧ z < g.toks.length) ∨ (16 ≤ z ∧ z < 16 + (g.names.length : Int)) := fun z hz => hpr.out.2.2 z (List.mem_of_mem_drop hz)
                have hTf := tail_fit hk.out hk4.out hfit.out (p.right.drop (d + 1)) (fun z hz => hok'.out.sym hmem.out z (List.mem_of_mem_drop hz))
                obtain ⟨Xi, xci, hcxi, _, hXi⟩ := hS.get ix hixi
                obtain ⟨Xj, xcj, hcxj, _, hXj⟩ := hS.get jx hjxi
                have hDf := setsFit_get hffit.out jx
                have hOf : Hid (∀ SA sn sc W', sn = (p.right.drop (d + 1)).length → Rd1 W' W'.heap.size SA sn (ints (p.right.drop (d + 1))) → Below wr.heap.size wr W' → Calls Tryz.prog 41 #[.agg #[.int .i64 g.k, .slice ta g.toks.length tc, .string g.sep, .slice na g.names.length nc, .int .i64 g.start, .slice (some ⟨b, off, none⟩) g.prods.length pc], .slice (some ⟨bf, 0, none⟩) g.names.length g.names.length, .slice SA sn sc] W' (RetSt g.toks.length (tailL k ss (p.right.drop (d + 1))) W')) :=
                  Lib.hid fun SA sn sc W' hsn hr hb => by
                    subst hsn
                    exact hOfA.out (p.right.drop (d + 1)) hdr bf ss SA sc W' (((hG.step hb).2.1).mono (by have := hG.lt; have := hb.size; omega)) (hSf.step hb) hfit.out hr (by rw [List.length_drop]; omega)
                have hSm : Hid (∀ A1 k1 W', Below wr.heap.size wr W' → SetAt W' g.toks.length A1 (tailL k ss (p.right.drop (d + 1))).length k1 (tailL k ss (p.right.drop (d + 1))) →
                    Calls Tryz.prog 40 #[.int .i64 g.toks.length, .int .i64 g.k, .slice A1 (tailL k ss (p.right.drop (d + 1))).length k1, .slice Xj (fs'.getD jx []).length xcj] W' (RetL0 W' (useR k ss fs' p d))) :=
                  Lib.hid fun A1 k1 W' hb h1 => by
                    rw [hkk.out, hUe]
                    exact sum_ok g.toks.length k A1 Xj _ _ k1 xcj _ _ W' (by have := hm.out; omega) (by have := hm.out; omega) hk.out hk4.out h1 (hXj.step hb) hTf hDf
                have hOwn : Hid (∀ (W' : World) (base : Nat) (v : Value), OwnL W' base v (useR k ss fs' p d) → ∃ A c, v = .slice A (useR k ss fs' p d).length c ∧ SetAt W' g.toks.length A (useR k ss fs' p d).length c (useR k ss fs' p d)) :=
                  Lib.hid fun W' base v h => SetAt.of_own h uf3 (by have := hm.out; omega) uf2
                have hUn : Hid (∀ A3 c3 gq W', Below wr.heap.size wr W' → SetAt W' g.toks.length A3 (useR k ss fs' p d).length c3 (useR k ss fs' p d) → Blk W' gq 28 #[.slice Xi (fs'.getD ix []).length xci, .slice A3 (useR k ss fs' p d).length c3] →
                    Calls Tryz.prog 85 #[.int .i64 g.toks.length, .slice (some ⟨gq, 0, none⟩) 2 2] W' (RetL0 W' (lmerge (fs'.getD ix []) (useR k ss fs' p d)))) :=
                  Lib.hid fun A3 c3 gq W' hb h1 q => union_ok g.toks.length gq Xi A3 _ _ xci c3 _ _ W' (by have := hm.out; omega) (by have := hm.out; omega) (hXi.step hb) h1 q
                have hOwn2 : Hid (∀ (W' : World) (base : Nat) (v : Value), OwnL W' base v (lmerge (fs'.getD ix []) (useR k ss fs' p d)) → ∃ A c, v = .slice A (lmerge (fs'.getD ix []) (useR k ss fs' p d)).length c ∧ SetAt W' g.toks.length A (lmerge (fs'.getD ix []) (useR k ss fs' p d)).length c (lmerge (fs'.getD ix []) (useR k ss fs' p d))) :=
                  Lib.hid fun W' base v h => SetAt.of_own h hR.right (by have := hm.out; omega) hR.asc
                have hR1 := Lib.hid hR.fit
                have hR2 := Lib.hid hR.sound
                have hR3 := Lib.hid hR.grow
                have hR4 := Lib.hid hR.same
                have hR5 := Lib.hid hR.tot
                have hRn : Hid (Lk.of [] ∈ (fs'.set ix (lmerge (fs'.getD ix []) (useR k ss fs' p d))).getD i0 []) := Lib.hid (nil_kept hnil.out (by omega) fun x hx => (hR.mem x).2 (.inl hx))
                replace uf4 := Lib.hid uf4
                clear hR uf1 uf2 uf3 uf5 hfoS hA0 hR0 hTf hDf hdr hUe
                generalize lmerge (fs'.getD ix []) (useR k ss fs' p d) = J at *
                have hEndT : Hid ((fs'.getD ix []).length < J.length → tot fs < tot (fs'.set ix J)) := Lib.hid fun h => by
                  have h5 := hR5.out
                  have h6 : tot fs ≤ tot fs' := by
                    have := hgr.out
                    cases gr
                    · simp only [Bool.false_eq_true, if_false] at this; rw [this.1]; exact Nat.le_refl _
                    · simp only [if_true] at this; omega
                  omega
                have hEndF : Hid (¬ (fs'.getD ix []).length < J.length → fs'.set ix J = fs' ∧ (if gr then tot fs < tot fs' else fs' = fs ∧ (∀ q ∈ g.prods.take j, UseC k ss fs q q.right.length) ∧ UseC k ss fs p (d + 1))) := Lib.hid fun h => by
                  obtain ⟨h1, h2⟩ := hR4.out (by have := hR3.out; omega)
                  refine ⟨h1, ?_⟩
                  have := hgr.out
                  cases gr
                  · simp only [Bool.false_eq_true, if_false] at this ⊢
                    obtain ⟨rfl, h4, h5⟩ := this
                    refine ⟨rfl, h4, fun d' s' e1 e2 e3 z hz => ?_⟩
                    by_cases e : d' = d
                    · subst e
                      rw [hsi.out] at e2
                      injection e2 with e2
                      subst e2
                      rw [hixn]
                      exact h2 z ((uf4.out z).2 hz)
                    · exact h5 d' s' (by omega) e2 e3 z hz
                  · simpa using this
                generalize useR k ss fs' p d = U at *
                generalize fs'.getD ix [] = D at *
                generalize fs'.getD jx [] = Dj at *
                replace hixn := Lib.hid hixn
                replace hix := Lib.hid hix
                go_upto_region 16 with (fail)
                obtain ⟨e1, he1⟩ : ∃ e1 : Nat, e1 = d + 1 := ⟨_, rfl⟩
                have zwe : IntKind.i64.wrap ((d : Int) + 1) = (e1 : Int) := by rw [he1]; exact IntWalk.i64_in _ (by omega)
                have hez1 : (0 : Int) ≤ e1 := by omega
                have hez2 : (e1 : Int) ≤ p.right.length := by omega
                have hez3 : (e1 : Int) ≤ rc := by omega
                have hx2d : Rd1 wr w.heap.size (if rc = e1 then RA else RA.map (·.add e1)) (p.right.length - e1) (ints (p.right.drop (d + 1))) := by
                  have := (hx2k.drop e1 rc (by omega) hx3).below hG.2.2
                  rwa [show (ints p.right).drop e1 = ints (p.right.drop (d + 1)) by rw [he1]; simp [ints]] at this
                have hsn : Hid (p.right.length - e1 = (p.right.drop (d + 1)).length) := Lib.hid (by rw [List.length_drop, he1])
                have hszw := hG.lt
                unfold maxLen at hx4
                have hAll : Hid (∀ w', Below wr.heap.size wr w' → w'.cell? ⟨w.heap.size, 0, none⟩ = some (.int .i64 g.k) ∧ w'.cell? ⟨w.heap.size, 1, none⟩ = some (.slice ta g.toks.length tc) ∧ w'.cell? ⟨w.heap.size, 2, none⟩ = some (.string g.sep) ∧ w'.cell? ⟨w.heap.size, 3, none⟩ = some (.slice na g.names.length nc) ∧ w'.cell? ⟨w.heap.size, 4, none⟩ = some (.int .i64 g.start) ∧ w'.cell? ⟨w.heap.size, 5, none⟩ = some (.slice (some ⟨b, off, none⟩) g.prods.length pc) ∧
                    w'.cell? ⟨gp, 0, none⟩ = some (.int .i64 p.left) ∧ w'.cell? ⟨gp, 1, none⟩ = some (.slice (some ⟨rb, roff, none⟩) p.right.length rc) ∧ w'.cell? ⟨bo, jx, none⟩ = some (.slice Xj Dj.length xcj) ∧ Below wr.heap.size wr w') :=
                  Lib.hid fun w' h => ⟨cell_later h c0, cell_later h c1, cell_later h c2, cell_later h c3, cell_later h c4, cell_later h c5, cell_later h p0, cell_later h p1, cell_later h hcxj, h⟩
                go_cut [10] (fun s10 wx => ∃ A2 c2, s10 = .slice A2 U.length c2 ∧ SetAt wx g.toks.length A2 U.length c2 U ∧ Below wr.heap.size wr wx)
                case first =>
                  clear hUn hOwn2 hR1 hR2 hR3 hR4 hR5 hRn hEndT hEndF uf4 hgr hffit hfsnd hnil hS hSf q7 hgk hj hd hcls hsnd hfit hP hOfA c0 c1 c2 c3 c4 c5 p0 p1 hcxi hcxj z1
                  by_cases hel : e1 < p.right.length
                  · have hcap : ¬ rc = e1 := by omega
                    have hadd : (some (⟨rb, roff, none⟩ : Addr)).map (·.add e1) = some ⟨rb, roff + e1, none⟩ := by
                      have h0 : ¬ e1 = 0 := by omega
                      simp [Addr.add, h0]
                    rw [if_neg hcap, hRA.out, hadd] at hx2d
                    clear hadd
                    have hT : Hid (∀ W', Below wr.heap.size wr W' → Calls Tryz.prog 41 #[.agg #[.int .i64 g.k, .slice ta g.toks.length tc, .string g.sep, .slice na g.names.length nc, .int .i64 g.start, .slice (some ⟨b, off, none⟩) g.prods.length pc], .slice (some ⟨bf, 0, none⟩) g.names.length g.names.length, .slice (some ⟨rb, roff + e1, none⟩) (p.right.length - e1) (rc - e1)] W' (RetSt g.toks.length (tailL k ss (p.right.drop (d + 1))) W')) :=
                      Lib.hid fun W' hb => hOf.out _ _ _ W' hsn.out (((hx2d.mono (by omega)).below hb).mono hb.size) hb
                    clear hOf hx2d
                    replace he1 := Lib.hid he1
                    generalize tailL k ss (p.right.drop (d + 1)) = T at *
                    refine wp_region_held_drew (S := (fun w' => w'.cell? ⟨w.heap.size, 0, none⟩ = some (.int .i64 g.k) ∧ w'.cell? ⟨w.heap.size, 1, none⟩ = some (.slice ta g.toks.length tc) ∧ w'.cell? ⟨w.heap.size, 2, none⟩ = some (.string g.sep) ∧ w'.cell? ⟨w.heap.size, 3, none⟩ = some (.slice na g.names.length nc) ∧ w'.cell? ⟨w.heap.size, 4, none⟩ = some (.int .i64 g.start) ∧ w'.cell? ⟨w.heap.size, 5, none⟩ = some (.slice (some ⟨b, off, none⟩) g.prods.length pc) ∧
                      w'.cell? ⟨gp, 0, none⟩ = some (.int .i64 p.left) ∧ w'.cell? ⟨gp, 1, none⟩ = some (.slice (some ⟨rb, roff, none⟩) p.right.length rc) ∧ w'.cell? ⟨bo, jx, none⟩ = some (.slice Xj Dj.length xcj) ∧ Below wr.heap.size wr w')) (by kernel_rfl) (hAll.out _ (bDrw (Below.refl _ _))) (fun hHeld => ?_)
                    refine wpAnyH_take (i := 0) (oi := ⟨some 60, _, _, _, _, _⟩) (v := ?vga1) rfl (by kernel_rfl) (by kernel_rfl) (by kernel_rfl) (fun _ _ _ h => h) (Or.inl ⟨by rfl, ?hyga1⟩) (by assumption) ?restga1
                    case hyga1 => (intro w hSw; (try dsimp only at hSw); go_simp <;> with_reducible rfl)
                    try simp only [Act.put, List.setIfInBounds_toArray, List.set_cons_zero, List.set_cons_succ]
                    refine wpAnyH_take (i := 1) (oi := ⟨some 61, _, _, _, _, _⟩) (v := ?vga2) rfl (by kernel_rfl) (by kernel_rfl) (by kernel_rfl) (fun _ _ _ h => h) (Or.inl ⟨by rfl, ?hyga2⟩) (by assumption) ?restga2
                    case hyga2 => (intro w hSw; (try dsimp only at hSw); go_simp <;> with_reducible rfl)
                    try simp only [Act.put, List.setIfInBounds_toArray, List.set_cons_zero, List.set_cons_succ]
                    refine wpAnyH_take (i := 2) (oi := ⟨some 62, _, _, _, _, _⟩) (v := ?vga3) rfl (by kernel_rfl) (by kernel_rfl) (by kernel_rfl) (fun _ _ _ h => h) (Or.inl ⟨by rfl, ?hyga3⟩) (by assumption) ?restga3
                    case hyga3 => (intro w hSw; (try dsimp only at hSw); go_simp <;> with_reducible rfl)
                    try simp only [Act.put, List.setIfInBounds_toArray, List.set_cons_zero, List.set_cons_succ]
                    refine wpAnyH_take (i := 3) (oi := ⟨some 63, _, _, _, _, _⟩) (v := ?vga4) rfl (by kernel_rfl) (by kernel_rfl) (by kernel_rfl) (fun _ _ _ h => h) (Or.inl ⟨by rfl, ?hyga4⟩) (by assumption) ?restga4
                    case hyga4 => (intro w hSw; (try dsimp only at hSw); go_simp <;> with_reducible rfl)
                    try simp only [Act.put, List.setIfInBounds_toArray, List.set_cons_zero, List.set_cons_succ]
                    refine wpAnyH_take (i := 4) (oi := ⟨some 64, _, _, _, _, _⟩) (v := ?vga5) rfl (by kernel_rfl) (by kernel_rfl) (by kernel_rfl) (fun _ _ _ h => h) (Or.inl ⟨by rfl, ?hyga5⟩) (by assumption) ?restga5
                    case hyga5 => (intro w hSw; (try dsimp only at hSw); go_simp <;> with_reducible rfl)
                    try simp only [Act.put, List.setIfInBounds_toArray, List.set_cons_zero, List.set_cons_succ]
                    refine wpAnyH_take (i := 5) (oi := ⟨some 65, _, _, _, _, _⟩) (v := ?vga6) rfl (by kernel_rfl) (by kernel_rfl) (by kernel_rfl) (fun _ _ _ h => h) (Or.inl ⟨by rfl, ?hyga6⟩) (by assumption) ?restga6
                    case hyga6 => (intro w hSw; (try dsimp only at hSw); go_simp <;> with_reducible rfl)
                    try simp only [Act.put, List.setIfInBounds_toArray, List.set_cons_zero, List.set_cons_succ]
                    refine wpAnyH_take (i := 6) (oi := ⟨some 66, _, _, _, _, _⟩) (v := ?vga7) rfl (by kernel_rfl) (by kernel_rfl) (by kernel_rfl) (fun _ _ _ h => h) (Or.inl ⟨by rfl, ?hyga7⟩) (by assumption) ?restga7
                    case hyga7 => (intro w hSw; (try dsimp only at hSw); go_simp <;> with_reducible rfl)
                    try simp only [Act.put, List.setIfInBounds_toArray, List.set_cons_zero, List.set_cons_succ]
                    refine wpAnyH_take (i := 7) (oi := ⟨some 67, _, _, _, _, _⟩) (v := ?vga8) rfl (by kernel_rfl) (by kernel_rfl) (by kernel_rfl) (fun _ _ _ h => h) (Or.inl ⟨by rfl, ?hyga8⟩) (by assumption) ?restga8
                    case hyga8 => (intro w hSw; (try dsimp only at hSw); go_simp <;> with_reducible rfl)
                    try simp only [Act.put, List.setIfInBounds_toArray, List.set_cons_zero, List.set_cons_succ]
                    refine wpAnyH_take (i := 8) (oi := ⟨some 68, _, _, _, _, _⟩) (v := ?vga9) rfl (by kernel_rfl) (by kernel_rfl) (by kernel_rfl) (fun _ _ _ h => h) (Or.inl ⟨by rfl, ?hyga9⟩) (by assumption) ?restga9
                    case hyga9 => (intro w hSw; (try dsimp only at hSw); go_simp <;> with_reducible rfl)
                    try simp only [Act.put, List.setIfInBounds_toArray, List.set_cons_zero, List.set_cons_succ]
                    refine wpAnyH_take (i := 9) (oi := ⟨some 69, _, _, _, _, _⟩) (v := ?vga10) rfl (by kernel_rfl) (by kernel_rfl) (by kernel_rfl) (fun _ _ _ h => h) (Or.inl ⟨by rfl, ?hyga10⟩) (by assumption) ?restga10
                    case hyga10 => (intro w hSw; (try dsimp only at hSw); go_simp <;> with_reducible rfl)
                    try simp only [Act.put, List.setIfInBounds_toArray, List.set_cons_zero, List.set_cons_succ]
                    refine wpAnyH_take (i := 10) (oi := ⟨some 70, _, _, _, _, _⟩) (v := ?vga11) rfl (by kernel_rfl) (by kernel_rfl) (by kernel_rfl) (fun _ _ _ h => h) (Or.inl ⟨by rfl, ?hyga11⟩) (by assumption) ?restga11
                    case hyga11 => (intro w hSw; (try dsimp only at hSw); go_simp <;> with_reducible rfl)
                    try simp only [Act.put, List.setIfInBounds_toArray, List.set_cons_zero, List.set_cons_succ]
                    refine wpAnyH_take (i := 11) (oi := ⟨some 71, _, _, _, _, _⟩) (v := ?vga12) rfl (by kernel_rfl) (by kernel_rfl) (by kernel_rfl) (fun _ _ _ h => h) (Or.inl ⟨by rfl, ?hyga12⟩) (by assumption) ?restga12
                    case hyga12 => (intro w hSw; (try dsimp only at hSw); go_simp <;> with_reducible rfl)
                    try simp only [Act.put, List.setIfInBounds_toArray, List.set_cons_zero, List.set_cons_succ]
                    refine wpAnyH_take (i := 13) (oi := ⟨some 73, _, _, _, _, _⟩) (v := ?vga13) rfl (by kernel_rfl) (by kernel_rfl) (by kernel_rfl) (fun _ _ _ h => h) (Or.inl ⟨by rfl, ?hyga13⟩) (by assumption) ?restga13
                    case hyga13 => (intro w hSw; (try dsimp only at hSw); go_simp <;> with_reducible rfl)
                    try simp only [Act.put, List.setIfInBounds_toArray, List.set_cons_zero, List.set_cons_succ]
                    refine wpAnyH_take (i := 14) (oi := ⟨some 74, _, _, _, _, _⟩) (v := ?vga14) rfl (by kernel_rfl) (by kernel_rfl) (by kernel_rfl) (fun _ _ _ h => h) (Or.inl ⟨by rfl, ?hyga14⟩) (by assumption) ?restga14
                    case hyga14 => (intro w hSw; (try dsimp only at hSw); go_simp <;> with_reducible rfl)
                    try simp only [Act.put, List.setIfInBounds_toArray, List.set_cons_zero, List.set_cons_succ]
                    refine wpAnyH_take (i := 15) (oi := ⟨some 75, _, _, _, _, _⟩) (v := ?vga15) rfl (by kernel_rfl) (by kernel_rfl) (by kernel_rfl) (fun _ _ _ h => h) (Or.inl ⟨by rfl, ?hyga15⟩) (by assumption) ?restga15
                    case hyga15 => (intro w hSw; (try dsimp only at hSw); go_simp <;> with_reducible rfl)
                    try simp only [Act.put, List.setIfInBounds_toArray, List.set_cons_zero, List.set_cons_succ]
                    refine wpAnyH_take (i := 16) (oi := ⟨some 76, _, _, _, _, _⟩) (v := ?vga16) rfl (by kernel_rfl) (by kernel_rfl) (by kernel_rfl) (fun _ _ _ h => h) (Or.inl ⟨by rfl, ?hyga16⟩) (by assumption) ?restga16
                    case hyga16 => (intro w hSw; (try dsimp only at hSw); go_simp <;> with_reducible rfl)
                    try simp only [Act.put, List.setIfInBounds_toArray, List.set_cons_zero, List.set_cons_succ]
                    refine wpAnyH_take (i := 17) (oi := ⟨some 77, _, _, _, _, _⟩) (v := ?vga17) rfl (by kernel_rfl) (by kernel_rfl) (by kernel_rfl) (fun _ _ _ h => h) (Or.inl ⟨by rfl, ?hyga17⟩) (by assumption) ?restga17
                    case hyga17 => (intro w hSw; (try dsimp only at hSw); go_simp <;> with_reducible rfl)
                    try simp only [Act.put, List.setIfInBounds_toArray, List.set_cons_zero, List.set_cons_succ]
                    refine wpAnyH_take (i := 18) (oi := ⟨some 78, _, _, _, _, _⟩) (v := ?vga18) rfl (by kernel_rfl) (by kernel_rfl) (by kernel_rfl) (fun _ _ _ h => h) (Or.inl ⟨by rfl, ?hyga18⟩) (by assumption) ?restga18
                    case hyga18 => (intro w hSw; (try dsimp only at hSw); go_simp <;> with_reducible rfl)
                    try simp only [Act.put, List.setIfInBounds_toArray, List.set_cons_zero, List.set_cons_succ]
                    refine wpAnyH_ready (rs := [12]) (by kernel_rfl) (by simp) ?_
                    refine AllReadyH.cons (o := ⟨some 72, _, _, _, _, _⟩) rfl (fun K hK => ?_) ?_
                    · go_simp
                      go_at_call 41
                      refine (hT.out _ (by repeat (first | assumption | exact Below.refl _ _ | (refine bStep ?_ (by assumption)) | (with_reducible refine bAlc ?_ _) | (with_reducible refine bDrw ?_)))).mono ?_
                      rintro e w1 ⟨A1, k1, rfl, hs1, hb1⟩
                      go_wp2_with fail
                      refine hK.out _ _ ?_ (fun hHeld => ?_)
                      · (exact hAll.out _ (by repeat (first | assumption | exact Below.refl _ _ | (refine bStep ?_ (by assumption)) | (with_reducible refine bAlc ?_ _) | (with_reducible refine bDrw ?_))))
                      clear hK K
                      try simp only [Act.put, List.setIfInBounds_toArray, List.set_cons_zero, List.set_cons_succ]
                      refine wpAnyH_ready (rs := [19]) (by kernel_rfl) (by simp) ?_
                      refine AllReadyH.cons (o := ⟨some 79, _, _, _, _, _⟩) rfl (fun K hK => ?_) ?_
                      · go_simp
                        go_at_call 40
                        refine (hSm.out A1 k1 _ (by repeat (first | assumption | exact Below.refl _ _ | (refine bStep ?_ (by assumption)) | (with_reducible refine bAlc ?_ _) | (with_reducible refine bDrw ?_))) (hs1.step (by repeat (first | assumption | exact Below.refl _ _ | (refine bStep ?_ (by assumption)) | (with_reducible refine bAlc ?_ _) | (with_reducible refine bDrw ?_))))).mono ?_
                        rintro e w2 ⟨v2, rfl, ho2, hb2⟩
                        obtain ⟨A2, k2, rfl, hs2⟩ := hOwn.out _ _ _ ho2
                        go_wp2_with fail
                        refine hK.out _ _ ?_ (fun hHeld => ?_)
                        · (exact hAll.out _ (by repeat (first | assumption | exact Below.refl _ _ | (refine bStep ?_ (by assumption)) | (with_reducible refine bAlc ?_ _) | (with_reducible refine bDrw ?_))))
                        clear hK K
                        try simp only [Act.put, List.setIfInBounds_toArray, List.set_cons_zero, List.set_cons_succ]
                        refine wpAnyH_take (i := 20) (oi := ⟨some 59, _, _, _, _, _⟩) (v := ?vga19) rfl (by kernel_rfl) (by kernel_rfl) (by kernel_rfl) (fun _ _ _ h => h) (Or.inl ⟨by rfl, ?hyga19⟩) (by assumption) ?restga19
                        case hyga19 => (intro w hSw; (try dsimp only at hSw); go_simp <;> with_reducible rfl)
                        try simp only [Act.put, List.setIfInBounds_toArray, List.set_cons_zero, List.set_cons_succ]
                        refine wpAnyH_take (i := 21) (oi := ⟨some 80, _, _, _, _, _⟩) (v := ?vga20) rfl (by kernel_rfl) (by kernel_rfl) (by kernel_rfl) (fun _ _ _ h => h) (Or.inl ⟨by rfl, ?hyga20⟩) (by assumption) ?restga20
                        case hyga20 => (intro w hSw; (try dsimp only at hSw); go_simp <;> with_reducible rfl)
                        try simp only [Act.put, List.setIfInBounds_toArray, List.set_cons_zero, List.set_cons_succ]
                        refine wpAnyH_take (i := 22) (oi := ⟨some 81, _, _, _, _, _⟩) (v := ?vga21) rfl (by kernel_rfl) (by kernel_rfl) (by kernel_rfl) (fun _ _ _ h => h) (Or.inl ⟨by rfl, ?hyga21⟩) (by assumption) ?restga21
                        case hyga21 => (intro w hSw; (try dsimp only at hSw); go_simp <;> with_reducible rfl)
                        try simp only [Act.put, List.setIfInBounds_toArray, List.set_cons_zero, List.set_cons_succ]
                        refine wpAnyH_take (i := 23) (oi := ⟨some 10, _, _, _, _, _⟩) (v := ?vga22) rfl (by kernel_rfl) (by kernel_rfl) (by kernel_rfl) (fun _ _ _ h => h) (Or.inl ⟨by rfl, ?hyga22⟩) (by assumption) ?restga22
                        case hyga22 => (intro w hSw; (try dsimp only at hSw); go_simp <;> with_reducible rfl)
                        try simp only [Act.put, List.setIfInBounds_toArray, List.set_cons_zero, List.set_cons_succ]
                        refine wpAnyH_take (i := 24) (oi := ⟨some 11, _, _, _, _, _⟩) (v := ?vga23) rfl (by kernel_rfl) (by kernel_rfl) (by kernel_rfl) (fun _ _ _ h => h) (Or.inl ⟨by rfl, ?hyga23⟩) (by assumption) ?restga23
                        case hyga23 => (intro w hSw; (try dsimp only at hSw); go_simp <;> with_reducible rfl)
                        try simp only [Act.put, List.setIfInBounds_toArray, List.set_cons_zero, List.set_cons_succ]
                        refine wpAnyH_done (by kernel_rfl) ?_ _
                        go_wp2_with fail
                        go_meet
                        exact ⟨A2, k2, rfl, hs2, (by repeat (first | assumption | exact Below.refl _ _ | (refine bStep ?_ (by assumption)) | (with_reducible refine bAlc ?_ _) | (with_reducible refine bDrw ?_)))⟩
                      exact AllReadyH.nil
                    exact AllReadyH.nil
                  · have hee : e1 = p.right.length := by omega
                    have hT : Hid (∀ W' SA sn sc, sn = 0 → Below wr.heap.size wr W' → Calls Tryz.prog 41 #[.agg #[.int .i64 g.k, .slice ta g.toks.length tc, .string g.sep, .slice na g.names.length nc, .int .i64 g.start, .slice (some ⟨b, off, none⟩) g.prods.length pc], .slice (some ⟨bf, 0, none⟩) g.names.length g.names.length, .slice SA sn sc] W' (RetSt g.toks.length (tailL k ss (p.right.drop (d + 1))) W')) :=
                      Lib.hid fun W' SA sn sc h0 hb => hOf.out SA sn sc W' (by rw [← hsn.out]; omega) (by
                        rw [h0, ← he1, hee, List.drop_length]; exact ⟨rfl, .inl rfl⟩) hb
                    clear hOf hx2d
                    replace he1 := Lib.hid he1
                    generalize tailL k ss (p.right.drop (d + 1)) = T at *
                    subst hee
                    by_cases hcap : rc = p.right.length
                    · subst hcap
                      refine wp_region_held_drew (S := (fun w' => w'.cell? ⟨w.heap.size, 0, none⟩ = some (.int .i64 g.k) ∧ w'.cell? ⟨w.heap.size, 1, none⟩ = some (.slice ta g.toks.length tc) ∧ w'.cell? ⟨w.heap.size, 2, none⟩ = some (.string g.sep) ∧ w'.cell? ⟨w.heap.size, 3, none⟩ = some (.slice na g.names.length nc) ∧ w'.cell? ⟨w.heap.size, 4, none⟩ = some (.int .i64 g.start) ∧ w'.cell? ⟨w.heap.size, 5, none⟩ = some (.slice (some ⟨b, off, none⟩) g.prods.length pc) ∧
                        w'.cell? ⟨gp, 0, none⟩ = some (.int .i64 p.left) ∧ w'.cell? ⟨gp, 1, none⟩ = some (.slice (some ⟨rb, roff, none⟩) p.right.length p.right.length) ∧ w'.cell? ⟨bo, jx, none⟩ = some (.slice Xj Dj.length xcj) ∧ Below wr.heap.size wr w')) (by kernel_rfl) (hAll.out _ (bDrw (Below.refl _ _))) (fun hHeld => ?_)
                      refine wpAnyH_take (i := 0) (oi := ⟨some 60, _, _, _, _, _⟩) (v := ?vgb1) rfl (by kernel_rfl) (by kernel_rfl) (by kernel_rfl) (fun _ _ _ h => h) (Or.inl ⟨by rfl, ?hygb1⟩) (by assumption) ?restgb1
                      case hygb1 => (intro w hSw; (try dsimp only at hSw); go_simp <;> with_reducible rfl)
                      try simp only [Act.put, List.setIfInBounds_toArray, List.set_cons_zero, List.set_cons_succ]
                      refine wpAnyH_take (i := 1) (oi := ⟨some 61, _, _, _, _, _⟩) (v := ?vgb2) rfl (by kernel_rfl) (by kernel_rfl) (by kernel_rfl) (fun _ _ _ h => h) (Or.inl ⟨by rfl, ?hygb2⟩) (by assumption) ?restgb2
                      case hygb2 => (intro w hSw; (try dsimp only at hSw); go_simp <;> with_reducible rfl)
                      try simp only [Act.put, List.setIfInBounds_toArray, List.set_cons_zero, List.set_cons_succ]
                      refine wpAnyH_take (i := 2) (oi := ⟨some 62, _, _, _, _, _⟩) (v := ?vgb3) rfl (by kernel_rfl) (by kernel_rfl) (by kernel_rfl) (fun _ _ _ h => h) (Or.inl ⟨by rfl, ?hygb3⟩) (by assumption) ?restgb3
                      case hygb3 => (intro w hSw; (try dsimp only at hSw); go_simp <;> with_reducible rfl)
                      try simp only [Act.put, List.setIfInBounds_toArray, List.set_cons_zero, List.set_cons_succ]
                      refine wpAnyH_take (i := 3) (oi := ⟨some 63, _, _, _, _, _⟩) (v := ?vgb4) rfl (by kernel_rfl) (by kernel_rfl) (by kernel_rfl) (fun _ _ _ h => h) (Or.inl ⟨by rfl, ?hygb4⟩) (by assumption) ?restgb4
                      case hygb4 => (intro w hSw; (try dsimp only at hSw); go_simp <;> with_reducible rfl)
                      try simp only [Act.put, List.setIfInBounds_toArray, List.set_cons_zero, List.set_cons_succ]
                      refine wpAnyH_take (i := 4) (oi := ⟨some 64, _, _, _, _, _⟩) (v := ?vgb5) rfl (by kernel_rfl) (by kernel_rfl) (by kernel_rfl) (fun _ _ _ h => h) (Or.inl ⟨by rfl, ?hygb5⟩) (by assumption) ?restgb5
                      case hygb5 => (intro w hSw; (try dsimp only at hSw); go_simp <;> with_reducible rfl)
                      try simp only [Act.put, List.setIfInBounds_toArray, List.set_cons_zero, List.set_cons_succ]
                      refine wpAnyH_take (i := 5) (oi := ⟨some 65, _, _, _, _, _⟩) (v := ?vgb6) rfl (by kernel_rfl) (by kernel_rfl) (by kernel_rfl) (fun _ _ _ h => h) (Or.inl ⟨by rfl, ?hygb6⟩) (by assumption) ?restgb6
                      case hygb6 => (intro w hSw; (try dsimp only at hSw); go_simp <;> with_reducible rfl)
                      try simp only [Act.put, List.setIfInBounds_toArray, List.set_cons_zero, List.set_cons_succ]
                      refine wpAnyH_take (i := 6) (oi := ⟨some 66, _, _, _, _, _⟩) (v := ?vgb7) rfl (by kernel_rfl) (by kernel_rfl) (by kernel_rfl) (fun _ _ _ h => h) (Or.inl ⟨by rfl, ?hygb7⟩) (by assumption) ?restgb7
                      case hygb7 => (intro w hSw; (try dsimp only at hSw); go_simp <;> with_reducible rfl)
                      try simp only [Act.put, List.setIfInBounds_toArray, List.set_cons_zero, List.set_cons_succ]
                      refine wpAnyH_take (i := 7) (oi := ⟨some 67, _, _, _, _, _⟩) (v := ?vgb8) rfl (by kernel_rfl) (by kernel_rfl) (by kernel_rfl) (fun _ _ _ h => h) (Or.inl ⟨by rfl, ?hygb8⟩) (by assumption) ?restgb8
                      case hygb8 => (intro w hSw; (try dsimp only at hSw); go_simp <;> with_reducible rfl)
                      try simp only [Act.put, List.setIfInBounds_toArray, List.set_cons_zero, List.set_cons_succ]
                      refine wpAnyH_take (i := 8) (oi := ⟨some 68, _, _, _, _, _⟩) (v := ?vgb9) rfl (by kernel_rfl) (by kernel_rfl) (by kernel_rfl) (fun _ _ _ h => h) (Or.inl ⟨by rfl, ?hygb9⟩) (by assumption) ?restgb9
                      case hygb9 => (intro w hSw; (try dsimp only at hSw); go_simp <;> with_reducible rfl)
                      try simp only [Act.put, List.setIfInBounds_toArray, List.set_cons_zero, List.set_cons_succ]
                      refine wpAnyH_take (i := 9) (oi := ⟨some 69, _, _, _, _, _⟩) (v := ?vgb10) rfl (by kernel_rfl) (by kernel_rfl) (by kernel_rfl) (fun _ _ _ h => h) (Or.inl ⟨by rfl, ?hygb10⟩) (by assumption) ?restgb10
                      case hygb10 => (intro w hSw; (try dsimp only at hSw); go_simp <;> with_reducible rfl)
                      try simp only [Act.put, List.setIfInBounds_toArray, List.set_cons_zero, List.set_cons_succ]
                      refine wpAnyH_take (i := 10) (oi := ⟨some 70, _, _, _, _, _⟩) (v := ?vgb11) rfl (by kernel_rfl) (by kernel_rfl) (by kernel_rfl) (fun _ _ _ h => h) (Or.inl ⟨by rfl, ?hygb11⟩) (by assumption) ?restgb11
                      case hygb11 => (intro w hSw; (try dsimp only at hSw); go_simp <;> with_reducible rfl)
                      try simp only [Act.put, List.setIfInBounds_toArray, List.set_cons_zero, List.set_cons_succ]
                      refine wpAnyH_take (i := 11) (oi := ⟨some 71, _, _, _, _, _⟩) (v := ?vgb12) rfl (by kernel_rfl) (by kernel_rfl) (by kernel_rfl) (fun _ _ _ h => h) (Or.inl ⟨by rfl, ?hygb12⟩) (by assumption) ?restgb12
                      case hygb12 => (intro w hSw; (try dsimp only at hSw); go_simp <;> with_reducible rfl)
                      try simp only [Act.put, List.setIfInBounds_toArray, List.set_cons_zero, List.set_cons_succ]
                      refine wpAnyH_take (i := 13) (oi := ⟨some 73, _, _, _, _, _⟩) (v := ?vgb13) rfl (by kernel_rfl) (by kernel_rfl) (by kernel_rfl) (fun _ _ _ h => h) (Or.inl ⟨by rfl, ?hygb13⟩) (by assumption) ?restgb13
                      case hygb13 => (intro w hSw; (try dsimp only at hSw); go_simp <;> with_reducible rfl)
                      try simp only [Act.put, List.setIfInBounds_toArray, List.set_cons_zero, List.set_cons_succ]
                      refine wpAnyH_take (i := 14) (oi := ⟨some 74, _, _, _, _, _⟩) (v := ?vgb14) rfl (by kernel_rfl) (by kernel_rfl) (by kernel_rfl) (fun _ _ _ h => h) (Or.inl ⟨by rfl, ?hygb14⟩) (by assumption) ?restgb14
                      case hygb14 => (intro w hSw; (try dsimp only at hSw); go_simp <;> with_reducible rfl)
                      try simp only [Act.put, List.setIfInBounds_toArray, List.set_cons_zero, List.set_cons_succ]
                      refine wpAnyH_take (i := 15) (oi := ⟨some 75, _, _, _, _, _⟩) (v := ?vgb15) rfl (by kernel_rfl) (by kernel_rfl) (by kernel_rfl) (fun _ _ _ h => h) (Or.inl ⟨by rfl, ?hygb15⟩) (by assumption) ?restgb15
                      case hygb15 => (intro w hSw; (try dsimp only at hSw); go_simp <;> with_reducible rfl)
                      try simp only [Act.put, List.setIfInBounds_toArray, List.set_cons_zero, List.set_cons_succ]
                      refine wpAnyH_take (i := 16) (oi := ⟨some 76, _, _, _, _, _⟩) (v := ?vgb16) rfl (by kernel_rfl) (by kernel_rfl) (by kernel_rfl) (fun _ _ _ h => h) (Or.inl ⟨by rfl, ?hygb16⟩) (by assumption) ?restgb16
                      case hygb16 => (intro w hSw; (try dsimp only at hSw); go_simp <;> with_reducible rfl)
                      try simp only [Act.put, List.setIfInBounds_toArray, List.set_cons_zero, List.set_cons_succ]
                      refine wpAnyH_take (i := 17) (oi := ⟨some 77, _, _, _, _, _⟩) (v := ?vgb17) rfl (by kernel_rfl) (by kernel_rfl) (by kernel_rfl) (fun _ _ _ h => h) (Or.inl ⟨by rfl, ?hygb17⟩) (by assumption) ?restgb17
                      case hygb17 => (intro w hSw; (try dsimp only at hSw); go_simp <;> with_reducible rfl)
                      try simp only [Act.put, List.setIfInBounds_toArray, List.set_cons_zero, List.set_cons_succ]
                      refine wpAnyH_take (i := 18) (oi := ⟨some 78, _, _, _, _, _⟩) (v := ?vgb18) rfl (by kernel_rfl) (by kernel_rfl) (by kernel_rfl) (fun _ _ _ h => h) (Or.inl ⟨by rfl, ?hygb18⟩) (by assumption) ?restgb18
                      case hygb18 => (intro w hSw; (try dsimp only at hSw); go_simp <;> with_reducible rfl)
                      try simp only [Act.put, List.setIfInBounds_toArray, List.set_cons_zero, List.set_cons_succ]
                      refine wpAnyH_ready (rs := [12]) (by kernel_rfl) (by simp) ?_
                      refine AllReadyH.cons (o := ⟨some 72, _, _, _, _, _⟩) rfl (fun K hK => ?_) ?_
                      · go_simp
                        go_at_call 41
                        refine (hT.out _ _ _ _ (by first | rfl | omega) (by repeat (first | assumption | exact Below.refl _ _ | (refine bStep ?_ (by assumption)) | (with_reducible refine bAlc ?_ _) | (with_reducible refine bDrw ?_)))).mono ?_
                        rintro e w1 ⟨A1, k1, rfl, hs1, hb1⟩
                        go_wp2_with fail
                        refine hK.out _ _ ?_ (fun hHeld => ?_)
                        · (exact hAll.out _ (by repeat (first | assumption | exact Below.refl _ _ | (refine bStep ?_ (by assumption)) | (with_reducible refine bAlc ?_ _) | (with_reducible refine bDrw ?_))))
                        clear hK K
                        try simp only [Act.put, List.setIfInBounds_toArray, List.set_cons_zero, List.set_cons_succ]
                        refine wpAnyH_ready (rs := [19]) (by kernel_rfl) (by simp) ?_
                        refine AllReadyH.cons (o := ⟨some 79, _, _, _, _, _⟩) rfl (fun K hK => ?_) ?_
                        · go_simp
                          go_at_call 40
                          refine (hSm.out A1 k1 _ (by repeat (first | assumption | exact Below.refl _ _ | (refine bStep ?_ (by assumption)) | (with_reducible refine bAlc ?_ _) | (with_reducible refine bDrw ?_))) (hs1.step (by repeat (first | assumption | exact Below.refl _ _ | (refine bStep ?_ (by assumption)) | (with_reducible refine bAlc ?_ _) | (with_reducible refine bDrw ?_))))).mono ?_
                          rintro e w2 ⟨v2, rfl, ho2, hb2⟩
                          obtain ⟨A2, k2, rfl, hs2⟩ := hOwn.out _ _ _ ho2
                          go_wp2_with fail
                          refine hK.out _ _ ?_ (fun hHeld => ?_)
                          · (exact hAll.out _ (by repeat (first | assumption | exact Below.refl _ _ | (refine bStep ?_ (by assumption)) | (with_reducible refine bAlc ?_ _) | (with_reducible refine bDrw ?_))))
                          clear hK K
                          try simp only [Act.put, List.setIfInBounds_toArray, List.set_cons_zero, List.set_cons_succ]
                          refine wpAnyH_take (i := 20) (oi := ⟨some 59, _, _, _, _, _⟩) (v := ?vgb19) rfl (by kernel_rfl) (by kernel_rfl) (by kernel_rfl) (fun _ _ _ h => h) (Or.inl ⟨by rfl, ?hygb19⟩) (by assumption) ?restgb19
                          case hygb19 => (intro w hSw; (try dsimp only at hSw); go_simp <;> with_reducible rfl)
                          try simp only [Act.put, List.setIfInBounds_toArray, List.set_cons_zero, List.set_cons_succ]
                          refine wpAnyH_take (i := 21) (oi := ⟨some 80, _, _, _, _, _⟩) (v := ?vgb20) rfl (by kernel_rfl) (by kernel_rfl) (by kernel_rfl) (fun _ _ _ h => h) (Or.inl ⟨by rfl, ?hygb20⟩) (by assumption) ?restgb20
                          case hygb20 => (intro w hSw; (try dsimp only at hSw); go_simp <;> with_reducible rfl)
                          try simp only [Act.put, List.setIfInBounds_toArray, List.set_cons_zero, List.set_cons_succ]
                          refine wpAnyH_take (i := 22) (oi := ⟨some 81, _, _, _, _, _⟩) (v := ?vgb21) rfl (by kernel_rfl) (by kernel_rfl) (by kernel_rfl) (fun _ _ _ h => h) (Or.inl ⟨by rfl, ?hygb21⟩) (by assumption) ?restgb21
                          case hygb21 => (intro w hSw; (try dsimp only at hSw); go_simp <;> with_reducible rfl)
                          try simp only [Act.put, List.setIfInBounds_toArray, List.set_cons_zero, List.set_cons_succ]
                          refine wpAnyH_take (i := 23) (oi := ⟨some 10, _, _, _, _, _⟩) (v := ?vgb22) rfl (by kernel_rfl) (by kernel_rfl) (by kernel_rfl) (fun _ _ _ h => h) (Or.inl ⟨by rfl, ?hygb22⟩) (by assumption) ?restgb22
                          case hygb22 => (intro w hSw; (try dsimp only at hSw); go_simp <;> with_reducible rfl)
                          try simp only [Act.put, List.setIfInBounds_toArray, List.set_cons_zero, List.set_cons_succ]
                          refine wpAnyH_take (i := 24) (oi := ⟨some 11, _, _, _, _, _⟩) (v := ?vgb23) rfl (by kernel_rfl) (by kernel_rfl) (by kernel_rfl) (fun _ _ _ h => h) (Or.inl ⟨by rfl, ?hygb23⟩) (by assumption) ?restgb23
                          case hygb23 => (intro w hSw; (try dsimp only at hSw); go_simp <;> with_reducible rfl)
                          try simp only [Act.put, List.setIfInBounds_toArray, List.set_cons_zero, List.set_cons_succ]
                          refine wpAnyH_done (by kernel_rfl) ?_ _
                          go_wp2_with fail
                          go_meet
                          exact ⟨A2, k2, rfl, hs2, (by repeat (first | assumption | exact Below.refl _ _ | (refine bStep ?_ (by assumption)) | (with_reducible refine bAlc ?_ _) | (with_reducible refine bDrw ?_)))⟩
                        exact AllReadyH.nil
                      exact AllReadyH.nil
                    · refine wp_region_held_drew (S := (fun w' => w'.cell? ⟨w.heap.size, 0, none⟩ = some (.int .i64 g.k) ∧ w'.cell? ⟨w.heap.size, 1, none⟩ = some (.slice ta g.toks.length tc) ∧ w'.cell? ⟨w.heap.size, 2, none⟩ = some (.string g.sep) ∧ w'.cell? ⟨w.heap.size, 3, none⟩ = some (.slice na g.names.length nc) ∧ w'.cell? ⟨w.heap.size, 4, none⟩ = some (.int .i64 g.start) ∧ w'.cell? ⟨w.heap.size, 5, none⟩ = some (.slice (some ⟨b, off, none⟩) g.prods.length pc) ∧
                        w'.cell? ⟨gp, 0, none⟩ = some (.int .i64 p.left) ∧ w'.cell? ⟨gp, 1, none⟩ = some (.slice (some ⟨rb, roff, none⟩) p.right.length rc) ∧ w'.cell? ⟨bo, jx, none⟩ = some (.slice Xj Dj.length xcj) ∧ Below wr.heap.size wr w')) (by kernel_rfl) (hAll.out _ (bDrw (Below.refl _ _))) (fun hHeld => ?_)
                      refine wpAnyH_take (i := 0) (oi := ⟨some 60, _, _, _, _, _⟩) (v := ?vgc1) rfl (by kernel_rfl) (by kernel_rfl) (by kernel_rfl) (fun _ _ _ h => h) (Or.inl ⟨by rfl, ?hygc1⟩) (by assumption) ?restgc1
                      case hygc1 => (intro w hSw; (try dsimp only at hSw); go_simp <;> with_reducible rfl)
                      try simp only [Act.put, List.setIfInBounds_toArray, List.set_cons_zero, List.set_cons_succ]
                      refine wpAnyH_take (i := 1) (oi := ⟨some 61, _, _, _, _, _⟩) (v := ?vgc2) rfl (by kernel_rfl) (by kernel_rfl) (by kernel_rfl) (fun _ _ _ h => h) (Or.inl ⟨by rfl, ?hygc2⟩) (by assumption) ?restgc2
                      case hygc2 => (intro w hSw; (try dsimp only at hSw); go_simp <;> with_reducible rfl)
                      try simp only [Act.put, List.setIfInBounds_toArray, List.set_cons_zero, List.set_cons_succ]
                      refine wpAnyH_take (i := 2) (oi := ⟨some 62, _, _, _, _, _⟩) (v := ?vgc3) rfl (by kernel_rfl) (by kernel_rfl) (by kernel_rfl) (fun _ _ _ h => h) (Or.inl ⟨by rfl, ?hygc3⟩) (by assumption) ?restgc3
                      case hygc3 => (intro w hSw; (try dsimp only at hSw); go_simp <;> with_reducible rfl)
                      try simp only [Act.put, List.setIfInBounds_toArray, List.set_cons_zero, List.set_cons_succ]
                      refine wpAnyH_take (i := 3) (oi := ⟨some 63, _, _, _, _, _⟩) (v := ?vgc4) rfl (by kernel_rfl) (by kernel_rfl) (by kernel_rfl) (fun _ _ _ h => h) (Or.inl ⟨by rfl, ?hygc4⟩) (by assumption) ?restgc4
                      case hygc4 => (intro w hSw; (try dsimp only at hSw); go_simp <;> with_reducible rfl)
                      try simp only [Act.put, List.setIfInBounds_toArray, List.set_cons_zero, List.set_cons_succ]
                      refine wpAnyH_take (i := 4) (oi := ⟨some 64, _, _, _, _, _⟩) (v := ?vgc5) rfl (by kernel_rfl) (by kernel_rfl) (by kernel_rfl) (fun _ _ _ h => h) (Or.inl ⟨by rfl, ?hygc5⟩) (by assumption) ?restgc5
                      case hygc5 => (intro w hSw; (try dsimp only at hSw); go_simp <;> with_reducible rfl)
                      try simp only [Act.put, List.setIfInBounds_toArray, List.set_cons_zero, List.set_cons_succ]
                      refine wpAnyH_take (i := 5) (oi := ⟨some 65, _, _, _, _, _⟩) (v := ?vgc6) rfl (by kernel_rfl) (by kernel_rfl) (by kernel_rfl) (fun _ _ _ h => h) (Or.inl ⟨by rfl, ?hygc6⟩) (by assumption) ?restgc6
                      case hygc6 => (intro w hSw; (try dsimp only at hSw); go_simp <;> with_reducible rfl)
                      try simp only [Act.put, List.setIfInBounds_toArray, List.set_cons_zero, List.set_cons_succ]
                      refine wpAnyH_take (i := 6) (oi := ⟨some 66, _, _, _, _, _⟩) (v := ?vgc7) rfl (by kernel_rfl) (by kernel_rfl) (by kernel_rfl) (fun _ _ _ h => h) (Or.inl ⟨by rfl, ?hygc7⟩) (by assumption) ?restgc7
                      case hygc7 => (intro w hSw; (try dsimp only at hSw); go_simp <;> with_reducible rfl)
                      try simp only [Act.put, List.setIfInBounds_toArray, List.set_cons_zero, List.set_cons_succ]
                      refine wpAnyH_take (i := 7) (oi := ⟨some 67, _, _, _, _, _⟩) (v := ?vgc8) rfl (by kernel_rfl) (by kernel_rfl) (by kernel_rfl) (fun _ _ _ h => h) (Or.inl ⟨by rfl, ?hygc8⟩) (by assumption) ?restgc8
                      case hygc8 => (intro w hSw; (try dsimp only at hSw); go_simp <;> with_reducible rfl)
                      try simp only [Act.put, List.setIfInBounds_toArray, List.set_cons_zero, List.set_cons_succ]
                      refine wpAnyH_take (i := 8) (oi := ⟨some 68, _, _, _, _, _⟩) (v := ?vgc9) rfl (by kernel_rfl) (by kernel_rfl) (by kernel_rfl) (fun _ _ _ h => h) (Or.inl ⟨by rfl, ?hygc9⟩) (by assumption) ?restgc9
                      case hygc9 => (intro w hSw; (try dsimp only at hSw); go_simp <;> with_reducible rfl)
                      try simp only [Act.put, List.setIfInBounds_toArray, List.set_cons_zero, List.set_cons_succ]
                      refine wpAnyH_take (i := 9) (oi := ⟨some 69, _, _, _, _, _⟩) (v := ?vgc10) rfl (by kernel_rfl) (by kernel_rfl) (by kernel_rfl) (fun _ _ _ h => h) (Or.inl ⟨by rfl, ?hygc10⟩) (by assumption) ?restgc10
                      case hygc10 => (intro w hSw; (try dsimp only at hSw); go_simp <;> with_reducible rfl)
                      try simp only [Act.put, List.setIfInBounds_toArray, List.set_cons_zero, List.set_cons_succ]
                      refine wpAnyH_take (i := 10) (oi := ⟨some 70, _, _, _, _, _⟩) (v := ?vgc11) rfl (by kernel_rfl) (by kernel_rfl) (by kernel_rfl) (fun _ _ _ h => h) (Or.inl ⟨by rfl, ?hygc11⟩) (by assumption) ?restgc11
                      case hygc11 => (intro w hSw; (try dsimp only at hSw); go_simp <;> with_reducible rfl)
                      try simp only [Act.put, List.setIfInBounds_toArray, List.set_cons_zero, List.set_cons_succ]
                      refine wpAnyH_take (i := 11) (oi := ⟨some 71, _, _, _, _, _⟩) (v := ?vgc12) rfl (by kernel_rfl) (by kernel_rfl) (by kernel_rfl) (fun _ _ _ h => h) (Or.inl ⟨by rfl, ?hygc12⟩) (by assumption) ?restgc12
                      case hygc12 => (intro w hSw; (try dsimp only at hSw); go_simp <;> with_reducible rfl)
                      try simp only [Act.put, List.setIfInBounds_toArray, List.set_cons_zero, List.set_cons_succ]
                      refine wpAnyH_take (i := 13) (oi := ⟨some 73, _, _, _, _, _⟩) (v := ?vgc13) rfl (by kernel_rfl) (by kernel_rfl) (by kernel_rfl) (fun _ _ _ h => h) (Or.inl ⟨by rfl, ?hygc13⟩) (by assumption) ?restgc13
                      case hygc13 => (intro w hSw; (try dsimp only at hSw); go_simp <;> with_reducible rfl)
                      try simp only [Act.put, List.setIfInBounds_toArray, List.set_cons_zero, List.set_cons_succ]
                      refine wpAnyH_take (i := 14) (oi := ⟨some 74, _, _, _, _, _⟩) (v := ?vgc14) rfl (by kernel_rfl) (by kernel_rfl) (by kernel_rfl) (fun _ _ _ h => h) (Or.inl ⟨by rfl, ?hygc14⟩) (by assumption) ?restgc14
                      case hygc14 => (intro w hSw; (try dsimp only at hSw); go_simp <;> with_reducible rfl)
                      try simp only [Act.put, List.setIfInBounds_toArray, List.set_cons_zero, List.set_cons_succ]
                      refine wpAnyH_take (i := 15) (oi := ⟨some 75, _, _, _, _, _⟩) (v := ?vgc15) rfl (by kernel_rfl) (by kernel_rfl) (by kernel_rfl) (fun _ _ _ h => h) (Or.inl ⟨by rfl, ?hygc15⟩) (by assumption) ?restgc15
                      case hygc15 => (intro w hSw; (try dsimp only at hSw); go_simp <;> with_reducible rfl)
                      try simp only [Act.put, List.setIfInBounds_toArray, List.set_cons_zero, List.set_cons_succ]
                      refine wpAnyH_take (i := 16) (oi := ⟨some 76, _, _, _, _, _⟩) (v := ?vgc16) rfl (by kernel_rfl) (by kernel_rfl) (by kernel_rfl) (fun _ _ _ h => h) (Or.inl ⟨by rfl, ?hygc16⟩) (by assumption) ?restgc16
                      case hygc16 => (intro w hSw; (try dsimp only at hSw); go_simp <;> with_reducible rfl)
                      try simp only [Act.put, List.setIfInBounds_toArray, List.set_cons_zero, List.set_cons_succ]
                      refine wpAnyH_take (i := 17) (oi := ⟨some 77, _, _, _, _, _⟩) (v := ?vgc17) rfl (by kernel_rfl) (by kernel_rfl) (by kernel_rfl) (fun _ _ _ h => h) (Or.inl ⟨by rfl, ?hygc17⟩) (by assumption) ?restgc17
                      case hygc17 => (intro w hSw; (try dsimp only at hSw); go_simp <;> with_reducible rfl)
                      try simp only [Act.put, List.setIfInBounds_toArray, List.set_cons_zero, List.set_cons_succ]
                      refine wpAnyH_take (i := 18) (oi := ⟨some 78, _, _, _, _, _⟩) (v := ?vgc18) rfl (by kernel_rfl) (by kernel_rfl) (by kernel_rfl) (fun _ _ _ h => h) (Or.inl ⟨by rfl, ?hygc18⟩) (by assumption) ?restgc18
                      case hygc18 => (intro w hSw; (try dsimp only at hSw); go_simp <;> with_reducible rfl)
                      try simp only [Act.put, List.setIfInBounds_toArray, List.set_cons_zero, List.set_cons_succ]
                      refine wpAnyH_ready (rs := [12]) (by kernel_rfl) (by simp) ?_
                      refine AllReadyH.cons (o := ⟨some 72, _, _, _, _, _⟩) rfl (fun K hK => ?_) ?_
                      · go_simp
                        go_at_call 41
                        refine (hT.out _ _ _ _ (by first | rfl | omega) (by repeat (first | assumption | exact Below.refl _ _ | (refine bStep ?_ (by assumption)) | (with_reducible refine bAlc ?_ _) | (with_reducible refine bDrw ?_)))).mono ?_
                        rintro e w1 ⟨A1, k1, rfl, hs1, hb1⟩
                        go_wp2_with fail
                        refine hK.out _ _ ?_ (fun hHeld => ?_)
                        · (exact hAll.out _ (by repeat (first | assumption | exact Below.refl _ _ | (refine bStep ?_ (by assumption)) | (with_reducible refine bAlc ?_ _) | (with_reducible refine bDrw ?_))))
                        clear hK K
                        try simp only [Act.put, List.setIfInBounds_toArray, List.set_cons_zero, List.set_cons_succ]
                        refine wpAnyH_ready (rs := [19]) (by kernel_rfl) (by simp) ?_
                        refine AllReadyH.cons (o := ⟨some 79, _, _, _, _, _⟩) rfl (fun K hK => ?_) ?_
                        · go_simp
                          go_at_call 40
                          refine (hSm.out A1 k1 _ (by repeat (first | assumption | exact Below.refl _ _ | (refine bStep ?_ (by assumption)) | (with_reducible refine bAlc ?_ _) | (with_reducible refine bDrw ?_))) (hs1.step (by repeat (first | assumption | exact Below.refl _ _ | (refine bStep ?_ (by assumption)) | (with_reducible refine bAlc ?_ _) | (with_reducible refine bDrw ?_))))).mono ?_
                          rintro e w2 ⟨v2, rfl, ho2, hb2⟩
                          obtain ⟨A2, k2, rfl, hs2⟩ := hOwn.out _ _ _ ho2
                          go_wp2_with fail
                          refine hK.out _ _ ?_ (fun hHeld => ?_)
                          · (exact hAll.out _ (by repeat (first | assumption | exact Below.refl _ _ | (refine bStep ?_ (by assumption)) | (with_reducible refine bAlc ?_ _) | (with_reducible refine bDrw ?_))))
                          clear hK K
                          try simp only [Act.put, List.setIfInBounds_toArray, List.set_cons_zero, List.set_cons_succ]
                          refine wpAnyH_take (i := 20) (oi := ⟨some 59, _, _, _, _, _⟩) (v := ?vgc19) rfl (by kernel_rfl) (by kernel_rfl) (by kernel_rfl) (fun _ _ _ h => h) (Or.inl ⟨by rfl, ?hygc19⟩) (by assumption) ?restgc19
                          case hygc19 => (intro w hSw; (try dsimp only at hSw); go_simp <;> with_reducible rfl)
                          try simp only [Act.put, List.setIfInBounds_toArray, List.set_cons_zero, List.set_cons_succ]
                          refine wpAnyH_take (i := 21) (oi := ⟨some 80, _, _, _, _, _⟩) (v := ?vgc20) rfl (by kernel_rfl) (by kernel_rfl) (by kernel_rfl) (fun _ _ _ h => h) (Or.inl ⟨by rfl, ?hygc20⟩) (by assumption) ?restgc20
                          case hygc20 => (intro w hSw; (try dsimp only at hSw); go_simp <;> with_reducible rfl)
                          try simp only [Act.put, List.setIfInBounds_toArray, List.set_cons_zero, List.set_cons_succ]
                          refine wpAnyH_take (i := 22) (oi := ⟨some 81, _, _, _, _, _⟩) (v := ?vgc21) rfl (by kernel_rfl) (by kernel_rfl) (by kernel_rfl) (fun _ _ _ h => h) (Or.inl ⟨by rfl, ?hygc21⟩) (by assumption) ?restgc21
                          case hygc21 => (intro w hSw; (try dsimp only at hSw); go_simp <;> with_reducible rfl)
                          try simp only [Act.put, List.setIfInBounds_toArray, List.set_cons_zero, List.set_cons_succ]
                          refine wpAnyH_take (i := 23) (oi := ⟨some 10, _, _, _, _, _⟩) (v := ?vgc22) rfl (by kernel_rfl) (by kernel_rfl) (by kernel_rfl) (fun _ _ _ h => h) (Or.inl ⟨by rfl, ?hygc22⟩) (by assumption) ?restgc22
                          case hygc22 => (intro w hSw; (try dsimp only at hSw); go_simp <;> with_reducible rfl)
                          try simp only [Act.put, List.setIfInBounds_toArray, List.set_cons_zero, List.set_cons_succ]
                          refine wpAnyH_take (i := 24) (oi := ⟨some 11, _, _, _, _, _⟩) (v := ?vgc23) rfl (by kernel_rfl) (by kernel_rfl) (by kernel_rfl) (fun _ _ _ h => h) (Or.inl ⟨by rfl, ?hygc23⟩) (by assumption) ?restgc23
                          case hygc23 => (intro w hSw; (try dsimp only at hSw); go_simp <;> with_reducible rfl)
                          try simp only [Act.put, List.setIfInBounds_toArray, List.set_cons_zero, List.set_cons_succ]
                          refine wpAnyH_done (by kernel_rfl) ?_ _
                          go_wp2_with fail
                          go_meet
                          exact ⟨A2, k2, rfl, hs2, (by repeat (first | assumption | exact Below.refl _ _ | (refine bStep ?_ (by assumption)) | (with_reducible refine bAlc ?_ _) | (with_reducible refine bDrw ?_)))⟩
                        exact AllReadyH.nil
                      exact AllReadyH.nil
                case rest =>
                  clear c0 c1 c2 c3 c4 c5 p0 p1 hAll hOf hSm hOwn hx2d z1 hcxj
                  replace he1 := Lib.hid he1
                  obtain ⟨A3, c3, rfl, hs3, hbc⟩ := hcut
                  have hS2 := hS.step hbc
                  have hSf2 := hSf.step hbc
                  have hG2 := hG.step hbc
                  have q72 := q7.step hbc
                  have hcx2 := cell_later hbc hcxi
                  have hUn2 : Hid (∀ gq W', Below wc.heap.size wc W' → Blk W' gq 28 #[.slice Xi D.length xci, .slice A3 U.length c3] → Calls Tryz.prog 85 #[.int .i64 g.toks.length, .slice (some ⟨gq, 0, none⟩) 2 2] W' (RetL0 W' J)) :=
                    Lib.hid fun gq W' hb q => hUn.out A3 c3 gq W' (bStep hbc hb) (hs3.step hb) q
                  obtain ⟨c0, c1, c2, c3', c4, c5⟩ := hG2.cells
                  dsimp only at c1 c3' c5
                  clear hUn hS hSf hG q7 hcxi hbc hs3
                  generalize wc = wd at *
                  have hAll : Hid (∀ w', Below wd.heap.size wd w' → w'.cell? ⟨w.heap.size, 1, none⟩ = some (.slice ta g.toks.length tc) ∧ w'.cell? ⟨bo, ix, none⟩ = some (.slice Xi D.length xci) ∧ Below wd.heap.size wd w') :=
                    Lib.hid fun w' h => ⟨cell_later h c1, cell_later h hcx2, h⟩
                  go_upto_region 17 with (fail)
                  go_cut [12] (fun s12 wx => ∃ A4 c4, s12 = .slice A4 J.length c4 ∧ SetAt wx g.toks.length A4 J.length c4 J ∧ Below wd.heap.size wd wx)
                  case first =>
                    clear hR1 hR2 hR3 hR4 hR5 hRn hEndT hEndF uf4
                    refine wp_region_held_drew (S := (fun w' => w'.cell? ⟨w.heap.size, 1, none⟩ = some (.slice ta g.toks.length tc) ∧ w'.cell? ⟨bo, ix, none⟩ = some (.slice Xi D.length xci) ∧ Below wd.heap.size wd w')) (by kernel_rfl) (hAll.out _ (bDrw (Below.refl _ _))) (fun hHeld => ?_)
                    refine wpAnyH_take (i := 0) (oi := ⟨some 83, _, _, _, _, _⟩) (v := ?vh1) rfl (by kernel_rfl) (by kernel_rfl) (by kernel_rfl) (fun _ _ _ h => h) (Or.inl ⟨by rfl, ?hyh1⟩) (by assumption) ?resth1
                    case hyh1 => (intro w hSw; (try dsimp only at hSw); go_simp <;> with_reducible rfl)
                    try simp only [Act.put, List.setIfInBounds_toArray, List.set_cons_zero, List.set_cons_succ]
                    refine wpAnyH_take (i := 1) (oi := ⟨some 84, _, _, _, _, _⟩) (v := ?vh2) rfl (by kernel_rfl) (by kernel_rfl) (by kernel_rfl) (fun _ _ _ h => h) (Or.inl ⟨by rfl, ?hyh2⟩) (by assumption) ?resth2
                    case hyh2 => (intro w hSw; (try dsimp only at hSw); go_simp <;> with_reducible rfl)
                    try simp only [Act.put, List.setIfInBounds_toArray, List.set_cons_zero, List.set_cons_succ]
                    refine wpAnyH_take (i := 2) (oi := ⟨some 85, _, _, _, _, _⟩) (v := ?vh3) rfl (by kernel_rfl) (by kernel_rfl) (by kernel_rfl) (fun _ _ _ h => h) (Or.inl ⟨by rfl, ?hyh3⟩) (by assumption) ?resth3
                    case hyh3 => (intro w hSw; (try dsimp only at hSw); go_simp <;> with_reducible rfl)
                    try simp only [Act.put, List.setIfInBounds_toArray, List.set_cons_zero, List.set_cons_succ]
                    refine wpAnyH_take (i := 3) (oi := ⟨some 86, _, _, _, _, _⟩) (v := ?vh4) rfl (by kernel_rfl) (by kernel_rfl) (by kernel_rfl) (fun _ _ _ h => h) (Or.inl ⟨by rfl, ?hyh4⟩) (by assumption) ?resth4
                    case hyh4 => (intro w hSw; (try dsimp only at hSw); go_simp <;> with_reducible rfl)
                    try simp only [Act.put, List.setIfInBounds_toArray, List.set_cons_zero, List.set_cons_succ]
                    refine wpAnyH_take (i := 4) (oi := ⟨some 87, _, _, _, _, _⟩) (v := ?vh5) rfl (by kernel_rfl) (by kernel_rfl) (by kernel_rfl) (fun _ _ _ h => h) (Or.inl ⟨by rfl, ?hyh5⟩) (by assumption) ?resth5
                    case hyh5 => (intro w hSw; (try dsimp only at hSw); go_simp <;> with_reducible rfl)
                    try simp only [Act.put, List.setIfInBounds_toArray, List.set_cons_zero, List.set_cons_succ]
                    refine wpAnyH_take (i := 5) (oi := ⟨some 88, _, _, _, _, _⟩) (v := ?vh6) rfl (by kernel_rfl) (by kernel_rfl) (by kernel_rfl) (fun _ _ _ h => h) (Or.inl ⟨by rfl, ?hyh6⟩) (by assumption) ?resth6
                    case hyh6 => (intro w hSw; (try dsimp only at hSw); go_simp <;> with_reducible rfl)
                    try simp only [Act.put, List.setIfInBounds_toArray, List.set_cons_zero, List.set_cons_succ]
                    refine wpAnyH_take (i := 6) (oi := ⟨some 89, _, _, _, _, _⟩) (v := ?vh7) rfl (by kernel_rfl) (by kernel_rfl) (by kernel_rfl) (fun _ _ _ h => h) (Or.inl ⟨by rfl, ?hyh7⟩) (by assumption) ?resth7
                    case hyh7 => (intro w hSw; (try dsimp only at hSw); go_simp <;> with_reducible rfl)
                    try simp only [Act.put, List.setIfInBounds_toArray, List.set_cons_zero, List.set_cons_succ]
                    refine wpAnyH_take (i := 7) (oi := ⟨some 90, _, _, _, _, _⟩) (v := ?vh8) rfl (by kernel_rfl) (by kernel_rfl) (by kernel_rfl) (fun _ _ _ h => h) (Or.inl ⟨by rfl, ?hyh8⟩) (by assumption) ?resth8
                    case hyh8 => (intro w hSw; (try dsimp only at hSw); go_simp <;> with_reducible rfl)
                    try simp only [Act.put, List.setIfInBounds_toArray, List.set_cons_zero, List.set_cons_succ]
                    refine wpAnyH_ready (rs := [8]) (by kernel_rfl) (by simp) ?_
                    refine AllReadyH.cons (o := ⟨some 91, _, _, _, _, _⟩) rfl (fun K hK => ?_) ?_
                    · go_simp
                      refine hK.out _ _ ?_ (fun hHeld => ?_)
                      · (exact hAll.out _ (by repeat (first | assumption | exact Below.refl _ _ | (refine bStep ?_ (by assumption)) | (with_reducible refine bAlc ?_ _) | (with_reducible refine bDrw ?_))))
                      clear hK K
                      try simp only [Act.put, List.setIfInBounds_toArray, List.set_cons_zero, List.set_cons_succ]
                      refine wpAnyH_ready (rs := [9]) (by kernel_rfl) (by simp) ?_
                      refine AllReadyH.cons (o := ⟨some 92, _, _, _, _, _⟩) rfl (fun K hK => ?_) ?_
                      · go_simp
                        go_at_call 85
                        refine (hUn2.out wd.heap.size _ (by repeat (first | assumption | exact Below.refl _ _ | (refine bStep ?_ (by assumption)) | (with_reducible refine bAlc ?_ _) | (with_reducible refine bDrw ?_))) (show Blk (wd.alloc (.cells #[.slice Xi D.length xci, .slice A3 U.length c3] 28)).drew wd.heap.size 28 #[.slice Xi D.length xci, .slice A3 U.length c3] from Blk.new wd 28 _)).mono ?_
                        rintro e w2 ⟨v2, rfl, ho2, hb2⟩
                        obtain ⟨A4, k4, rfl, hs4⟩ := hOwn2.out _ _ _ ho2
                        go_wp2_with fail
                        refine hK.out _ _ ?_ (fun hHeld => ?_)
                        · (exact hAll.out _ (by repeat (first | assumption | exact Below.refl _ _ | (refine bStep ?_ (by assumption)) | (with_reducible refine bAlc ?_ _) | (with_reducible refine bDrw ?_))))
                        clear hK K
                        try simp only [Act.put, List.setIfInBounds_toArray, List.set_cons_zero, List.set_cons_succ]
                        refine wpAnyH_take (i := 10) (oi := ⟨some 82, _, _, _, _, _⟩) (v := ?vh9) rfl (by kernel_rfl) (by kernel_rfl) (by kernel_rfl) (fun _ _ _ h => h) (Or.inl ⟨by rfl, ?hyh9⟩) (by assumption) ?resth9
                        case hyh9 => (intro w hSw; (try dsimp only at hSw); go_simp <;> with_reducible rfl)
                        try simp only [Act.put, List.setIfInBounds_toArray, List.set_cons_zero, List.set_cons_succ]
                        refine wpAnyH_take (i := 11) (oi := ⟨some 93, _, _, _, _, _⟩) (v := ?vh10) rfl (by kernel_rfl) (by kernel_rfl) (by kernel_rfl) (fun _ _ _ h => h) (Or.inl ⟨by rfl, ?hyh10⟩) (by assumption) ?resth10
                        case hyh10 => (intro w hSw; (try dsimp only at hSw); go_simp <;> with_reducible rfl)
                        try simp only [Act.put, List.setIfInBounds_toArray, List.set_cons_zero, List.set_cons_succ]
                        refine wpAnyH_take (i := 12) (oi := ⟨some 94, _, _, _, _, _⟩) (v := ?vh11) rfl (by kernel_rfl) (by kernel_rfl) (by kernel_rfl) (fun _ _ _ h => h) (Or.inl ⟨by rfl, ?hyh11⟩) (by assumption) ?resth11
                        case hyh11 => (intro w hSw; (try dsimp only at hSw); go_simp <;> with_reducible rfl)
                        try simp only [Act.put, List.setIfInBounds_toArray, List.set_cons_zero, List.set_cons_succ]
                        refine wpAnyH_take (i := 13) (oi := ⟨some 12, _, _, _, _, _⟩) (v := ?vh12) rfl (by kernel_rfl) (by kernel_rfl) (by kernel_rfl) (fun _ _ _ h => h) (Or.inl ⟨by rfl, ?hyh12⟩) (by assumption) ?resth12
                        case hyh12 => (intro w hSw; (try dsimp only at hSw); go_simp <;> with_reducible rfl)
                        try simp only [Act.put, List.setIfInBounds_toArray, List.set_cons_zero, List.set_cons_succ]
                        refine wpAnyH_take (i := 14) (oi := ⟨some 13, _, _, _, _, _⟩) (v := ?vh13) rfl (by kernel_rfl) (by kernel_rfl) (by kernel_rfl) (fun _ _ _ h => h) (Or.inl ⟨by rfl, ?hyh13⟩) (by assumption) ?resth13
                        case hyh13 => (intro w hSw; (try dsimp only at hSw); go_simp <;> with_reducible rfl)
                        try simp only [Act.put, List.setIfInBounds_toArray, List.set_cons_zero, List.set_cons_succ]
                        refine wpAnyH_done (by kernel_rfl) ?_ _
                        go_wp2_with fail
                        go_meet
                        exact ⟨A4, k4, rfl, hs4, (by repeat (first | assumption | exact Below.refl _ _ | (refine bStep ?_ (by assumption)) | (with_reducible refine bAlc ?_ _) | (with_reducible refine bDrw ?_)))⟩
                      exact AllReadyH.nil
                    exact AllReadyH.nil
                  case rest =>
                    clear c0 c1 c2 c3' c4 c5 hAll hUn2 hOwn2
                    obtain ⟨A4, c4, rfl, hs4, hbd⟩ := hcut
                    have hS3 := hS2.step hbd
                    have hSf3 := hSf2.step hbd
                    have hG3 := hG2.step hbd
                    have q73 := q72.step hbd
                    have hcx3 := cell_later hbd hcx2
                    have hfx3 : wc.frozen? ⟨bo, ix, none⟩ = false := by obtain ⟨_, _, _, h, _⟩ := hS3.get ix hixi; exact h
                    have hS4 := hS3.put ix hs4
                    have hSf4 := hSf3.other hS3 hbfo ix (.slice A4 J.length c4)
                    have hG4 := hG3.far ⟨bo, ix, none⟩ (.slice A4 J.length c4) hgo
                    have q74 := q73.far (p := ⟨bo, ix, none⟩) (Ne.symm hgp) (.slice A4 J.length c4)
                    clear hcx2 hS2 hSf2 hG2 q72 hbd hs4 hS3 hSf3 hG3 q73
                    cases gr with
                    | true =>
                      have hEnd1 : Hid (tot fs < tot (fs'.set ix J)) := Lib.hid (by
                        have h1 := hgr.out
                        simp only [if_true] at h1
                        have := hR5.out; have := hR3.out; omega)
                      go_wp2_with fail
                      go_roundg (p.right.length - (d + 1))
                      case measure => have := hd.out; omega
                      case rel => exact ⟨d + 1, fs'.set ix J, true, (by first | go_num | rw [he1.out]), rfl, Lib.hid (by have := hd.out; have := he1.out; omega), hR1, hR2, hRn, hS4, hSf4, hG4, q74, Lib.hid (by simpa using hEnd1.out)⟩
                    | false =>
                      by_cases hgn : D.length < J.length
                      · have hEnd1 := Lib.hid (hEndT.out hgn)
                        have hz : (D.length : Int) < J.length := by omega
                        go_wp2_with fail
                        go_roundg (p.right.length - (d + 1))
                        case measure => have := hd.out; omega
                        case rel => exact ⟨d + 1, fs'.set ix J, true, (by first | go_num | rw [he1.out]), rfl, Lib.hid (by have := hd.out; have := he1.out; omega), hR1, hR2, hRn, hS4, hSf4, hG4, q74, Lib.hid (by simpa using hEnd1.out)⟩
                      · have hEnd1 := Lib.hid (hEndF.out hgn)
                        have hz : ¬ (D.length : Int) < J.length := by omega
                        rw [hEnd1.out.1] at hS4
                        go_wp2_with fail
                        go_roundg (p.right.length - (d + 1))
                        case measure => have := hd.out; omega
                        case rel => exact ⟨d + 1, fs', false, (by first | go_num | rw [he1.out]), rfl, Lib.hid (by have := hd.out; have := he1.out; omega), hffit, hfsnd, hnil, hS4, hSf4, hG4, q74, Lib.hid hEnd1.out.2⟩
            · have hde : d = p.right.length := by have := hd.out; omega
              subst hde
              clear c0 c1 c2 c3 c4 c5
              have hgr3 : Hid (if gr then tot fs < tot fs' else fs' = fs ∧ ∀ q ∈ g.prods.take (j + 1), UseC k ss fs q q.right.length) := Lib.hid (by
                have := hgr.out
                cases gr
                · simp only [Bool.false_eq_true, if_false] at this ⊢
                  refine ⟨this.1, fun q hq => ?_⟩
                  rw [htk.out] at hq
                  rcases List.mem_append.1 hq with hq | hq
                  · exact this.2.1 q hq
                  · simp at hq; subst hq; exact this.2.2
                · simpa using this)
              go_wp2_with fail
              go_roundg (g.prods.length - (j + 1))
              case measure => have := hj.out; omega
              case rel => exact ⟨j + 1, fs', gr, by go_num, rfl, Lib.hid (by have := hj.out; omega), hffit, hfsnd, hnil, hS, hSf, hG, hgr3⟩
        · have hje : j = g.prods.length := by have := hj.out; omega
          subst hje
          have htl := Lib.hid (tot_le fs' (fun s hs => fit_len (asc_nodup (hS.asc s hs).1) (hffit.out s hs)))
          have hlen' := hS.1
          cases gr with
          | false =>
            have hgr2 := hgr.out
            simp only [Bool.false_eq_true, if_false] at hgr2
            obtain ⟨hse, hcl⟩ := hgr2
            subst hse
            have hclo : Hid (ClosedO g.prods k g.start ss fs') := Lib.hid ⟨by rw [hi0n.out]; exact hnil.out, fun p hp d s hd h16 z hz => hcl p (by rw [List.take_length]; exact hp) d s (List.getElem?_eq_some_iff.1 hd).1 hd h16 z hz⟩
            replace hcl := Lib.hid hcl
            go_wp2_with fail
            go_roundg (2 * (g.names.length * 4681 - tot fs'))
            case measure => have h1 := hgk.out; have h2 := htl.out; simp only [if_true] at h1; rw [hlen'] at h2; omega
            case rel => exact ⟨fs', false, rfl, Lib.hid (by have h2 := htl.out; rw [hlen'] at h2; simp; omega), Lib.hid (fun _ => hclo.out), hffit, hfsnd, hnil, hS, hSf, hG⟩
          | true =>
            have hgr2 := hgr.out
            simp only [if_true] at hgr2
            replace hgr2 := Lib.hid hgr2
            go_wp2_with fail
            go_roundg (2 * (g.names.length * 4681 - tot fs') + 1)
            case measure => have h1 := hgk.out; have h2 := htl.out; have h3 := hgr2.out; simp only [if_true] at h1; rw [hlen'] at h2; omega
            case rel => exact ⟨fs', true, rfl, Lib.hid (by have h2 := htl.out; rw [hlen'] at h2; simp; omega), Lib.hid (by simp), hffit, hfsnd, hnil, hS, hSf, hG⟩
end Go.Proofs.YtnnkfgekiaaehaaGreat

/- follow.uses: the places behind whose dot a wanted symbol stands. -/
namespace Go.Proofs.YtnnkfgekiaaehaaGreat
open Go.RowKit Go.Shelf
set_option linter.unusedVariables false
attribute [local go_sem] Oper.semAt_some

/-- the symbols of a right side from d on, with their places -/
def rowU (k d : Nat) : List Int → List (Nat × Nat × Int)
  | [] => []
  | s :: l => (k, d, s) :: rowU k (d + 1) l
/-- the symbols of productions from number k on -/
def prsU (k : Nat) : List PV → List (Nat × Nat × Int)
  | [] => []
  | p :: ps => rowU k 0 p.p.right ++ prsU (k + 1) ps
def usF (q : Int → Bool) (l : List (Nat × Nat × Int)) : List (Nat × Nat × Int) := l.filter fun u => q u.2.2
def usAll (q : Int → Bool) (vs : List PV) : List (Nat × Nat × Int) := usF q (prsU 0 vs)
theorem rowU_drop (k : Nat) (l : List Int) (d : Nat) (h : d < l.length) : rowU k d (l.drop d) = (k, d, l[d]) :: rowU k (d + 1) (l.drop (d + 1)) := by
  rw [List.drop_eq_getElem_cons h]; rfl
theorem prsU_drop (vs : List PV) (k : Nat) (h : k < vs.length) : prsU k (vs.drop k) = rowU k 0 vs[k].p.right ++ prsU (k + 1) (vs.drop (k + 1)) := by
  rw [List.drop_eq_getElem_cons h]; rfl
theorem rowU_mem {k : Nat} : ∀ {l : List Int} {d : Nat} {u : Nat × Nat × Int}, u ∈ rowU k d l ↔ u.1 = k ∧ d ≤ u.2.1 ∧ l[u.2.1 - d]? = some u.2.2
  | [], d, u => by simp [rowU]
  | s :: l, d, u => by
    rw [rowU, List.mem_cons, rowU_mem]
    obtain ⟨a, b, c⟩ := u
    constructor
    · rintro (h | ⟨h1, h2, h3⟩)
      · injection h with h1 h2; injection h2 with h2 h3; subst h1; subst h2; subst h3; simp
      · refine ⟨h1, by simp at *; omega, ?_⟩
        simp only at *
        rw [show b - d = (b - (d + 1)) + 1 by omega]
        simpa using h3
    · rintro ⟨h1, h2, h3⟩
      simp only at *
      by_cases e : b = d
      · left; subst e; simp at h3; rw [h1, h3]
      · right
        refine ⟨h1, by omega, ?_⟩
        rw [show b - d = (b - (d + 1)) + 1 by omega] at h3
        simpa using h3
theorem prsU_mem : ∀ {vs : List PV} {k : Nat} {u : Nat × Nat × Int}, u ∈ prsU k vs ↔ ∃ x, k ≤ u.1 ∧ vs[u.1 - k]? = some x ∧ x.p.right[u.2.1]? = some u.2.2
  | [], k, u => by simp [prsU]
  | p :: vs, k, u => by
    rw [prsU, List.mem_append, rowU_mem, prsU_mem]
    obtain ⟨a, b, c⟩ := u
    constructor
    · rintro (⟨h1, h2, h3⟩ | ⟨x, h1, h2, h3⟩)
      · simp only at *; subst h1; exact ⟨p, by omega, by simp, by simpa using h3⟩
      · simp only at *
        refine ⟨x, by omega, ?_, h3⟩
        rw [show a - k = (a - (k + 1)) + 1 by omega]; simpa using h2
    · rintro ⟨x, h1, h2, h3⟩
      simp only at *
      by_cases e : a = k
      · left; subst e; simp at h2; subst h2; exact ⟨rfl, by omega, by simpa using h3⟩
      · right
        refine ⟨x, by omega, ?_, h3⟩
        rw [show a - k = (a - (k + 1)) + 1 by omega] at h2; simpa using h2
/-- a use -/
def UseT (q : Int → Bool) (vs : List PV) : Type := { u : Nat × Nat × Int // u ∈ usAll q vs }
def encU {q : Int → Bool} {vs : List PV} (x : UseT q vs) : Array Value := #[.agg #[.int .i64 (x.1.1 : Int), .int .i64 (x.1.2.1 : Int)], .int .i64 x.1.2.2]

def mkUse {q : Int → Bool} {vs : List PV} (u : Nat × Nat × Int) (h : u ∈ usAll q vs) : UseT q vs := ⟨u, h⟩
/-- what the closure reads -/
def USt (n₀ B1 B2 : Nat) (A : Option Addr) (len cap : Nat) (vs : List PV) (fv : Value) (W : World) : Prop :=
  W.cell? ⟨B1, 5, none⟩ = some (.slice A len cap) ∧ W.cell? ⟨B2, 0, none⟩ = some fv ∧ RdV W n₀ A len vs ∧ (∀ x ∈ vs, PVok W n₀ x) ∧ n₀ ≤ W.heap.size
theorem USt.step {n₀ B1 B2 : Nat} {A : Option Addr} {len cap : Nat} {vs : List PV} {fv : Value} {W W' : World} (h : USt n₀ B1 B2 A len cap vs fv W) (hb : Below W.heap.size W W') : USt n₀ B1 B2 A len cap vs fv W' :=
  ⟨cell_later hb h.1, cell_later hb h.2.1, h.2.2.1.below (hb.mono h.2.2.2.2), fun x hx => (h.2.2.2.1 x hx).below (hb.mono h.2.2.2.2), Nat.le_trans h.2.2.2.2 hb.size⟩

set_option maxRecDepth 100000 in
set_option maxHeartbeats 4000000 in
theorem uses1_in (q : Int → Bool) (fg : Nat) (fb : Array Value) (Kp : World → World → Prop) (E : World → Prop) (n : Nat) (hn : 1 ≤ n) (l B1 B2 n₀ : Nat) (A : Option Addr) (len cap : Nat) (vs : List PV) (hlen : len ≤ 1000000) (hrl : ∀ x ∈ vs, x.p.right.length ≤ 1000000)
    (hKS : ∀ X Y, Kp X Y → USt n₀ B1 B2 A len cap vs (.func (.func fg) #[] fb) X → USt n₀ B1 B2 A len cap vs (.func (.func fg) #[] fb) Y) (hKE : ∀ X Y, Kp X Y → E X → E Y) (hEb : ∀ X Y, Below X.heap.size X Y → E X → E Y) (hKz : ∀ X Y, Kp X Y → X.heap.size ≤ Y.heap.size)
    (eg : ∀ args w, (callFunc fg args).run Tryz.prog w = .ok (.enter fg args) w)
    (hF : ∀ s W, E W → CallsIn Fence.wide (n - 1) Tryz.prog fg (#[.int .i64 s] ++ fb) W fun e W' => e = .returned (.bool (q s)) ∧ W = W')
    (J Jx : List (UseT q vs) → World → Prop)
    (hY : ∀ pre x W, J pre W → pre.length < (usAll q vs).length → YieldAt Fence.wide (n - 1) Tryz.prog l (encU x) W fun e W' =>
      (e = .returned (.bool true) ∧ J (pre ++ [x]) W' ∧ Kp W W') ∨ (e = .returned (.bool false) ∧ Jx (pre ++ [x]) W'))
    (W : World) (hJ : AbidesFrom W.heap.size J) (hSt : USt n₀ B1 B2 A len cap vs (.func (.func fg) #[] fb) W) (hE : E W) (h0 : J [] W) :
    CallsIn Fence.wide n Tryz.prog 99 #[.func (.yield l) #[] #[], .pointer (some ⟨B1, 0, none⟩), .pointer (some ⟨B2, 0, none⟩)] W fun e W' => (∃ v, e = .returned v) ∧
      ((∃ ys : List (UseT q vs), ys.map (·.1) = usAll q vs ∧ J ys W') ∨ (∃ pre : List (UseT q vs), (∃ rest, usAll q vs = pre.map (·.1) ++ rest) ∧ Jx pre W')) := by
  have hvl : vs.length = len := hSt.2.2.1.1
  have hJ' := Lib.hid hJ
  have hrl' := Lib.hid hrl
  have c5 := hSt.1
  clear hrl hJ
  refine callsIn_of_wp Tryz.func99 rfl trivial ?_ rfl
  simp only [Tryz.ntmps99, List.size_toArray, List.length_cons, List.length_nil, Nat.reduceAdd, Nat.reduceSub, Array.replicate_succ, Array.replicate_zero, List.push_toArray, List.append_toArray, List.nil_append, List.cons_append]
  gi_wp2
  gi_loopw [11] (fun i wr => ∃ (k : Nat) (done : List (Nat × Nat × Int)) (pre : List (UseT q vs)), k ≤ len ∧ i = .int .i64 k ∧ Hid (prsU 0 vs = done ++ prsU k (vs.drop k)) ∧ Hid (pre.map (·.1) = usF q done) ∧ J pre wr ∧ USt n₀ B1 B2 A len cap vs (.func (.func fg) #[] fb) wr ∧ E wr ∧ W.heap.size ≤ wr.heap.size)
    (fun i _ => len - (intOf i).toNat)
  case atStart => exact ⟨0, [], [], Nat.zero_le _, rfl, Lib.hid (by simp), Lib.hid (by simp [usF]), h0, hSt, hE, Nat.le_refl _⟩
  case round =>
    clear hSt hE h0
    obtain ⟨k, done, pre, hk, rfl, hdn, hpre, hJs, hSt, hE, hge⟩ := hrel
    by_cases hlt : k < len
    · have hkl : k < vs.length := by omega
      rcases hSt.2.2.1.2 with hz | ⟨b, off, rfl, hb, hcs⟩
      · omega
      obtain ⟨x0, x1⟩ := hcs k vs[k] (List.getElem?_eq_getElem hkl)
      have hpd := Lib.hid (prsU_drop vs k hkl)
      have hxm : vs[k] ∈ vs := List.getElem_mem hkl
      have hxr := hrl'.out _ hxm
      generalize vs[k] = x at *
      obtain ⟨⟨pl, pr⟩, ra, rc⟩ := x
      dsimp only at x0 x1 hpd hxr
      clear hcs
      have hbl : Below wr.heap.size wr (wr.alloc (.cells #[.int .i64 pl, .slice ra pr.length rc] 47)) := bAlc (Below.refl _ _) _
      have hJ1 := hJ'.out _ _ _ none hJs (World.grownBy_alloc wr (.cells #[.int .i64 pl, .slice ra pr.length rc] 47) none) (by simp)
      have hSt1 := hSt.step hbl
      have hE1 := hEb _ _ hbl hE
      have hge1 : W.heap.size ≤ (wr.alloc (.cells #[.int .i64 pl, .slice ra pr.length rc] 47)).heap.size := Nat.le_trans hge hbl.size
      have hz1 : (0 : Int) ≤ k := by omega
      have hz2 : (k : Int) < len := by omega
      gi_wp2
      clear hJs hSt hE hge hbl x0 x1
      generalize wr.alloc (.cells #[.int .i64 pl, .slice ra pr.length rc] 47) = W1 at *
      gi_loopw [19] (fun i wr => ∃ (d : Nat) (done : List (Nat × Nat × Int)) (pre : List (UseT q vs)), d ≤ pr.length ∧ i = .int .i64 d ∧ Hid (prsU 0 vs = done ++ (rowU k d (pr.drop d) ++ prsU (k + 1) (vs.drop (k + 1)))) ∧ Hid (pre.map (·.1) = usF q done) ∧ J pre wr ∧ USt n₀ B1 B2 (some ⟨b, off, none⟩) len cap vs (.func (.func fg) #[] fb) wr ∧ E wr ∧ W.heap.size ≤ wr.heap.size)
        (fun i _ => pr.length - (intOf i).toNat)
      case atStart => exact ⟨0, done, pre, Nat.zero_le _, rfl, Lib.hid (by rw [hdn.out, hpd.out]; simp), hpre, hJ1, hSt1, hE1, hge1⟩
      case round =>
        clear hJ1 hSt1 hE1 hge1 hdn hpre
        obtain ⟨d, done, pre, hd, rfl, hdn, hpre, hJs, hSt, hE, hge⟩ := hrel
        by_cases hdt : d < pr.length
        · have hsi : (ints pr)[d]? = some (.int .i64 pr[d]) := by simp [ints, hdt]
          obtain ⟨rb, roff, hra, hrb, y0⟩ := (hSt.2.2.2.1 _ hxm).1.get hsi
          dsimp only at hra
          subst hra
          have hrd := Lib.hid (rowU_drop k pr d hdt)
          have hfc := hSt.2.1
          generalize hss : pr[d] = s at *
          replace hss := Lib.hid hss
          replace hsi := Lib.hid hsi
          replace hdn := Lib.hid (show prsU 0 vs = (done ++ [(k, d, s)]) ++ (rowU k (d + 1) (pr.drop (d + 1)) ++ prsU (k + 1) (vs.drop (k + 1))) by rw [hdn.out, hrd.out]; simp)
          have hz3 : (0 : Int) ≤ d := by omega
          have hz4 : (d : Int) < pr.length := by omega
          have hc := Lib.hid (hF s wr hE)
          cases hq : q s with
          | false =>
            have hpre2 : Hid (pre.map (·.1) = usF q (done ++ [(k, d, s)])) := Lib.hid (by rw [hpre.out]; unfold usF; rw [List.filter_append]; simp [hq])
            rw [hq] at hc
            replace hq := Lib.hid hq
            gi_wp2
            refine ⟨trivial, hc.out.mono ?_⟩
            rintro e w3 ⟨rfl, rfl⟩
            gi_wp2
            refine ⟨fun _ h => (by cases h), ?_⟩
            gi_wp2
            go_roundw
            case rel => exact ⟨d + 1, done ++ [(k, d, s)], pre, by omega, by simp, hdn, hpre2, hJs, hSt, hE, hge⟩
            case measure => simp [intOf]; omega
          | true =>
            have hpre2 : Hid (usF q (done ++ [(k, d, s)]) = usF q done ++ [(k, d, s)]) := Lib.hid (by unfold usF; rw [List.filter_append]; simp [hq])
            have hall : usAll q vs = usF q (done ++ [(k, d, s)]) ++ usF q (rowU k (d + 1) (pr.drop (d + 1)) ++ prsU (k + 1) (vs.drop (k + 1))) := by
              unfold usAll; rw [hdn.out]; unfold usF; rw [List.filter_append]
            have hmem : (k, d, s) ∈ usAll q vs := by rw [hall, hpre2.out]; simp
            have hlen2 : pre.length < (usAll q vs).length := by
              have := congrArg List.length hpre.out
              rw [hall, hpre2.out]; simp at this ⊢; omega
            obtain ⟨fn, tmps, assign, body, hy, hR2⟩ := hY pre (mkUse (k, d, s) hmem) wr hJs hlen2
            dsimp only [encU, mkUse] at hy
            have hpre3 : Hid ((pre ++ [mkUse (k, d, s) hmem]).map (·.1) = usF q (done ++ [(k, d, s)])) := Lib.hid (by rw [List.map_append, hpre.out, hpre2.out]; rfl)
            replace hall := Lib.hid hall
            rw [hq] at hc
            replace hq := Lib.hid hq
            gi_wp2
            refine ⟨trivial, hc.out.mono ?_⟩
            rintro e w3 ⟨rfl, rfl⟩
            gi_wp2
            refine hR2.mono ?_
            rintro e W3 (⟨rfl, hJ3, hk3⟩ | ⟨rfl, hJx3⟩)
            · gi_wp2
              go_roundw
              case rel => exact ⟨d + 1, done ++ [(k, d, s)], _, by omega, by simp, hdn, hpre3, hJ3, hKS _ _ hk3 hSt, hKE _ _ hk3 hE, Nat.le_trans hge (hKz _ _ hk3)⟩
              case measure => simp [intOf]; omega
            · gi_wp2
              refine bodyPost_ret (results_none rfl _ _ _) rfl ?_
              exact ⟨⟨_, rfl⟩, .inr ⟨_, ⟨_, by rw [hpre3.out]; exact hall.out⟩, hJx3⟩⟩
        · have hdn2 : Hid (prsU 0 vs = done ++ prsU (k + 1) (vs.drop (k + 1))) := Lib.hid (by
            rw [hdn.out, List.drop_eq_nil_of_le (by omega)]; rfl)
          gi_wp2
          go_roundw
          case rel => exact ⟨k + 1, done, pre, by omega, by simp, hdn2, hpre, hJs, hSt, hE, hge⟩
          case measure => simp [intOf]; omega
    · have hend : pre.map (·.1) = usAll q vs := by
        rw [hpre.out]; unfold usAll; rw [hdn.out, List.drop_eq_nil_of_le (by omega)]
        show usF q done = usF q (done ++ [])
        rw [List.append_nil]
      replace hend := Lib.hid hend
      gi_wp2
      go_end0
      exact ⟨⟨_, rfl⟩, .inl ⟨_, hend.out, hJs⟩⟩

theorem uses_stops (q : Int → Bool) (fg : Nat) (fb : Array Value) (Kp : World → World → Prop) (E : World → Prop) (n : Nat) (hn : 1 ≤ n) (B1 B2 n₀ : Nat) (A : Option Addr) (len cap : Nat) (vs : List PV) (hlen : len ≤ 1000000) (hrl : ∀ x ∈ vs, x.p.right.length ≤ 1000000) (w : World)
    (hKS : ∀ X Y, Kp X Y → USt n₀ B1 B2 A len cap vs (.func (.func fg) #[] fb) X → USt n₀ B1 B2 A len cap vs (.func (.func fg) #[] fb) Y) (hKE : ∀ X Y, Kp X Y → E X → E Y) (hEb : ∀ X Y, Below X.heap.size X Y → E X → E Y) (hKz : ∀ X Y, Kp X Y → X.heap.size ≤ Y.heap.size)
    (eg : ∀ args w, (callFunc fg args).run Tryz.prog w = .ok (.enter fg args) w)
    (hF : ∀ s W, E W → CallsIn Fence.wide (n - 1) Tryz.prog fg (#[.int .i64 s] ++ fb) W fun e W' => e = .returned (.bool (q s)) ∧ W = W')
    (hSt : USt n₀ B1 B2 A len cap vs (.func (.func fg) #[] fb) w) (hE : E w) :
    SeqStopsK Fence.wide n Tryz.prog 99 #[.pointer (some ⟨B1, 0, none⟩), .pointer (some ⟨B2, 0, none⟩)] encU Kp (fun ys : List (UseT q vs) => ys.map (·.1) = usAll q vs) (fun pre => ∃ rest, usAll q vs = pre.map (·.1) ++ rest) (usAll q vs).length w :=
  fun l J Jx W hW hJ _ hY h0 =>
    uses1_in q fg fb Kp E n hn l B1 B2 n₀ A len cap vs hlen hrl hKS hKE hEb hKz eg hF J Jx hY W hJ (hSt.step hW) (hEb _ _ hW hE) h0

theorem isnont_any (s : Int) (w : World) : Calls Tryz.prog 69 #[.int .i64 s] w fun e w' => e = .returned (.bool (decide (16 ≤ s))) ∧ w = w' := by
  go_enter Tryz.func69, Tryz.ntmps69
  go_wp2_with fail
  go_ret
  exact ⟨rfl, rfl⟩

/-- what uses hands back -/
def RetU (w : World) (g : Gr) (a : GA) (fv : Value) (e : Ending) (w' : World) : Prop :=
  e = .returned (.func (.func 99) #[] #[.pointer (some ⟨w.heap.size, 0, none⟩), .pointer (some ⟨w.heap.size + 1, 0, none⟩)]) ∧ w' = (w.alloc (.cells (gcells g a) 25)).alloc (.cells #[fv] 98)
theorem mkuses_any (g : Gr) (a : GA) (fg : Nat) (fb : Array Value) (w : World) : Calls Tryz.prog 57 #[gval g a, .func (.func fg) #[] fb] w (RetU w g a (.func (.func fg) #[] fb)) := by
  have hP := Lib.hid (show RetU w g a (.func (.func fg) #[] fb) (.returned (.func (.func 99) #[] #[.pointer (some ⟨w.heap.size, 0, none⟩), .pointer (some ⟨w.heap.size + 1, 0, none⟩)])) ((w.alloc (.cells (gcells g a) 25)).alloc (.cells #[.func (.func fg) #[] fb] 98)) from ⟨rfl, rfl⟩)
  unfold gval gcells at *
  go_enter Tryz.func57, Tryz.ntmps57
  go_wp2_with fail
  go_ret
  exact hP.out
end Go.Proofs.YtnnkfgekiaaehaaGreat

/- A drawn region that calls and lays blocks, inside a round of a range over a function. -/
namespace Go
section
variable {P : Program} {ops : Array Oper} {md : Region.Mode} {n l : Nat}

/-- a post that lets nothing but the ordinary end pass -/
def OnlyN (R : Act → World → Prop) : Exit → Act → World → Prop := fun e a w => e = .normal ∧ R a w
theorem not_letsOut (R : Act → World → Prop) : ¬ LetsOut (OnlyN R) := fun ⟨_, _, h, _⟩ => by cases h

theorem rowsIn_of_rows {row : String} {args : Array Value} {w : World} {R : Value → World → Prop} (h : Rows P row args w R) : RowsIn (Fence.wide.inRound l) n P row args w R :=
  fun c cs _ => let ⟨v, w', r, s⟩ := h c cs; ⟨v, w', r, stepsIn_wide.2 s⟩

theorem Oper.wpIn_of_wpR {o : Oper} {a : Act} {w : World} {K : Act → World → Prop} {R : Act → World → Prop} (hd : ∀ c, o.op ≠ .defer c) (h : o.wp P a w K (OnlyN R)) :
    o.wpIn (Fence.wide.inRound l) n P a w K (OnlyN R) := by
  unfold Oper.wp at h
  unfold Oper.wpIn
  refine ⟨fun _ _ => trivial, ?_⟩
  rw [Fence.inRound_round, Oper.semAt_some l _ _ hd]
  generalize (execOp a.eval o).run P w = r at *
  cases r with
  | ok x w' =>
    cases x <;> simp only [Oper.upon] at h <;> simp only [Oper.uponIn]
    case value v => exact h
    case skip => exact h
    case defer d => exact h
    case enter f args =>
      refine ⟨fun h0 => absurd h0 (by simp [Fence.wide]), CallsIn.inRound l (callsIn_wide.2 (h.mono fun e w'' he => ?_))⟩
      cases e with
      | returned v => exact he
      | panicked c => exact he
      | outgrown => exact he
    case row row args => exact ⟨fun h0 => absurd h0 (by simp [Fence.wide]), rowsIn_of_rows h⟩
  | halt x w' =>
    cases x <;> simp only [Oper.upon] at h <;> simp only [Oper.uponIn] <;> exact h

theorem wpOpIn_of_wpOpR {i : Nat} {a : Act} {w : World} {K K' : Act → World → Prop} {R : Act → World → Prop} (hnd : noDefer ops = true) (hK : ∀ a w, K a w → K' a w) (h : wpOp P ops (OnlyN R) i K a w) :
    wpOpIn (Fence.wide.inRound l) n P ops (OnlyN R) i K' a w := by
  unfold wpOp at h
  unfold wpOpIn
  split
  · rename_i ho; simp only [ho] at h; exact hK _ _ h
  · rename_i o ho
    simp only [ho] at h
    split
    · rename_i hw
      simp only [hw, if_true] at h
      rcases h with h | h
      · exact Oper.wpIn_mono (fun a w h => hK a w h) (Oper.wpIn_of_wpR (noDefer_spec hnd i o ho) h)
      · exact absurd h.2 (not_letsOut R)
    · rename_i hw
      simp only [hw] at h
      exact ⟨fun _ _ => trivial, hK _ _ h⟩

theorem wpAnyIn_of_wpAnyR {R : Act → World → Prop} (hnd : noDefer ops = true) : ∀ (fuel : Nat) (listed : Array Bool) (a : Act) (w : World),
    wpAny P md ops (OnlyN R) fuel listed a w → wpAnyIn (Fence.wide.inRound l) n P md ops (OnlyN R) fuel listed a w
  | 0, _, _, _, h => h
  | fuel + 1, _, _, _, h => ⟨h.1, fun i hi => wpOpIn_of_wpOpR hnd (fun a' w' h' => wpAnyIn_of_wpAnyR hnd fuel _ a' w' h') (h.2 i hi)⟩

theorem wpIn_region_held_drewR {id : Nat} {a : Act} {w : World} {S : World → Prop} {Q : Exit → Act → World → Prop} (hnd : noDefer ops = true) (hm : P.follows .mixedOrders = true) (hS : S w.drew)
    (h : S w.drew → wpAnyH P .any ops (OnlyN (Q .normal)) S ops.size (Array.replicate ops.size false) a w.drew) : (Code.region id ops true).wpIn (Fence.wide.inRound l) n P Q a w :=
  wpIn_mono (wpIn_region_any hm (wpAnyIn_of_wpAnyR hnd _ _ _ _ (wpAny_of_held _ _ _ _ (h hS)))) (fun e a w h => by obtain ⟨rfl, h⟩ := h; exact h)
end

end Go

/- follow.all: what stands in memory; the marks of the loops. -/
namespace Go.Proofs.YtnnkfgekiaaehaaGreat
open Go.RowKit Go.Shelf
set_option linter.unusedVariables false

/-- the marks that loops over a function leave -/
def marks (Ds : List Nat) : List Deferred := Ds.map fun D => { target := .collected D, args := #[] }
def MarksOk (W : World) (lo : Nat) (Ds : List Nat) : Prop := Ds.Nodup ∧ ∀ D ∈ Ds, lo ≤ D ∧ W.heap[D]? = some (.deferred (some []))
theorem leaves_marks {P : Program} {F : Fence} {n : Nat} {fn : Func} {tmps : Array Value} {R : Ending → World → Prop} : ∀ (Ds : List Nat) (W : World) (lo : Nat), MarksOk W lo Ds →
    (∀ W', Below lo W W' → (∀ j, j ∉ Ds → W'.heap[j]? = W.heap[j]?) → LeavesIn F n P fn tmps R [] .returning W') → LeavesInM F n P fn tmps R (marks Ds) .returning W
  | [], W, lo, _, h => h W (Below.refl _ _) (fun _ _ => rfl)
  | D :: Ds, W, lo, hm, h => by
    have hnd := List.nodup_cons.1 hm.1
    have hD := hm.2 D List.mem_cons_self
    refine ⟨by simp, .inl ⟨_, _, rfl, run_takeDeferred hD.2, ?_⟩⟩
    have hb : Below lo W (W.putObj D (.deferred none)) := ⟨rfl, rfl, rfl, by simp, fun k hk => World.putObj_heap_other (by omega)⟩
    refine leaves_marks Ds _ lo ⟨hnd.2, fun D' h' => ?_⟩ fun W' hb' hj => h W' (hb.trans hb') fun j hjd => ?_
    · have := hm.2 D' (List.mem_cons_of_mem _ h')
      exact ⟨this.1, (World.putObj_heap_other (fun e => hnd.1 (by subst e; exact h'))).trans this.2⟩
    · exact (hj j (fun h => hjd (List.mem_cons_of_mem _ h))).trans (World.putObj_heap_other (fun e => hjd (by subst e; exact List.mem_cons_self)))

/-- sets in maps that are named -/
def SetsM (W : World) (bo n : Nat) (mbs : List Nat) (ss : List (List Lk)) : Prop :=
  ∃ cs : Array Value, Blk W bo 69 cs ∧ cs.size = n ∧ mbs.length = ss.length ∧ ∀ (i m : Nat) (s : List Lk), mbs[i]? = some m → ss[i]? = some s → cs[i]? = some (.map (some m)) ∧ MapK lookKey W m s
theorem SetsO.toM {W : World} {base bo n : Nat} {ss : List (List Lk)} (h : SetsO W base bo n ss) : ∃ mbs, SetsM W bo n mbs ss ∧ mbs.Nodup ∧ ∀ m ∈ mbs, base ≤ m ∧ m < W.heap.size := by
  obtain ⟨cs, mbs, h1, h2, h3, h4, h5, h6⟩ := h
  exact ⟨mbs, ⟨cs, h1, h2, h3, h6⟩, h4, h5⟩
theorem SetsM.toO {W : World} {base bo n : Nat} {mbs : List Nat} {ss : List (List Lk)} (h : SetsM W bo n mbs ss) (h4 : mbs.Nodup) (h5 : ∀ m ∈ mbs, base ≤ m ∧ m < W.heap.size) : SetsO W base bo n ss := by
  obtain ⟨cs, h1, h2, h3, h6⟩ := h
  exact ⟨cs, mbs, h1, h2, h3, h4, h5, h6⟩
theorem SetsM.grown {W W' : World} {bo n : Nat} {mbs : List Nat} {ss : List (List Lk)} (h : SetsM W bo n mbs ss) {row : Option Nat} (hg : W.grownBy W' row) (h1 : row ≠ some bo) (h2 : ∀ m ∈ mbs, row ≠ some m) : SetsM W' bo n mbs ss := by
  obtain ⟨cs, a, b, c, d⟩ := h
  exact ⟨cs, a.grown hg (Ne.symm h1), b, c, fun i m s e f => ⟨(d i m s e f).1, (d i m s e f).2.grown hg (Ne.symm (h2 m (List.mem_of_getElem? e)))⟩⟩
theorem SetsM.step {W W' : World} {bo n : Nat} {mbs : List Nat} {ss : List (List Lk)} (h : SetsM W bo n mbs ss) (hb : Below W.heap.size W W') : SetsM W' bo n mbs ss := by
  obtain ⟨cs, a, b, c, d⟩ := h
  exact ⟨cs, a.step hb, b, c, fun i m s e f => ⟨(d i m s e f).1, (d i m s e f).2.step hb⟩⟩
theorem SetsM.get {W : World} {bo n : Nat} {mbs : List Nat} {ss : List (List Lk)} (h : SetsM W bo n mbs ss) {i : Nat} (hi : i < ss.length) : ∃ m, mbs[i]? = some m ∧ W.cell? ⟨bo, i, none⟩ = some (.map (some m)) ∧ MapK lookKey W m (ss.getD i []) ∧ m ≠ bo := by
  obtain ⟨cs, a, b, c, d⟩ := h
  have him : i < mbs.length := by omega
  obtain ⟨e, f⟩ := d i mbs[i] ss[i] (List.getElem?_eq_getElem him) (List.getElem?_eq_getElem hi)
  exact ⟨mbs[i], List.getElem?_eq_getElem him, by rw [a.cell]; exact e, by simpa [List.getD_eq_getElem?_getD, hi] using f, mapk_blk f a⟩
theorem SetsM.nodups {W : World} {bo n : Nat} {mbs : List Nat} {ss : List (List Lk)} (h : SetsM W bo n mbs ss) : ∀ s ∈ ss, s.Nodup := by
  obtain ⟨cs, a, b, c, d⟩ := h
  intro s hs
  obtain ⟨i, hi, rfl⟩ := List.getElem_of_mem hs
  have him : i < mbs.length := by omega
  obtain ⟨_, es, clock, _, _, _, _, hn, _⟩ := d i mbs[i] ss[i] (List.getElem?_eq_getElem him) (List.getElem?_eq_getElem hi)
  exact hn
theorem SetsM.put {W W' : World} {bo n : Nat} {mbs : List Nat} {ss : List (List Lk)} (h : SetsM W bo n mbs ss) (hnd : mbs.Nodup) {i m : Nat} {c : List Lk} (hi : i < ss.length) (hm : mbs[i]? = some m)
    (hg : ∀ b, b < W.heap.size → b ≠ m → (b = bo ∨ b ∈ mbs) → W'.heap[b]? = W.heap[b]?) (hM : MapK lookKey W' m c) : SetsM W' bo n mbs (ss.set i c) := by
  obtain ⟨cs, a, b, e, d⟩ := h
  have him : i < mbs.length := by omega
  have hmv : mbs[i] = m := by rw [List.getElem?_eq_getElem him] at hm; injection hm
  have hmbo : m ≠ bo := by
    have := (d i mbs[i] ss[i] (List.getElem?_eq_getElem him) (List.getElem?_eq_getElem hi)).2
    rw [hmv] at this
    exact mapk_blk this a
  refine ⟨cs, (hg bo a.lt (Ne.symm hmbo) (.inl rfl)).trans a, b, by simpa using e, ?_⟩
  intro j m' s hmj hsj
  by_cases hij : i = j
  · subst hij
    rw [hm] at hmj
    injection hmj with hmj
    subst hmj
    rw [List.getElem?_set_self hi] at hsj
    injection hsj with hsj
    subst hsj
    exact ⟨(d i m ss[i] hm (List.getElem?_eq_getElem hi)).1, hM⟩
  · rw [List.getElem?_set_ne hij] at hsj
    obtain ⟨a2, es, clock, b2, b3⟩ := d j m' s hmj hsj
    refine ⟨a2, es, clock, (hg m' (Array.getElem?_eq_some_iff.1 b2).1 ?_ (.inr (List.mem_of_getElem? hmj))).trans b2, b3⟩
    rintro rfl
    have hjm := (List.getElem?_eq_some_iff.1 hmj).1
    have e2 : mbs[j] = m' := by rw [List.getElem?_eq_getElem hjm] at hmj; injection hmj
    exact hij ((List.getElem_inj hnd).1 (by rw [e2, hmv]))
theorem SetsM.reads {W : World} {bo n : Nat} {mbs : List Nat} {ss : List (List Lk)} (h : SetsM W bo n mbs ss) (hn : ss.length = n) : SetsR W W.heap.size (some ⟨bo, 0, none⟩) n ss := by
  obtain ⟨cs, a, b, c, d⟩ := h
  refine ⟨hn, .inr ⟨bo, 0, rfl, a.lt, fun i s hs => ?_⟩⟩
  have hi := (List.getElem?_eq_some_iff.1 hs).1
  have him : i < mbs.length := by omega
  obtain ⟨e, f⟩ := d i mbs[i] s (List.getElem?_eq_getElem him) hs
  exact ⟨mbs[i], f.lt, by rw [Nat.zero_add, a.cell]; exact e, f⟩
theorem SetsM.marks {W W' : World} {bo n lo : Nat} {mbs Ds : List Nat} {ss : List (List Lk)} (h : SetsM W bo n mbs ss) (hm : MarksOk W lo Ds) (hj : ∀ j, j ∉ Ds → W'.heap[j]? = W.heap[j]?) : SetsM W' bo n mbs ss := by
  obtain ⟨cs, a, b, c, d⟩ := h
  refine ⟨cs, (hj bo fun hb => ?_).trans a, b, c, fun i m s e f => ?_⟩
  · have := (hm.2 bo hb).2
    unfold Blk at a
    rw [a] at this; cases this
  · obtain ⟨a2, es, clock, b2, b3⟩ := d i m s e f
    refine ⟨a2, es, clock, (hj m fun hb => ?_).trans b2, b3⟩
    have := (hm.2 m hb).2
    rw [b2] at this; cases this
theorem SetsR.mono {W : World} {B B' : Nat} {A : Option Addr} {n : Nat} {ss : List (List Lk)} (h : SetsR W B A n ss) (hb : B ≤ B') : SetsR W B' A n ss := by
  refine ⟨h.1, ?_⟩
  rcases h.2 with h0 | ⟨b, off, rfl, hlt, hc⟩
  · exact .inl h0
  · refine .inr ⟨b, off, rfl, by omega, fun i s hs => ?_⟩
    obtain ⟨mb, h1, h2⟩ := hc i s hs
    exact ⟨mb, by omega, h2⟩

theorem GB.low {w : World} {g : Gr} {a : GA} {W W' : World} {lo : Nat} (h : GB w g a W) (hlo : w.heap.size < lo) (hb : Below lo W W') : GB w g a W' :=
  ⟨h.1.below hb hlo, h.2.1.below (hb.mono (by omega)), h.2.2.trans (hb.mono (by omega))⟩
/-- what all has laid, and what lies below it -/
def AF (w : World) (g : Gr) (a : GA) (n bo fo : Nat) (ss : List (List Lk)) (W : World) : Prop :=
  GB w g a W ∧ Blk W (w.heap.size + 1) 65 #[.slice (some ⟨fo, 0, none⟩) n n] ∧ Blk W (w.heap.size + 2) 65 #[.slice (some ⟨bo, 0, none⟩) n n] ∧ SetsR W fo (some ⟨bo, 0, none⟩) n ss ∧ w.heap.size + 2 < fo ∧ fo ≤ W.heap.size
theorem AF.low {w : World} {g : Gr} {a : GA} {n bo fo : Nat} {ss : List (List Lk)} {W W' : World} (h : AF w g a n bo fo ss W) (hb : Below fo W W') : AF w g a n bo fo ss W' := by
  obtain ⟨h1, h2, h3, h4, h5, h6⟩ := h
  exact ⟨h1.low (by omega) hb, h2.below hb (by omega), h3.below hb (by omega), h4.below hb, h5, Nat.le_trans h6 hb.size⟩
theorem AF.step {w : World} {g : Gr} {a : GA} {n bo fo : Nat} {ss : List (List Lk)} {W W' : World} (h : AF w g a n bo fo ss W) (hb : Below W.heap.size W W') : AF w g a n bo fo ss W' := h.low (hb.mono h.2.2.2.2.2)
theorem below_of_grown {X Y : World} {row : Option Nat} {lo : Nat} (hg : X.grownBy Y row) (hr : ∀ r, row = some r → lo ≤ r) (hlo : lo ≤ X.heap.size) : Below lo X Y :=
  ⟨hg.os, hg.tape, hg.output, hg.size, fun k hk => hg.block k (by omega) (fun e => by have := hr k e.symm; omega)⟩

/-- the world W, but for the map mb and the block b5, and what was made since -/
structure KX (W : World) (mb b5 : Nat) (w' : World) : Prop where
  os : w'.os = W.os
  tape : w'.tape = W.tape
  output : w'.output = W.output
  size : W.heap.size ≤ w'.heap.size
  block : ∀ i, i < W.heap.size → i ≠ mb → i ≠ b5 → w'.heap[i]? = W.heap[i]?
theorem KX.refl (W : World) (mb b5 : Nat) : KX W mb b5 W := ⟨rfl, rfl, rfl, Nat.le_refl _, fun _ _ _ _ => rfl⟩
theorem KX.drew {W w1 : World} {mb b5 : Nat} (h : KX W mb b5 w1) : KX W mb b5 w1.drew := ⟨h.os, h.tape, h.output, h.size, h.block⟩
theorem KX.step {W w1 w2 : World} {mb b5 : Nat} (h : KX W mb b5 w1) (hb : Below w1.heap.size w1 w2) : KX W mb b5 w2 :=
  ⟨hb.os.trans h.os, hb.tape.trans h.tape, hb.output.trans h.output, Nat.le_trans h.size hb.size, fun i h1 h2 h3 => (hb.block i (Nat.lt_of_lt_of_le h1 h.size)).trans (h.block i h1 h2 h3)⟩
theorem KX.alloc {W w1 : World} {mb b5 : Nat} (h : KX W mb b5 w1) (o : Obj) : KX W mb b5 (w1.alloc o) := h.step (bAlc (Below.refl _ _) _)
theorem KX.grown {W w1 w2 : World} {mb b5 : Nat} (h : KX W mb b5 w1) (hg : w1.grownBy w2 (some mb)) : KX W mb b5 w2 :=
  ⟨hg.os.trans h.os, hg.tape.trans h.tape, hg.output.trans h.output, Nat.le_trans h.size hg.size, fun i h1 h2 h3 => (hg.block i (Nat.lt_of_lt_of_le h1 h.size) (fun e => h2 (by injection e))).trans (h.block i h1 h2 h3)⟩
theorem KX.put {W w1 : World} {mb b5 : Nat} (h : KX W mb b5 w1) (i : Nat) (v : Value) : KX W mb b5 (w1.setCell ⟨b5, i, none⟩ v) :=
  ⟨h.os, h.tape, h.output, Nat.le_trans h.size (by simp), fun j h1 h2 h3 => (Below.heap_setCell w1 ⟨b5, i, none⟩ v j h3).trans (h.block j h1 h2 h3)⟩
theorem KX.low {W w1 : World} {mb b5 lo : Nat} (h : KX W mb b5 w1) (h1 : lo ≤ mb) (h2 : lo ≤ b5) (h3 : lo ≤ W.heap.size) : Below lo W w1 := ⟨h.os, h.tape, h.output, h.size, fun k hk => h.block k (by omega) (by omega) (by omega)⟩
theorem KX.keeps {W w1 : World} {mb b5 B : Nat} (h : KX W mb b5 w1) (h1 : mb < B) (h2 : b5 < B) : KeepsFrom B W w1 := ⟨h.size, fun k o hB hk _ => (h.block k (Array.getElem?_eq_some_iff.1 hk).1 (by omega) (by omega)).trans hk⟩
theorem KX.cell {W w1 : World} {mb b5 : Nat} (h : KX W mb b5 w1) {b o : Nat} {v : Value} (hc : W.cell? ⟨b, o, none⟩ = some v) (h1 : b ≠ mb) (h2 : b ≠ b5) : w1.cell? ⟨b, o, none⟩ = some v :=
  (World.cell?_of_block (a := ⟨b, o, none⟩) (h.block b (block_lt_of_cell hc) h1 h2)).trans hc
theorem KX.blk {W w1 : World} {mb b5 : Nat} (h : KX W mb b5 w1) {b : Nat} {t : TypeId} {cs : Array Value} (hc : Blk W b t cs) (h1 : b ≠ mb) (h2 : b ≠ b5) : Blk w1 b t cs := (h.block b hc.lt h1 h2).trans hc
theorem cell_not_map {W : World} {b o mb : Nat} {v : Value} {s : List Lk} (hc : W.cell? ⟨b, o, none⟩ = some v) (hm : MapK lookKey W mb s) : b ≠ mb := by
  rintro rfl
  obtain ⟨es, clock, hb, _⟩ := hm
  simp [World.cell?, hb] at hc

/-- what the rounds keep between two worlds -/
def KpU (lo B1 B2 : Nat) (X Y : World) : Prop := Below lo X Y ∧ Y.heap[B1]? = X.heap[B1]? ∧ Y.heap[B2]? = X.heap[B2]?
theorem KpU.trans {lo B1 B2 : Nat} {X Y Z : World} (h : KpU lo B1 B2 X Y) (k : KpU lo B1 B2 Y Z) : KpU lo B1 B2 X Z := ⟨h.1.trans k.1, k.2.1.trans h.2.1, k.2.2.trans h.2.2⟩
theorem KpU.put {lo B1 B2 B : Nat} (W : World) (l : Nat) (o' : Obj) (hl : B ≤ l) (h0 : lo ≤ B) (h1 : B1 < B) (h2 : B2 < B) : KpU lo B1 B2 W (W.putObj l o') :=
  ⟨⟨rfl, rfl, rfl, by simp, fun k hk => World.putObj_heap_other (by omega)⟩, World.putObj_heap_other (by omega), World.putObj_heap_other (by omega)⟩
theorem USt.kept {n₀ B1 B2 : Nat} {A : Option Addr} {len cap : Nat} {vs : List PV} {fv : Value} {W W' : World} (h : USt n₀ B1 B2 A len cap vs fv W) (hb : KpU n₀ B1 B2 W W') : USt n₀ B1 B2 A len cap vs fv W' :=
  ⟨(World.cell?_of_block (a := ⟨B1, 5, none⟩) hb.2.1).trans h.1, (World.cell?_of_block (a := ⟨B2, 0, none⟩) hb.2.2).trans h.2.1, h.2.2.1.below hb.1, fun x hx => (h.2.2.2.1 x hx).below hb.1, Nat.le_trans h.2.2.2.2 hb.1.size⟩
end Go.Proofs.YtnnkfgekiaaehaaGreat
