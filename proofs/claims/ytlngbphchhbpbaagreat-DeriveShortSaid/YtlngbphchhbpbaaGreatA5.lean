/- Walks and plain laws, part 5 of 7: derive.step; derive.Run; SameInts, SameLists; The chapter's example; SameLists; awake; reach.Lengths, derive.Least; less, ends of the law; what ends in terminals derives itself; The statements' own helper awake: the chapter's examples hold; SmallGrammar: what it lets by; The symbols of a grammar; Check of both sides; Check of both sides; Leftmost of both sides; Leftmost of both sides; slices.Clone; Step of both sides; derive.joined: the walk; derive.Shortest: the walk. Conditions: none beyond those that each theorem states. -/
import Derived.Test.YtlngbphchhbpbaaGreatA4
import Derived.Deep.RegionHeld3
/- derive.step. -/
namespace Go.Proofs.YtlngbphchhbpbaaGreat
open Go.ChangeShapes Go.WideShapes Go.ChangeAt Go.RowKit
set_option linter.unusedVariables false

/-- the production number p -/
def dprG (g : Gr) (p : Int) : Pr := g.prods.getD p.toNat default
/-- the error of a step -/
def dstE (g : Gr) (f : List Int) (p : Int) : Int :=
  if p < 0 ∨ (g.prods.length : Int) ≤ p then 2 else if f.length ≤ atN f then 7 else if (dprG g p).left ≠ f.getD (atN f) 0 then 24 else if 200 < (f.length : Int) - 1 + (dprG g p).right.length then 6 else 0
/-- the form behind a step -/
def dstL (g : Gr) (f : List Int) (p : Int) : List Int := f.take (atN f) ++ (dprG g p).right ++ f.drop (atN f + 1)
/-- a slice that reads as the numbers l -/
def RdI (W : World) (v : Value) (l : List Int) : Prop := ∃ A c, v = .slice A l.length c ∧ Rd1 W W.heap.size A l.length (ints l) ∧ l.length ≤ c ∧ c ≤ maxLen
theorem rd_take {W : World} {B : Nat} {A : Option Addr} {k : Nat} {l : List Int} (h : Rd1 W B A k (ints l)) (t : Nat) (ht : t ≤ k) : Rd1 W B A t (ints (l.take t)) := by
  have hl : l.length = k := by have := h.1; simpa [ints] using this
  refine ⟨by simp [ints]; omega, ?_⟩
  rcases h.2 with h0 | ⟨b, off, rfl, hb, hc⟩
  · left; omega
  · refine .inr ⟨b, off, rfl, hb, fun i u hu => hc i u ?_⟩
    simp only [ints, List.map_take] at hu ⊢
    have := (List.getElem?_eq_some_iff.1 hu).1
    rw [List.getElem?_take_of_lt (by simp at this; omega)] at hu
    exact hu
theorem rd_drop {W : World} {B : Nat} {A : Option Addr} {k : Nat} {l : List Int} (h : Rd1 W B A k (ints l)) (t c : Nat) (ht : t ≤ k) (hc : k ≤ c) : Rd1 W B (if c = t then A else A.map (·.add t)) (k - t) (ints (l.drop t)) := by
  have := h.drop t c ht hc
  rwa [show (ints l).drop t = ints (l.drop t) by simp [ints]] at this
/-- what step hands back -/
def RetSt (g : Gr) (f : List Int) (p : Int) (w : World) (e : Ending) (w' : World) : Prop :=
  Below w.heap.size w w' ∧ ((dstE g f p ≠ 0 ∧ e = .returned (.tuple #[.slice none 0 0, .int .i64 (dstE g f p)])) ∨ (dstE g f p = 0 ∧ ∃ v, e = .returned (.tuple #[v, .int .i64 0]) ∧ RdI w' v (dstL g f p)))

set_option maxRecDepth 100000 in
set_option maxHeartbeats 2000000 in
theorem step_any (g : Gr) (a : GA) (A : Option Addr) (k c : Nat) (f : List Int) (p : Int) (w : World) (hg : GrAt w w.heap.size g a) (hok : gchk g = 0) (hf : Rd1 w w.heap.size A k (ints f)) (hk2 : k ≤ 1000) (hkc : k ≤ c) (hcm : c ≤ maxLen) :
    Calls Tryz.prog 28 #[gval g a, .slice A k c, .int .i64 p] w (RetSt g f p w) := by
  obtain ⟨ta, tc, na, nc, pa, pc⟩ := a
  have hfl : f.length = k := by have := hf.1; simpa [ints] using this
  have hG0 := GB.start hg
  have hkk := Lib.hid (gok_of hok)
  have hm24 := hkk.out.pl
  have hP1 := Lib.hid (fun (E : Int) (h : dstE g f p = E) => (show (E ≠ 0 → ∀ w', Below w.heap.size w w' → RetSt g f p w (.returned (.tuple #[.slice none 0 0, .int .i64 E])) w') ∧ (E = 0 → ∀ v w', Below w.heap.size w w' → RdI w' v (dstL g f p) → RetSt g f p w (.returned (.tuple #[v, .int .i64 0])) w') from
    ⟨fun h0 w' hb => ⟨hb, .inl ⟨by rw [h]; exact h0, by rw [h]⟩⟩, fun h0 v w' hb hv => ⟨hb, .inr ⟨by rw [h, h0], v, rfl, hv⟩⟩⟩))
  have hat1 := atN_le f
  rw [hfl] at hat1
  have hpl := place_any A k c f
  unfold atI at hpl
  rw [hfl] at hpl
  replace hpl := Lib.hid hpl
  have hE := Lib.hid (show dstE g f p = dstE g f p from rfl)
  unfold dstE at hP1
  rw [hfl] at hP1
  unfold maxLen at hcm
  obtain ⟨m, hm⟩ : ∃ m, m = g.prods.length := ⟨_, rfl⟩
  rw [← hm] at hm24 hP1
  clear hg hok hE
  unfold gval at *
  unfold gcells at *
  dsimp only at *
  rw [← hm] at hG0 ⊢
  replace hm := Lib.hid hm
  replace hfl := Lib.hid hfl
  generalize hatt : atN f = t at *
  replace hatt := Lib.hid hatt
  have hzk : (0 : Int) ≤ k := by omega
  have hzm : (0 : Int) ≤ m := by omega
  by_cases hp : p < 0 ∨ (m : Int) ≤ p
  · have hR := Lib.hid ((hP1.out 2 (by rw [if_pos hp])).1 (by omega))
    clear hP1
    by_cases hp0 : p < 0
    · clear hp
      go_enter Tryz.func28, Tryz.ntmps28
      go_wp2_with (go_at_call 48; refine (hpl.out _ _ (hf.below (bAlc (Below.refl _ _) _)) (by omega)).mono ?_; rintro e w1 ⟨rfl, rfl⟩)
      all_goals first
        | (go_ret2; exact hR.out _ hG0.2.2)
        | (exfalso; simp_all; omega)
    · have hpm : (m : Int) ≤ p := by omega
      clear hp
      go_enter Tryz.func28, Tryz.ntmps28
      obtain ⟨c0, c1, c2, c3, c4, c5⟩ := hG0.cells
      dsimp only at c5
      rw [← hm.out] at c5
      clear c0 c1 c2 c3 c4
      go_wp2_with (go_at_call 48; refine (hpl.out _ _ (hf.below (bAlc (Below.refl _ _) _)) (by omega)).mono ?_; rintro e w1 ⟨rfl, rfl⟩)
      all_goals first
        | (go_ret2; exact hR.out _ hG0.2.2)
        | (exfalso; simp_all; omega)
  · rw [if_neg hp] at hP1
    have hp0 : 0 ≤ p := by omega
    have hpm : p < m := by omega
    obtain ⟨j, rfl⟩ := Int.eq_ofNat_of_zero_le hp0
    have hjm : j < m := by omega
    have hn1 : ¬ (j : Int) < 0 := by omega
    clear hp
    by_cases htk : k ≤ t
    · have hR := Lib.hid ((hP1.out 7 (by rw [if_pos htk])).1 (by omega))
      rw [if_neg (by omega)] at hpl
      clear hP1
      go_enter Tryz.func28, Tryz.ntmps28
      obtain ⟨c0, c1, c2, c3, c4, c5⟩ := hG0.cells
      dsimp only at c5
      rw [← hm.out] at c5
      clear c0 c1 c2 c3 c4
      go_wp2_with (go_at_call 48; refine (hpl.out _ _ (hf.below (bAlc (Below.refl _ _) _)) (by omega)).mono ?_; rintro e w1 ⟨rfl, rfl⟩)
      all_goals first
        | (go_ret2; exact hR.out _ hG0.2.2)
        | (exfalso; simp_all; omega)
    · rw [if_neg htk] at hP1
      rw [if_pos (by omega)] at hpl
      have htl : t < f.length := by have := hfl.out; omega
      have hx : f[t]? = some f[t] := List.getElem?_eq_getElem htl
      have hgd : f.getD t 0 = f[t] := by simp [List.getD_eq_getElem?_getD, htl]
      rw [hgd] at hP1
      have hxi : g.prods[j]? = some (dprG g j) := by
        unfold dprG
        rw [Int.toNat_natCast, List.getD_eq_getElem?_getD, List.getElem?_eq_getElem (by have := hm.out; omega)]; rfl
      obtain ⟨fb, foff, rfl, hfb, x0⟩ := hf.get (show (ints f)[t]? = some (.int .i64 f[t]) by rw [ints, List.getElem?_map, hx]; rfl)
      generalize f[t] = s at *
      replace hx := Lib.hid hx
      replace hgd := Lib.hid hgd
      have hrr := (hkk.out.pr _ (List.mem_of_getElem? hxi)).2.1
      obtain ⟨b, off, hpa, hbt, y0, RA, rc, y1, hRd, hrl, hrm⟩ := hG0.2.1.prods.get hxi
      dsimp only at hpa
      subst hpa
      have hL : Hid (dstL g f j = f.take t ++ (dprG g j).right ++ f.drop (t + 1)) := Lib.hid (by unfold dstL; rw [hatt.out])
      generalize dprG g j = q at *
      obtain ⟨ql, qr⟩ := q
      dsimp only at hP1 y0 y1 hRd hrl hrr hL
      replace hxi := Lib.hid hxi
      have x0' := cell_later (bAlc (Below.refl _ _) (.cells #[.int .i64 g.k, .slice ta g.toks.length tc, .string g.sep, .slice na g.names.length nc, .int .i64 g.start, .slice (some ⟨b, off, none⟩) m pc] 25)) x0
      have hzj : (0 : Int) ≤ j := by omega
      have hmul : (j : Int) * 2 ≤ 100 := by omega
      have hzt : (0 : Int) ≤ t := by omega
      have htk2 : (t : Int) < k := by omega
      unfold maxLen at hrm
      by_cases hls : ql = s
      · subst hls
        rw [if_neg (by simp)] at hP1
        go_enter Tryz.func28, Tryz.ntmps28
        obtain ⟨c0, c1, c2, c3, c4, c5⟩ := hG0.cells
        dsimp only at c5
        rw [← hm.out] at c5
        clear c0 c1 c2 c3 c4
        go_upto_region 6 with (go_at_call 48; refine (hpl.out _ _ (hf.below (bAlc (Below.refl _ _) _)) (by omega)).mono ?_; rintro e w1 ⟨rfl, rfl⟩)
        go_quiet (fail)
        have hG1 := hG0.drewN nq
        have hf1 : Rd1 ((w.alloc (.cells #[.int .i64 g.k, .slice ta g.toks.length tc, .string g.sep, .slice na g.names.length nc, .int .i64 g.start, .slice (some ⟨b, off, none⟩) m pc] 25)).drewN nq) w.heap.size (some ⟨fb, foff, none⟩) k (ints f) := (hf.below (bAlc (Below.refl _ _) _)).below (bDrwN' _ nq)
        have y2 := cell_later (bDrwN' _ nq) y1
        have hRd1 := hRd.below (bDrwN' _ nq)
        clear c5 y0 x0' y1 hRd hG0 x0
        generalize (w.alloc (.cells #[.int .i64 g.k, .slice ta g.toks.length tc, .string g.sep, .slice na g.names.length nc, .int .i64 g.start, .slice (some ⟨b, off, none⟩) m pc] 25)).drewN nq = W2 at *
        obtain ⟨c0, c1, c2, c3, c4, c5⟩ := hG1.cells
        dsimp only at c5
        rw [← hm.out] at c5
        clear c0 c1 c2 c3 c4
        by_cases h200 : 200 < (k : Int) - 1 + qr.length
        · have hR := Lib.hid ((hP1.out 6 (by rw [if_pos h200])).1 (by omega))
          clear hP1
          go_wp2_with fail
          go_ret2
          exact hR.out _ hG1.2.2
        · rw [if_neg h200] at hP1
          have hR := Lib.hid ((hP1.out 0 rfl).2 rfl)
          clear hP1
          have htc : (t : Int) ≤ c := by omega
          have htc2 : t ≤ c := by omega
          go_upto_region 10 with (fail)
          have hq0 : (0 : Int) ≤ qr.length := by omega
          go_still_tail 10, (by kernel_rfl)
          change wpList _ _ _ _ _ W2.drew
          have hG3 := hG1.step (bDrw (Below.refl _ _))
          have hf3 := hf1.below ((Below.refl w.heap.size W2).drew)
          have hRd3 := hRd1.below ((Below.refl w.heap.size W2).drew)
          clear hG1 hf1 hRd1 y2 c5 hf
          generalize W2.drew = W3 at *
          have hlt3 := hG3.lt
          have htl2 : (f.take t).length = t := by simp; omega
          have hs1 : Src1 W3 (w.heap.size + 1) (.slice (some ⟨fb, foff, none⟩) t t) (f.take t) := .inl ⟨some ⟨fb, foff, none⟩, by rw [htl2], by rw [htl2]; exact (rd_take hf3 t (by omega)).mono (by omega)⟩
          obtain ⟨v1, W4, hr1, hs2, hb4⟩ := app_src (c := rc) hs1 (by omega) (hRd3.mono (by omega)) (by rw [htl2]; omega)
          have hG4 := hG3.low (Nat.lt_succ_self _) hb4
          have hf4 := hf3.below (hb4.mono (by omega))
          have hz4 := hb4.size
          clear hs1 hb4 hf3 hRd3 hG3
          replace htl2 := Lib.hid htl2
          have hz5 := hG4.lt
          replace hr1 := Lib.hid hr1
          go_upto_region 11 with (at_builtin; refine wpList_appR _ rfl _ _ 26 rfl _ _ rfl rfl _ _ hr1.out ?_)
          have hfd := rd_drop hf4 (t + 1) c (by omega) hkc
          have hzc1 : (t : Int) + 1 ≤ k := by omega
          have hlen2 : (f.take t ++ qr).length + (k - (t + 1)) ≤ 1000000 := by rw [List.length_append, htl2.out]; omega
          have hLL : Hid (f.take t ++ qr ++ f.drop (t + 1) = dstL g f j) := Lib.hid hL.out.symm
          have hll : Hid ((f.take t ++ qr ++ f.drop (t + 1)).length ≤ 1000000) := Lib.hid (by rw [List.length_append, List.length_append, htl2.out, List.length_drop]; have := hfl.out; omega)
          clear hr1
          by_cases hct : c = t + 1
          · have hkt : k = t + 1 := by omega
            subst hct
            subst hkt
            rw [if_pos rfl] at hfd
            simp only [Nat.sub_self] at hfd hlen2
            obtain ⟨v2, W5, hr2, hs3, hb5⟩ := app_src (c := 0) hs2 (by omega) (hfd.mono (by omega)) hlen2
            replace hr2 := Lib.hid hr2
            go_wp2_with (at_builtin; refine wpList_appR _ rfl _ _ 26 rfl _ _ rfl rfl _ _ hr2.out ?_)
            go_ret2
            exact hR.out _ _ (hG4.low (Nat.lt_succ_self _) hb5).2.2 (by rw [← hLL.out]; exact hs3.reads hll.out)
          · rw [if_neg hct] at hfd
            obtain ⟨v2, W5, hr2, hs3, hb5⟩ := app_src (c := c - (t + 1)) hs2 (by omega) (hfd.mono (by omega)) hlen2
            simp only [Option.map_some, Addr.add_lit] at hr2
            replace hr2 := Lib.hid hr2
            go_wp2_with (at_builtin; refine wpList_appR _ rfl _ _ 26 rfl _ _ rfl rfl _ _ hr2.out ?_)
            go_ret2
            exact hR.out _ _ (hG4.low (Nat.lt_succ_self _) hb5).2.2 (by rw [← hLL.out]; exact hs3.reads hll.out)
      · have hR := Lib.hid ((hP1.out 24 (by rw [if_pos hls])).1 (by omega))
        have hls2 : (ql == s) = false := by simpa using hls
        clear hP1
        go_enter Tryz.func28, Tryz.ntmps28
        obtain ⟨c0, c1, c2, c3, c4, c5⟩ := hG0.cells
        dsimp only at c5
        rw [← hm.out] at c5
        clear c0 c1 c2 c3 c4
        go_upto_region 6 with (go_at_call 48; refine (hpl.out _ _ (hf.below (bAlc (Below.refl _ _) _)) (by omega)).mono ?_; rintro e w1 ⟨rfl, rfl⟩)
        go_quiet (fail)
        go_wp2_with fail
        go_ret2
        exact hR.out _ (hG0.drewN _).2.2
end Go.Proofs.YtlngbphchhbpbaaGreat

/- derive.Run. -/
namespace Go.Proofs.YtlngbphchhbpbaaGreat
open Go.ChangeShapes Go.WideShapes Go.ChangeAt Go.RowKit
set_option linter.unusedVariables false

/-- the error and the form of a derivation from a form on -/
def runF (g : Gr) : List Int → List Int → Int × List Int
  | f, [] => (0, f)
  | f, p :: ps => if dstE g f p = 0 then runF g (dstL g f p) ps else (dstE g f p, [])
def runE (g : Gr) (ps : List Int) : Int := if gchk g ≠ 0 then gchk g else if 1000 < ps.length then 6 else (runF g [g.start] ps).1
/-- what Run hands back -/
def RetRn (g : Gr) (ps : List Int) (w : World) (e : Ending) (w' : World) : Prop :=
  Below w.heap.size w w' ∧ ((runE g ps ≠ 0 ∧ e = .returned (.tuple #[.slice none 0 0, .int .i64 (runE g ps)])) ∨ (runE g ps = 0 ∧ ∃ v, e = .returned (.tuple #[v, .int .i64 0]) ∧ RdI w' v (runF g [g.start] ps).2))
theorem dst_len {g : Gr} {f : List Int} {p : Int} (h : dstE g f p = 0) : (dstL g f p).length ≤ 200 ∧ 1 ≤ f.length := by
  unfold dstE at h
  split at h
  · cases h
  · split at h
    · cases h
    · split at h
      · cases h
      · split at h
        · cases h
        · rename_i h1 h2 h3 h4
          have := atN_le f
          unfold dstL
          simp only [List.length_append, List.length_take, List.length_drop]
          omega
theorem st_ok {g : Gr} {f : List Int} {p : Int} {w : World} (h : dstE g f p = 0) {e : Ending} {w' : World} (hr : RetSt g f p w e w') : ∃ v, e = .returned (.tuple #[v, .int .i64 0]) ∧ RdI w' v (dstL g f p) ∧ Below w.heap.size w w' := by
  obtain ⟨hb, ⟨h1, _⟩ | ⟨_, v, rfl, hv⟩⟩ := hr
  · exact absurd h h1
  · exact ⟨v, rfl, hv, hb⟩
theorem st_bad {g : Gr} {f : List Int} {p : Int} {w : World} (h : dstE g f p ≠ 0) {e : Ending} {w' : World} (hr : RetSt g f p w e w') : e = .returned (.tuple #[.slice none 0 0, .int .i64 (dstE g f p)]) ∧ Below w.heap.size w w' := by
  obtain ⟨hb, ⟨_, rfl⟩ | ⟨h1, _⟩⟩ := hr
  · exact ⟨rfl, hb⟩
  · exact absurd h1 h
theorem RdI.step {W W' : World} {v : Value} {l : List Int} (h : RdI W v l) (hb : Below W.heap.size W W') : RdI W' v l := by
  obtain ⟨A, c, rfl, h1, h2⟩ := h
  exact ⟨A, c, rfl, (h1.below hb).mono hb.size, h2⟩

set_option maxRecDepth 100000 in
set_option maxHeartbeats 2000000 in
theorem run_any (g : Gr) (a : GA) (A : Option Addr) (n c : Nat) (ps : List Int) (w : World) (hg : GrAt w w.heap.size g a) (hs : Small g) (hf : Rd1 w w.heap.size A n (ints ps)) (hn : n ≤ maxLen) :
    Calls Tryz.prog 12 #[gval g a, .slice A n c] w (RetRn g ps w) := by
  obtain ⟨ta, tc, na, nc, pa, pc⟩ := a
  have hfl : ps.length = n := by have := hf.1; simpa [ints] using this
  have hG0 := GB.start hg
  have hC := Lib.hid (fun (W : World) (h : GrAt W W.heap.size g ⟨ta, tc, na, nc, pa, pc⟩) => gcheck_any g ⟨ta, tc, na, nc, pa, pc⟩ W h hs)
  have hP1 := Lib.hid (fun (E : Int) (h : runE g ps = E) => (show (E ≠ 0 → ∀ w', Below w.heap.size w w' → RetRn g ps w (.returned (.tuple #[.slice none 0 0, .int .i64 E])) w') ∧ (E = 0 → ∀ v w', Below w.heap.size w w' → RdI w' v (runF g [g.start] ps).2 → RetRn g ps w (.returned (.tuple #[v, .int .i64 0])) w') from
    ⟨fun h0 w' hb => ⟨hb, .inl ⟨by rw [h]; exact h0, by rw [h]⟩⟩, fun h0 v w' hb hv => ⟨hb, .inr ⟨by rw [h, h0], v, rfl, hv⟩⟩⟩))
  unfold runE at hP1
  rw [hfl] at hP1
  unfold maxLen at hn
  clear hg
  unfold gval at *
  unfold gcells at *
  dsimp only at *
  replace hfl := Lib.hid hfl
  have hzn : (0 : Int) ≤ n := by omega
  obtain ⟨c0, c1, c2, c3, c4, c5⟩ := hG0.cells
  dsimp only at c1 c3 c5
  by_cases hok : gchk g = 0
  · rw [if_neg (by simpa using hok)] at hP1
    rw [hok] at hC
    have hSt := Lib.hid (fun (A : Option Addr) (k c : Nat) (f : List Int) (p : Int) (W : World) (h : GrAt W W.heap.size g ⟨ta, tc, na, nc, pa, pc⟩) => step_any g ⟨ta, tc, na, nc, pa, pc⟩ A k c f p W h hok)
    unfold gval gcells at hSt
    dsimp only at hSt
    by_cases h1000 : 1000 < n
    · have hR := Lib.hid ((hP1.out 6 (by rw [if_pos h1000])).1 (by omega))
      clear hP1 hSt
      have hz : (1000 : Int) < n := by omega
      go_enter Tryz.func12, Tryz.ntmps12
      go_wp2_with (go_at_call 27; refine (hC.out _ (hG0.2.1.mono hG0.2.2.size)).mono ?_; rintro e w1 ⟨rfl, hb1⟩)
      go_ret2
      exact hR.out _ (hG0.step hb1).2.2
    · rw [if_neg h1000] at hP1
      have hz : ¬ (1000 : Int) < n := by omega
      go_enter Tryz.func12, Tryz.ntmps12
      go_upto_region 4 with (go_at_call 27; refine (hC.out _ (hG0.2.1.mono hG0.2.2.size)).mono ?_; rintro e w1 ⟨rfl, hb1⟩)
      have hG1 := hG0.step hb1
      clear hG0 c0 c1 c2 c3 c4 c5
      obtain ⟨c0, c1, c2, c3, c4, c5⟩ := hG1.cells
      dsimp only at c1 c3 c5
      clear c0 c1 c2 c3 c5 hb1
      go_wp2_with fail
      have hG2 := hG1.alloc (.cells #[.int .i64 g.start] 3)
      have hb2 := hG2.2.2
      have hrd : RdI (w1.alloc (.cells #[.int .i64 g.start] 3)) (.slice (some ⟨w1.heap.size, 0, none⟩) 1 1) [g.start] := ⟨some ⟨w1.heap.size, 0, none⟩, 1, rfl, rd_blk (Blk.new w1 3 _), by simp, by unfold maxLen; simp⟩
      clear hG1 c4
      generalize w1.alloc (.cells #[.int .i64 g.start] 3) = W2 at *
      go_loopg [25, 7] n (fun gk s25 s7 wr => ∃ (i : Nat) (f : List Int), s25 = .int .i64 i ∧ i + gk = n ∧ RdI wr s7 f ∧ f.length ≤ 200 ∧ Hid (runF g [g.start] ps = runF g f (ps.drop i)) ∧ GB w g ⟨ta, tc, na, nc, pa, pc⟩ wr)
      case atStart => exact ⟨0, [g.start], rfl, by omega, hrd, by simp, Lib.hid rfl, hG2⟩
      case round =>
        clear hrd hG2 hb2
        obtain ⟨i, f, rfl, hi, hrd, hl2, hrun, hG⟩ := hrel
        replace hi := Lib.hid hi
        by_cases hin : i < n
        · have hil : i < ps.length := by have := hfl.out; omega
          have hx : ps[i]? = some ps[i] := List.getElem?_eq_getElem hil
          obtain ⟨b, off, rfl, hbt, x0⟩ := (hf.below hG.2.2).get (show (ints ps)[i]? = some (.int .i64 ps[i]) by rw [ints, List.getElem?_map, hx]; rfl)
          have hdr : ps.drop i = ps[i] :: ps.drop (i + 1) := List.drop_eq_getElem_cons hil
          generalize ps[i] = p at *
          obtain ⟨A', c', rfl, hrd1, hrl, hrm⟩ := hrd
          have hz0 : (0 : Int) ≤ i := by omega
          have hz1 : (i : Int) < n := by omega
          have hSt1 := hSt.out A' f.length c' f p wr (hG.2.1.mono hG.2.2.size) hrd1 (by omega) hrl hrm
          obtain ⟨c0, c1, c2, c3, c4, c5⟩ := hG.cells
          dsimp only at c1 c3 c5
          have hr2 := hrun.out
          rw [hdr] at hr2
          replace hx := Lib.hid hx
          replace hdr := Lib.hid hdr
          by_cases h0 : dstE g f p = 0
          · have hr3 : Hid (runF g [g.start] ps = runF g (dstL g f p) (ps.drop (i + 1))) := Lib.hid (by rw [hr2, runF, if_pos h0])
            have hlen := (dst_len h0).1
            have hSt2 := Lib.hid (hSt1.mono fun _ _ h => st_ok h0 h)
            clear hSt1 hr2 h0
            go_wp2_with (go_at_call 28; refine hSt2.out.mono ?_; rintro e w5 ⟨v5, rfl, hv5, hb5⟩)
            go_roundg (n - (i + 1))
            case measure => have := hi.out; omega
            case rel => exact ⟨i + 1, dstL g f p, by go_num, by have := hi.out; omega, hv5, hlen, hr3, hG.step hb5⟩
          · have hr3 : runF g [g.start] ps = (dstE g f p, []) := by rw [hr2, runF, if_neg h0]
            have hR := Lib.hid ((hP1.out _ rfl).1)
            rw [hr3] at hR
            dsimp only at hR
            have hSt2 := Lib.hid (hSt1.mono fun _ _ h => st_bad h0 h)
            have h1 : (dstE g f p == 0) = false := by simpa using h0
            have h2 : (dstE g f p != 0) = true := by simpa using h0
            replace h0 := Lib.hid h0
            clear hSt1 hr2 hr3
            generalize dstE g f p = E at *
            go_wp2_with (go_at_call 28; refine hSt2.out.mono ?_; rintro e w5 ⟨rfl, hb5⟩)
            go_ret2
            exact hR.out h0.out _ (hG.step hb5).2.2
        · have hin2 : i = n := by have := hi.out; omega
          have hr2 := hrun.out
          rw [List.drop_eq_nil_of_le (by have := hfl.out; omega)] at hr2
          have hr3 : runF g [g.start] ps = (0, f) := by rw [hr2, runF]
          have hR0 := (hP1.out _ rfl).2
          rw [hr3] at hR0
          have hR := Lib.hid (hR0 rfl)
          dsimp only at hR
          clear hr2 hr3 hR0
          have hrd' := Lib.hid hrd
          have hGb := Lib.hid hG.2.2
          go_wp2_with fail
          go_ret2
          exact hR.out _ _ hGb.out hrd'.out
  · rw [if_pos (by simpa using hok)] at hP1
    have hR := Lib.hid ((hP1.out _ rfl).1 hok)
    have hok2 : (gchk g == 0) = false := by simpa using hok
    have hok3 : (gchk g != 0) = true := by simpa using hok
    clear hP1
    generalize gchk g = E at *
    go_enter Tryz.func12, Tryz.ntmps12
    go_wp2_with (go_at_call 27; refine (hC.out _ (hG0.2.1.mono hG0.2.2.size)).mono ?_; rintro e w1 ⟨rfl, hb1⟩)
    go_ret2
    exact hR.out _ (hG0.step hb1).2.2
end Go.Proofs.YtlngbphchhbpbaaGreat

/- SameInts, SameLists. -/
namespace Go.Proofs.YtlngbphchhbpbaaGreat
open Go.ChangeShapes Go.WideShapes Go.ChangeAt Go.RowKit
set_option linter.unusedVariables false

theorem take_diff {l m : List Int} {i : Nat} {x y : Int} (h : l.take i = m.take i) (hx : l[i]? = some x) (hy : m[i]? = some y) (hne : x ≠ y) : l ≠ m := by
  rintro rfl
  rw [hx] at hy
  injection hy with hy
  exact hne hy
set_option maxHeartbeats 1000000 in
theorem sameints_any (A A2 : Option Addr) (n n2 c c2 : Nat) (l m : List Int) (w : World) (B : Nat) (ha : Rd1 w B A n (ints l)) (hb : Rd1 w B A2 n2 (ints m)) (hn : n ≤ maxLen) (hn2 : n2 ≤ maxLen) :
    Calls Tryz.prog 10 #[.slice A n c, .slice A2 n2 c2] w fun e w' => e = .returned (.bool (decide (l = m))) ∧ Below w.heap.size w w' := by
  have hl1 : l.length = n := by have := ha.1; simpa [ints] using this
  have hl2 : m.length = n2 := by have := hb.1; simpa [ints] using this
  unfold maxLen at hn hn2
  by_cases hnn : n = n2
  · subst hnn
    obtain ⟨R, hR⟩ : ∃ R, R = decide (l = m) := ⟨_, rfl⟩
    rw [← hR]
    replace hR := Lib.hid hR
    replace hl1 := Lib.hid hl1
    replace hl2 := Lib.hid hl2
    go_enter Tryz.func10, Tryz.ntmps10
    go_wp2_with fail
    go_loopg [5] n (fun gk s5 wr => ∃ i : Nat, s5 = .int .i64 i ∧ i + gk = n ∧ Hid (l.take i = m.take i) ∧ Below w.heap.size w wr ∧ Rd1 wr B A n (ints l) ∧ Rd1 wr B A2 n (ints m))
    case atStart => exact ⟨0, rfl, by omega, Lib.hid rfl, Below.refl _ _, ha, hb⟩
    case round =>
      obtain ⟨i, rfl, hi, ht, hbw, ha', hb'⟩ := hrel
      clear ha hb
      have ha := ha'
      have hb := hb'
      clear ha' hb'
      replace hi := Lib.hid hi
      by_cases hin : i < n
      · have hil : i < l.length := by have := hl1.out; omega
        have him : i < m.length := by have := hl2.out; omega
        have hx : l[i]? = some l[i] := List.getElem?_eq_getElem hil
        have hy : m[i]? = some m[i] := List.getElem?_eq_getElem him
        obtain ⟨b1, off1, rfl, hbt1, x0⟩ := ha.get (show (ints l)[i]? = some (.int .i64 l[i]) by rw [ints, List.getElem?_map, hx]; rfl)
        obtain ⟨b2, off2, rfl, hbt2, y0⟩ := hb.get (show (ints m)[i]? = some (.int .i64 m[i]) by rw [ints, List.getElem?_map, hy]; rfl)
        generalize l[i] = x at *
        generalize m[i] = y at *
        have hz0 : (0 : Int) ≤ i := by omega
        have hz1 : (i : Int) < n := by omega
        by_cases hxy : x = y
        · subst hxy
          have ht2 : Hid (l.take (i + 1) = m.take (i + 1)) := Lib.hid (by rw [take_snocG hx, take_snocG hy, ht.out])
          replace hx := Lib.hid hx
          replace hy := Lib.hid hy
          go_upto_region 6 with (fail)
          go_quiet (fail)
          have hbw2 := bDrwN hbw nq
          have ha2 : Rd1 (wr.drewN nq) B _ n (ints l) := ha.below (bDrwN' wr nq)
          have hb2 : Rd1 (wr.drewN nq) B _ n (ints m) := hb.below (bDrwN' wr nq)
          clear ha hb x0 y0
          generalize wr.drewN nq = W2 at *
          go_wp2_with fail
          go_roundg (n - (i + 1))
          case measure => have := hi.out; omega
          case rel => exact ⟨i + 1, by go_num, by have := hi.out; omega, ht2, hbw2, ha2, hb2⟩
        · have hRf : R = false := by rw [hR.out]; exact decide_eq_false (take_diff ht.out hx hy hxy)
          subst hRf
          have h1 : (x == y) = false := by simpa using hxy
          have h2 : (x != y) = true := by simpa using hxy
          replace hx := Lib.hid hx
          replace hy := Lib.hid hy
          clear hxy
          go_upto_region 6 with (fail)
          go_quiet (fail)
          have hbw2 := bDrwN hbw nq
          clear ha hb x0 y0
          generalize wr.drewN nq = W2 at *
          go_wp2_with fail
          go_ret
          exact ⟨rfl, hbw2⟩
      · have hRt : R = true := by
          rw [hR.out]
          apply decide_eq_true
          have := ht.out
          rwa [List.take_of_length_le (by have := hl1.out; omega), List.take_of_length_le (by have := hl2.out; omega)] at this
        subst hRt
        go_wp2_with fail
        go_ret
        exact ⟨rfl, hbw⟩
  · have hR : decide (l = m) = false := decide_eq_false (by rintro rfl; omega)
    rw [hR]
    have h1 : ((n : Int) == n2) = false := beq_eq_false_iff_ne.2 (by omega)
    have h2 : ((n : Int) != n2) = true := bne_iff_ne.2 (by omega)
    clear hR hnn
    go_enter Tryz.func10, Tryz.ntmps10
    go_wp2_with fail
    go_ret
    exact ⟨rfl, Below.refl _ _⟩

/-- a slice of slices that reads as L, in blocks below B -/
def RdLL (W : World) (B : Nat) (A : Option Addr) (n : Nat) (L : List (List Int)) : Prop :=
  L.length = n ∧ (n = 0 ∨ ∃ b off, A = some ⟨b, off, none⟩ ∧ b < B ∧ ∀ (i : Nat) (l : List Int), L[i]? = some l → ∃ RA c, W.cell? ⟨b, off + i, none⟩ = some (.slice RA l.length c) ∧ Rd1 W B RA l.length (ints l))
theorem RdLL.below {w w' : World} {B : Nat} {A : Option Addr} {n : Nat} {L : List (List Int)} (h : RdLL w B A n L) (hb : Below B w w') : RdLL w' B A n L := by
  refine ⟨h.1, ?_⟩
  rcases h.2 with h0 | ⟨b, off, rfl, hlt, hc⟩
  · exact .inl h0
  · refine .inr ⟨b, off, rfl, hlt, fun i l hl => ?_⟩
    obtain ⟨RA, c, h1, h2⟩ := hc i l hl
    exact ⟨RA, c, by rw [hb.cell (p := ⟨b, off + i, none⟩) hlt]; exact h1, h2.below hb⟩
theorem RdLL.mono {w : World} {B B' : Nat} {A : Option Addr} {n : Nat} {L : List (List Int)} (h : RdLL w B A n L) (hb : B ≤ B') : RdLL w B' A n L := by
  refine ⟨h.1, ?_⟩
  rcases h.2 with h0 | ⟨b, off, rfl, hlt, hc⟩
  · exact .inl h0
  · refine .inr ⟨b, off, rfl, by omega, fun i l hl => ?_⟩
    obtain ⟨RA, c, h1, h2⟩ := hc i l hl
    exact ⟨RA, c, h1, h2.mono hb⟩
theorem RdLL.get {w : World} {B : Nat} {A : Option Addr} {n : Nat} {L : List (List Int)} (h : RdLL w B A n L) {i : Nat} {l : List Int} (hi : L[i]? = some l) :
    ∃ b off, A = some ⟨b, off, none⟩ ∧ b < B ∧ ∃ RA c, w.cell? ⟨b, off + i, none⟩ = some (.slice RA l.length c) ∧ Rd1 w B RA l.length (ints l) := by
  have hlt := (List.getElem?_eq_some_iff.1 hi).1
  rcases h.2 with h0 | ⟨b, off, rfl, hb, hc⟩
  · have := h.1; omega
  · exact ⟨b, off, rfl, hb, hc i l hi⟩
/-- an own slice of own slices reads -/
theorem OwnTT.reads {W : World} {base : Nat} {v : Value} {L : List (List Int)} {addr : List Int → Nat} (h : OwnTT W base v L addr) : ∃ A c, v = .slice A L.length c ∧ RdLL W W.heap.size A L.length L ∧ L.length ≤ c ∧ c ≤ maxLen := by
  rcases h.1.2 with ⟨rfl, h0⟩ | ⟨g, cap, cur, rfl, hb, hg, hnc, hcm, hcs, ht⟩
  · exact ⟨none, 0, by rw [h0], ⟨rfl, .inl h0⟩, by omega, by simp [maxLen]⟩
  · refine ⟨some ⟨g, 0, none⟩, cap, rfl, ⟨rfl, .inr ⟨g, 0, rfl, (Array.getElem?_eq_some_iff.1 hg).1, fun i l hl => ?_⟩⟩, hnc, hcm⟩
    have hi := (List.getElem?_eq_some_iff.1 hl).1
    obtain ⟨a0, a1, a2, a3⟩ := h.2 l (List.mem_of_getElem? hl)
    refine ⟨some ⟨addr l, 0, none⟩, l.length, ?_, ⟨by simp [ints], .inr ⟨addr l, 0, rfl, a2.lt, fun j u hu => ?_⟩⟩⟩
    · have e : (cur.toList.take (L.length * 1))[i]? = (L.map (tsl addr))[i]? := by rw [ht]
      rw [List.getElem?_take_of_lt (by omega), List.getElem?_map, hl] at e
      rw [cell_of_row W g _ cur 26 (0, 0) hg, Nat.zero_add]
      simpa [tsl] using e
    · rw [Nat.zero_add, a2.cell]
      simpa using hu
end Go.Proofs.YtlngbphchhbpbaaGreat

/- The chapter's example; SameLists; awake. -/
namespace Go.Proofs.YtlngbphchhbpbaaGreat
open Go.ChangeShapes Go.WideShapes Go.ChangeAt Go.RowKit
set_option linter.unusedVariables false

/-- the grammar of the chapter's examples -/
def exD : Gr := ⟨1, [⟨#[97]⟩, ⟨#[98]⟩], ⟨#[110, 108]⟩, [⟨#[83]⟩, ⟨#[84]⟩], 16, exPs⟩
theorem exD_ok : gchk exD = 0 := by decide +kernel
theorem exD_runE : runE exD [0, 1, 2] = 0 := by decide +kernel
theorem exD_run : (runF exD [exD.start] [0, 1, 2]).2 = [0, 1, 1] := by decide +kernel
theorem rd_row {W : World} {g : Nat} {t : TypeId} {cs : Array Value} (h : Blk W g t cs) : Rd1 W W.heap.size (some ⟨g, 0, none⟩) cs.size cs.toList :=
  ⟨by simp, .inr ⟨g, 0, rfl, h.lt, fun i x hx => by rw [Nat.zero_add, h.cell]; simpa using hx⟩⟩
theorem under25 : Tryz.prog.underlying 25 = some (.struct (Tryz.prog.fieldsOf 25)) := by kernel_rfl
theorem size25 : (Tryz.prog.info? 25).map (·.size) = some 6 := by kernel_rfl
/-- the example in memory -/
def RetEx (w : World) (e : Ending) (w' : World) : Prop := ∃ a, e = .returned (gval exD a) ∧ GrAt w' w'.heap.size exD a ∧ Below w.heap.size w w'
set_option maxHeartbeats 2000000 in
theorem example_any (w : World) : Calls Tryz.prog 13 #[] w (RetEx w) := by
  have hP := Lib.hid (fun (a : GA) (w' : World) (h1 : GrAt w' w'.heap.size exD a) (h2 : Below w.heap.size w w') => (show RetEx w (.returned (gval exD a)) w' from ⟨a, rfl, h1, h2⟩))
  go_enter Tryz.func13, Tryz.ntmps13
  go_wp2_with fail
  generalize hW0 : w.alloc (.cells #[.int .i64 1, .slice (some ⟨w.heap.size + 1, 0, none⟩) 2 2, .string { data := #[110, 108] }, .slice (some ⟨w.heap.size + 1 + 1, 0, none⟩) 2 2, .int .i64 16, .slice (some ⟨w.heap.size + 1 + 1 + 1 + 1 + 1 + 1 + 1, 0, none⟩) 4 4] 25) = W0
  have z0 : W0.heap.size = w.heap.size + 1 := by rw [← hW0]; simp
  have q0 : Blk W0 w.heap.size 25 #[.int .i64 1, .slice (some ⟨w.heap.size + 1, 0, none⟩) 2 2, .string { data := #[110, 108] }, .slice (some ⟨w.heap.size + 1 + 1, 0, none⟩) 2 2, .int .i64 16, .slice (some ⟨w.heap.size + 1 + 1 + 1 + 1 + 1 + 1 + 1, 0, none⟩) 4 4] := by rw [← hW0]; exact Blk.new w 25 _
  have b0 : Below w.heap.size w W0 := by rw [← hW0]; exact bAlc (Below.refl _ _) _
  obtain ⟨W1, hW1⟩ : ∃ W1, W1 = W0.alloc (.cells #[.string { data := #[97] }, .string { data := #[98] }] 9) := ⟨_, rfl⟩
  rw [← hW1]
  have z1 : W1.heap.size = w.heap.size + 2 := by rw [hW1]; simp [z0]
  have q1 : Blk W1 (w.heap.size + 1) 9 #[.string { data := #[97] }, .string { data := #[98] }] := by rw [hW1]; exact Blk.newAt _ _ _ _ z0.symm
  have b1 : Below W0.heap.size W0 W1 := by rw [hW1]; exact bAlc (Below.refl _ _) _
  obtain ⟨W2, hW2⟩ : ∃ W2, W2 = W1.alloc (.cells #[.string { data := #[83] }, .string { data := #[84] }] 9) := ⟨_, rfl⟩
  rw [← hW2]
  have z2 : W2.heap.size = w.heap.size + 3 := by rw [hW2]; simp [z1]
  have q2 : Blk W2 (w.heap.size + 2) 9 #[.string { data := #[83] }, .string { data := #[84] }] := by rw [hW2]; exact Blk.newAt _ _ _ _ z1.symm
  have b2 : Below W1.heap.size W1 W2 := by rw [hW2]; exact bAlc (Below.refl _ _) _
  obtain ⟨W3, hW3⟩ : ∃ W3, W3 = W2.alloc (.cells #[.int .i64 0, .int .i64 16, .int .i64 1] 3) := ⟨_, rfl⟩
  rw [← hW3]
  have z3 : W3.heap.size = w.heap.size + 4 := by rw [hW3]; simp [z2]
  have q3 : Blk W3 (w.heap.size + 3) 3 #[.int .i64 0, .int .i64 16, .int .i64 1] := by rw [hW3]; exact Blk.newAt _ _ _ _ z2.symm
  have b3 : Below W2.heap.size W2 W3 := by rw [hW3]; exact bAlc (Below.refl _ _) _
  obtain ⟨W4, hW4⟩ : ∃ W4, W4 = W3.alloc (.cells #[.int .i64 17] 3) := ⟨_, rfl⟩
  rw [← hW4]
  have z4 : W4.heap.size = w.heap.size + 5 := by rw [hW4]; simp [z3]
  have q4 : Blk W4 (w.heap.size + 4) 3 #[.int .i64 17] := by rw [hW4]; exact Blk.newAt _ _ _ _ z3.symm
  have b4 : Below W3.heap.size W3 W4 := by rw [hW4]; exact bAlc (Below.refl _ _) _
  obtain ⟨W5, hW5⟩ : ∃ W5, W5 = W4.alloc (.cells #[.int .i64 1] 3) := ⟨_, rfl⟩
  rw [← hW5]
  have z5 : W5.heap.size = w.heap.size + 6 := by rw [hW5]; simp [z4]
  have q5 : Blk W5 (w.heap.size + 5) 3 #[.int .i64 1] := by rw [hW5]; exact Blk.newAt _ _ _ _ z4.symm
  have b5 : Below W4.heap.size W4 W5 := by rw [hW5]; exact bAlc (Below.refl _ _) _
  obtain ⟨W6, hW6⟩ : ∃ W6, W6 = W5.alloc (.cells #[.int .i64 17, .int .i64 17] 3) := ⟨_, rfl⟩
  rw [← hW6]
  have z6 : W6.heap.size = w.heap.size + 7 := by rw [hW6]; simp [z5]
  have q6 : Blk W6 (w.heap.size + 6) 3 #[.int .i64 17, .int .i64 17] := by rw [hW6]; exact Blk.newAt _ _ _ _ z5.symm
  have b6 : Below W5.heap.size W5 W6 := by rw [hW6]; exact bAlc (Below.refl _ _) _
  generalize hW7 : W6.alloc (.cells #[.int .i64 16, .slice (some ⟨w.heap.size + 1 + 1 + 1, 0, none⟩) 3 3, .int .i64 16, .slice (some ⟨w.heap.size + 1 + 1 + 1 + 1, 0, none⟩) 1 1, .int .i64 17, .slice (some ⟨w.heap.size + 1 + 1 + 1 + 1 + 1, 0, none⟩) 1 1, .int .i64 17, .slice (some ⟨w.heap.size + 1 + 1 + 1 + 1 + 1 + 1, 0, none⟩) 2 2] 37) = W7
  have z7 : W7.heap.size = w.heap.size + 8 := by rw [← hW7]; simp [z6]
  have q7 : Blk W7 (w.heap.size + 7) 37 #[.int .i64 16, .slice (some ⟨w.heap.size + 1 + 1 + 1, 0, none⟩) 3 3, .int .i64 16, .slice (some ⟨w.heap.size + 1 + 1 + 1 + 1, 0, none⟩) 1 1, .int .i64 17, .slice (some ⟨w.heap.size + 1 + 1 + 1 + 1 + 1, 0, none⟩) 1 1, .int .i64 17, .slice (some ⟨w.heap.size + 1 + 1 + 1 + 1 + 1 + 1, 0, none⟩) 2 2] := by rw [← hW7]; exact Blk.newAt _ _ _ _ z6.symm
  have b7 : Below W6.heap.size W6 W7 := by rw [← hW7]; exact bAlc (Below.refl _ _) _
  have p6 := (q6.step b7)
  have p5 := ((q5.step b6).step b7)
  have p4 := (((q4.step b5).step b6).step b7)
  have p3 := ((((q3.step b4).step b5).step b6).step b7)
  have p2 := (((((q2.step b3).step b4).step b5).step b6).step b7)
  have p1 := ((((((q1.step b2).step b3).step b4).step b5).step b6).step b7)
  have p0 := (((((((q0.step b1).step b2).step b3).step b4).step b5).step b6).step b7)
  have hb : Below w.heap.size w W7 := (bStep (bStep (bStep (bStep (bStep (bStep (bStep b0 b1) b2) b3) b4) b5) b6) b7)
  have hg : GrAt W7 W7.heap.size exD ⟨some ⟨w.heap.size + 1, 0, none⟩, 2, some ⟨w.heap.size + 2, 0, none⟩, 2, some ⟨w.heap.size + 7, 0, none⟩, 4⟩ := by
    refine ⟨rd_row p1, Nat.le_refl _, by simp [maxLen], rd_row p2, Nat.le_refl _, by simp [maxLen], ⟨rfl, .inr ⟨w.heap.size + 7, 0, rfl, by omega, ?_⟩⟩, Nat.le_refl _, by simp [maxLen], by decide, by decide, by decide⟩
    intro i p hp
    have hlt := (List.getElem?_eq_some_iff.1 hp).1
    have hl4 : exD.prods.length = 4 := rfl
    rcases (by omega : i = 0 ∨ i = 1 ∨ i = 2 ∨ i = 3) with rfl | rfl | rfl | rfl
    · cases hp; exact ⟨q7.cell 0, _, _, q7.cell 1, rd_row p3, Nat.le_refl _, by simp [maxLen]⟩
    · cases hp; exact ⟨q7.cell 2, _, _, q7.cell 3, rd_row p4, Nat.le_refl _, by simp [maxLen]⟩
    · cases hp; exact ⟨q7.cell 4, _, _, q7.cell 5, rd_row p5, Nat.le_refl _, by simp [maxLen]⟩
    · cases hp; exact ⟨q7.cell 6, _, _, q7.cell 7, rd_row p6, Nat.le_refl _, by simp [maxLen]⟩
  exact bodyPost_ret (results_cell_row rfl _ _ _ 25 _ (0, 0) _ rfl p0 under25 rfl size25) rfl (hP.out _ _ hg hb)

set_option maxHeartbeats 1000000 in
theorem samelists_true (A A2 : Option Addr) (n c c2 : Nat) (L : List (List Int)) (w : World) (B : Nat) (ha : RdLL w B A n L) (hb : RdLL w B A2 n L) (hn : n ≤ maxLen) (hL : ∀ l ∈ L, l.length ≤ maxLen) (hB : B ≤ w.heap.size) :
    Calls Tryz.prog 15 #[.slice A n c, .slice A2 n c2] w fun e w' => e = .returned (.bool true) ∧ Below w.heap.size w w' := by
  have hl1 : L.length = n := ha.1
  have hL' := Lib.hid hL
  have hS := Lib.hid (fun (X Y : Option Addr) (c c2 : Nat) (l : List Int) (W : World) (h1 : Rd1 W B X l.length (ints l)) (h2 : Rd1 W B Y l.length (ints l)) (h3 : l.length ≤ maxLen) => sameints_any X Y l.length l.length c c2 l l W B h1 h2 h3 h3)
  simp only [decide_true] at hS
  unfold maxLen at hn
  replace hl1 := Lib.hid hl1
  go_enter Tryz.func15, Tryz.ntmps15
  go_wp2_with fail
  go_loopg [5] n (fun gk s5 wr => ∃ i : Nat, s5 = .int .i64 i ∧ i + gk = n ∧ Below w.heap.size w wr)
  case atStart => exact ⟨0, rfl, by omega, Below.refl _ _⟩
  case round =>
    obtain ⟨i, rfl, hi, hbw⟩ := hrel
    replace hi := Lib.hid hi
    by_cases hin : i < n
    · have hil : i < L.length := by have := hl1.out; omega
      have hx : L[i]? = some L[i] := List.getElem?_eq_getElem hil
      have hlm := hL'.out _ (List.getElem_mem hil)
      have ha' := ha.below (hbw.mono hB)
      have hb' := hb.below (hbw.mono hB)
      obtain ⟨b1, off1, rfl, hbt1, RA, rc, x0, x1⟩ := ha'.get hx
      obtain ⟨b2, off2, rfl, hbt2, RA2, rc2, y0, y1⟩ := hb'.get hx
      generalize L[i] = l at *
      have hz0 : (0 : Int) ≤ i := by omega
      have hz1 : (i : Int) < n := by omega
      replace hx := Lib.hid hx
      have hw := hbw.size
      go_upto_region 6 with (fail)
      have k0 := cell_kept x0
      have k1 := cell_kept y0
      have hSk := Lib.hid (fun (q : KeptBy wr) => hS.out RA RA2 rc rc2 l q.world (x1.below (q.kept.mono (by omega))) (y1.below (q.kept.mono (by omega))) hlm)
      refine wp_region_kept (by kernel_rfl) (by kernel_rfl) ?_
      repeat (go_big_quiet_step ((go_at_call 10; exact Calls.kept_by (hSk.out _))))
      refine wpQuiet_nil ?_
      rintro _ ⟨q, rfl⟩
      have hqk := q.kept
      clear hSk k0 k1 x0 x1 y0 y1 ha' hb'
      generalize q.world = W2 at hqk
      go_wp2_with fail
      go_roundg (n - (i + 1))
      case measure => have := hi.out; omega
      case rel => exact ⟨i + 1, by go_num, by have := hi.out; omega, bStep hbw hqk⟩
    · go_wp2_with fail
      go_ret
      exact ⟨rfl, hbw⟩
end Go.Proofs.YtlngbphchhbpbaaGreat

/- reach.Lengths, derive.Least. -/
namespace Go.Proofs.YtlngbphchhbpbaaGreat
open Go.ChangeShapes Go.WideShapes Go.ChangeAt Go.RowKit
set_option linter.unusedVariables false

/-- the first i are chosen, the others o -/
def chI (o : Int) (l : List Int) (i : Nat) : List Int := l.take i ++ List.replicate (l.length - i) o
theorem chI_set (o : Int) (l : List Int) (i : Nat) (v : Int) (h : l[i]? = some v) : (chI o l i).set i v = chI o l (i + 1) := by
  obtain ⟨h1, h2⟩ := List.getElem?_eq_some_iff.1 h
  unfold chI
  rw [List.set_append_right _ _ (by rw [List.length_take]; omega), List.length_take, Nat.min_eq_left (by omega), Nat.sub_self]
  obtain ⟨m, hm⟩ : ∃ m, l.length - i = m + 1 := ⟨l.length - i - 1, by omega⟩
  rw [hm, List.replicate_succ, List.set_cons_zero, show l.length - (i + 1) = m by omega, List.take_succ_eq_append_getElem h1, h2, List.append_assoc]
  rfl
theorem chI_same (o : Int) (l : List Int) (i : Nat) (h : l[i]? = some o) : chI o l i = chI o l (i + 1) := by
  have hs := chI_set o l i o h
  obtain ⟨h1, h2⟩ := List.getElem?_eq_some_iff.1 h
  rw [← hs]
  have hg : (chI o l i)[i]? = some o := by
    unfold chI
    rw [List.getElem?_append_right (by rw [List.length_take]; omega), List.length_take, Nat.min_eq_left (by omega), Nat.sub_self, List.getElem?_replicate, if_pos (by omega)]
  obtain ⟨h3, h4⟩ := List.getElem?_eq_some_iff.1 hg
  apply List.ext_getElem?
  intro j
  by_cases e : i = j
  · subst e; rw [List.getElem?_set_self h3, hg]
  · rw [List.getElem?_set_ne e]
theorem chI_len (o : Int) (l : List Int) (i : Nat) (h : i ≤ l.length) : (chI o l i).length = l.length := by simp [chI]; omega
theorem ints_set (l : List Int) (j : Nat) (v : Int) : (ints l).toArray.setIfInBounds j (.int .i64 v) = (ints (l.set j v)).toArray := by
  rw [List.setIfInBounds_toArray]
  simp [ints, List.map_set]
set_option maxHeartbeats 1000000 in
theorem chosen_any (out : List Int) (og n : Nat) (o : Int) (w : World) (q : Blk w og 2 (ints out).toArray) (hl : out.length = n) (hn1 : 1 ≤ n) (hn : n ≤ 1000) :
    Calls Tryz.prog 33 #[.slice (some ⟨og, 0, none⟩) n n, .int .i64 o] w fun e w' => ∃ b, e = .returned (.slice (some ⟨b, 0, none⟩) n n) ∧ Blk w' b 3 (ints (choS o out)).toArray ∧ Below w.heap.size w w' := by
  have hF := Lib.hid (fun (W : World) => filled_any n o W hn1 hn)
  have hlc : Hid ((choS o out).length = n) := Lib.hid (by simp [choS, hl])
  have hP := Lib.hid (fun (b : Nat) (w' : World) (h1 : Blk w' b 3 (ints (choS o out)).toArray) (h2 : Below w.heap.size w w') => (show ∃ b', Ending.returned (.slice (some ⟨b, 0, none⟩) n n) = .returned (.slice (some ⟨b', 0, none⟩) n n) ∧ Blk w' b' 3 (ints (choS o out)).toArray ∧ Below w.heap.size w w' from ⟨b, rfl, h1, h2⟩))
  replace hl := Lib.hid hl
  have hz0 : (0 : Int) ≤ n := by omega
  have hb : w.heap.size ≤ w.heap.size := Nat.le_refl _
  go_enter Tryz.func33, Tryz.ntmps33
  go_upto_region 2 with (go_at_call 52; refine (hF.out _).mono ?_; rintro e w2 ⟨rfl, qo, hb2⟩)
  have hq0 : (List.replicate n (Value.int .i64 o)).toArray = (ints (chI o (choS o out) 0)).toArray := by simp [ints, chI, hlc.out]
  rw [hq0] at qo
  have q2 := q.step hb2
  have hne : og < w.heap.size := q.lt
  clear q hF hq0
  go_wp2_with fail
  go_loopg [14] n (fun gk s14 wr => ∃ i : Nat, s14 = .int .i64 i ∧ i + gk = n ∧ Blk wr w.heap.size 3 (ints (chI o (choS o out) i)).toArray ∧ Blk wr og 2 (ints out).toArray ∧ Below w.heap.size w wr)
  case atStart => exact ⟨0, rfl, by omega, qo, q2, hb2⟩
  case round =>
    clear qo q2 hb2
    obtain ⟨i, rfl, hi, qo, q, hbr⟩ := hrel
    replace hi := Lib.hid hi
    by_cases hin : i < n
    · have hio : i < out.length := by have := hl.out; omega
      have hx : out[i]? = some out[i] := List.getElem?_eq_getElem hio
      have hcx : (choS o out)[i]? = some (if out[i] = Non then o else out[i]) := by unfold choS; rw [List.getElem?_map, hx]; rfl
      have x0 : wr.cell? ⟨og, i, none⟩ = some (.int .i64 out[i]) := by rw [q.cell, List.getElem?_toArray, ints, List.getElem?_map, hx]; rfl
      have hci : i < (chI o (choS o out) i).length := by rw [chI_len _ _ _ (by have := hlc.out; omega)]; have := hlc.out; omega
      have y0 : wr.cell? ⟨w.heap.size, i, none⟩ = some (.int .i64 ((chI o (choS o out) i)[i]'hci)) := by rw [qo.cell, List.getElem?_toArray, ints, List.getElem?_map, List.getElem?_eq_getElem hci]; rfl
      have y1 := qo.frozen i
      generalize out[i] = v at *
      generalize (chI o (choS o out) i)[i]'hci = u at y0
      have hz1 : (i : Int) < n := by omega
      have hz2 : (0 : Int) ≤ i := by omega
      replace hx := Lib.hid hx
      by_cases hv : v = Non
      · have hvb : (v == 9223372036854775807) = true := by rw [hv]; rfl
        have hvb2 : (v != 9223372036854775807) = false := by rw [hv]; rfl
        rw [if_pos hv] at hcx
        rw [chI_same _ _ _ hcx] at qo
        replace hcx := Lib.hid hcx
        clear hv y0 y1
        go_wp2_with fail
        go_roundg (n - (i + 1))
        case measure => have := hi.out; omega
        case rel => exact ⟨i + 1, by go_num, by have := hi.out; omega, qo, q, hbr⟩
      · have hvb : (v == 9223372036854775807) = false := by unfold Non at hv; simpa using hv
        have hvb2 : (v != 9223372036854775807) = true := by unfold Non at hv; simpa using hv
        rw [if_neg hv] at hcx
        have qo2 := qo.put i (.int .i64 v)
        rw [ints_set, chI_set _ _ _ _ hcx] at qo2
        have q2 := q.far (p := ⟨w.heap.size, i, none⟩) (by simp; omega) (.int .i64 v)
        have hb2 := bSet hbr ⟨w.heap.size, i, none⟩ (.int .i64 v) (Nat.le_refl _)
        replace hcx := Lib.hid hcx
        clear hv qo q hbr
        go_wp2_with fail
        go_roundg (n - (i + 1))
        case measure => have := hi.out; omega
        case rel => exact ⟨i + 1, by go_num, by have := hi.out; omega, qo2, q2, hb2⟩
    · have hin2 : i = n := by have := hi.out; omega
      subst hin2
      have he : chI o (choS o out) i = choS o out := by unfold chI; rw [List.take_of_length_le (by have := hlc.out; omega), hlc.out, Nat.sub_self]; simp
      rw [he] at qo
      go_wp2_with fail
      go_ret
      exact hP.out _ _ qo hbr
/-- what Lengths hands back -/
def RetLn (g : Gr) (w : World) (e : Ending) (w' : World) : Prop :=
  Below w.heap.size w w' ∧ ((gchk g ≠ 0 ∧ e = .returned (.tuple #[.slice none 0 0, .int .i64 (gchk g)])) ∨
    (gchk g = 0 ∧ ∃ (L : List Int) (b : Nat), e = .returned (.tuple #[.slice (some ⟨b, 0, none⟩) g.names.length g.names.length, .int .i64 0]) ∧ Blk w' b 3 (ints L).toArray ∧ LenL g.prods g.names.length L))
set_option maxRecDepth 100000 in
set_option maxHeartbeats 2000000 in
theorem lengths_any (g : Gr) (a : GA) (w : World) (hg : GrAt w w.heap.size g a) (hs : Small g) : Calls Tryz.prog 16 #[gval g a] w (RetLn g w) := by
  obtain ⟨ta, tc, na, nc, pa, pc⟩ := a
  have hG0 := GB.start hg
  have hC := Lib.hid (fun (W : World) (h : GrAt W W.heap.size g ⟨ta, tc, na, nc, pa, pc⟩) => gcheck_any g ⟨ta, tc, na, nc, pa, pc⟩ W h hs)
  by_cases h0 : gchk g = 0
  · have hR := Lib.hid (fun (L : List Int) (b : Nat) (w' : World) (h1 : Blk w' b 3 (ints L).toArray) (h2 : LenL g.prods g.names.length L) (h3 : Below w.heap.size w w') => (show RetLn g w (.returned (.tuple #[.slice (some ⟨b, 0, none⟩) g.names.length g.names.length, .int .i64 0])) w' from ⟨h3, .inr ⟨h0, L, b, rfl, h1, h2⟩⟩))
    have hps := Lib.hid (psok_of h0)
    have hnm := (gok_of h0).nm
    have hCo := Lib.hid (fun (W : World) (h : GrAt W W.heap.size g ⟨ta, tc, na, nc, pa, pc⟩) => costs_any g ⟨ta, tc, na, nc, pa, pc⟩ 0 1 W h h0 (by omega) (by omega))
    rw [h0] at hC
    clear hg h0 hs
    unfold gval at *
    unfold gcells at *
    dsimp only at *
    generalize RetLn g w = RR at *
    go_enter Tryz.func16, Tryz.ntmps16
    obtain ⟨c0, c1, c2, c3, c4, c5⟩ := hG0.cells
    dsimp only at c1 c3 c5
    go_upto_region 4 with (go_at_call 27; refine (hC.out _ (hG0.2.1.mono hG0.2.2.size)).mono ?_; rintro e w1 ⟨rfl, hb1⟩)
    have hG1 := hG0.step hb1
    clear c0 c1 c2 c3 c4 c5 hG0 hb1 hC
    obtain ⟨c0, c1, c2, c3, c4, c5⟩ := hG1.cells
    dsimp only at c1 c3 c5
    go_wp2_with (first
      | (go_at_call 34; refine (hCo.out _ (hG1.2.1.mono hG1.2.2.size)).mono ?_; rintro e w2 ⟨out, og, rfl, qo, hLe, hb2⟩)
      | (go_at_call 33; refine (chosen_any out og g.names.length (-1) w2 qo hLe.len hnm.1 (by omega)).mono ?_; rintro e w3 ⟨b, rfl, qb, hb3⟩))
    first
      | exact hR.out _ _ _ qb (hLe.lens hps.out) (bStep (bStep hG1.2.2 hb2) hb3)
      | (go_ret2; exact hR.out _ _ _ qb (hLe.lens hps.out) (bStep (bStep hG1.2.2 hb2) hb3))
  · have hR := Lib.hid (fun (w' : World) (h3 : Below w.heap.size w w') => (show RetLn g w (.returned (.tuple #[.slice none 0 0, .int .i64 (gchk g)])) w' from ⟨h3, .inl ⟨h0, rfl⟩⟩))
    have h1 : (gchk g == 0) = false := by simpa using h0
    have h2 : (gchk g != 0) = true := by simpa using h0
    generalize RetLn g w = RR at *
    clear hg hs h0
    generalize gchk g = E at *
    unfold gval at *
    unfold gcells at *
    dsimp only at *
    go_enter Tryz.func16, Tryz.ntmps16
    obtain ⟨c0, c1, c2, c3, c4, c5⟩ := hG0.cells
    dsimp only at c1 c3 c5
    go_wp2_with (go_at_call 27; refine (hC.out _ (hG0.2.1.mono hG0.2.2.size)).mono ?_; rintro e w1 ⟨rfl, hb1⟩)
    first
      | exact hR.out _ (hG0.step hb1).2.2
      | (go_ret2; exact hR.out _ (hG0.step hb1).2.2)
set_option maxHeartbeats 1000000 in
theorem index1_any (A : Option Addr) (n c : Nat) (l : List Int) (x : Int) (w : World) (B : Nat) (ha : Rd1 w B A n (ints l)) (hn : n ≤ 1000000) :
    Calls Tryz.prog 35 #[.slice A n c, .int .i64 x] w fun e w' => (∃ r : Int, e = .returned (.int .i64 r) ∧ (0 ≤ r ↔ x ∈ l)) ∧ w = w' := by
  have hl1 : l.length = n := by have := ha.1; simpa [ints] using this
  replace hl1 := Lib.hid hl1
  go_enter Tryz.func35, Tryz.ntmps35
  go_wp2_with fail
  go_loopg [8] n (fun gk s8 wr => ∃ i : Nat, s8 = .int .i64 i ∧ i + gk = n ∧ Hid (x ∉ l.take i) ∧ w = wr)
  case atStart => exact ⟨0, rfl, by omega, Lib.hid (by simp), rfl⟩
  case round =>
    obtain ⟨i, rfl, hi, ht, rfl⟩ := hrel
    replace hi := Lib.hid hi
    by_cases hin : i < n
    · have hil : i < l.length := by have := hl1.out; omega
      have hx : l[i]? = some l[i] := List.getElem?_eq_getElem hil
      obtain ⟨b1, off1, rfl, hbt1, x0⟩ := ha.get (show (ints l)[i]? = some (.int .i64 l[i]) by rw [ints, List.getElem?_map, hx]; rfl)
      have htk : l.take (i + 1) = l.take i ++ [l[i]] := List.take_succ_eq_append_getElem hil
      have hmem := List.getElem_mem hil
      generalize l[i] = y at *
      have hz0 : (0 : Int) ≤ i := by omega
      have hz1 : (i : Int) < n := by omega
      replace hx := Lib.hid hx
      by_cases hxy : x = y
      · subst hxy
        have hfin : Hid (0 ≤ (i : Int) ↔ x ∈ l) := Lib.hid ⟨fun _ => hmem, fun _ => by omega⟩
        replace htk := Lib.hid htk
        clear hmem
        go_wp2_with fail
        go_ret
        exact ⟨⟨_, rfl, hfin.out⟩, rfl⟩
      · have h1 : (x == y) = false := by simpa using hxy
        have ht2 : Hid (x ∉ l.take (i + 1)) := Lib.hid (by rw [htk]; simp; exact ⟨by simpa using ht.out, hxy⟩)
        replace htk := Lib.hid htk
        clear hxy
        go_wp2_with fail
        go_roundg (n - (i + 1))
        case measure => have := hi.out; omega
        case rel => exact ⟨i + 1, by go_num, by have := hi.out; omega, ht2, rfl⟩
    · have hfin : Hid (0 ≤ (-1 : Int) ↔ x ∈ l) := Lib.hid ⟨fun h => by omega, fun h => by
        have := ht.out
        rw [List.take_of_length_le (by have := hl1.out; omega)] at this
        exact absurd h this⟩
      go_wp2_with fail
      go_ret
      exact ⟨⟨_, rfl, hfin.out⟩, rfl⟩
theorem contains1_any (A : Option Addr) (n c : Nat) (l : List Int) (x : Int) (w : World) (B : Nat) (ha : Rd1 w B A n (ints l)) (hn : n ≤ 1000000) :
    Calls Tryz.prog 17 #[.slice A n c, .int .i64 x] w fun e w' => (∃ b : Bool, e = .returned (.bool b) ∧ (b = true ↔ x ∈ l)) ∧ w = w' := by
  have hI := Lib.hid (index1_any A n c l x w B ha hn)
  go_enter Tryz.func17, Tryz.ntmps17
  go_wp2_with (go_at_call 35; refine hI.out.mono ?_; rintro e w1 ⟨⟨r, rfl, hr⟩, rfl⟩; replace hr := Lib.hid hr)
  go_ret
  exact ⟨⟨_, rfl, by rw [decide_eq_true_iff]; exact hr.out⟩, rfl⟩
/-- what Least hands back -/
def RetLe (g : Gr) (w : World) (e : Ending) (w' : World) : Prop :=
  Below w.heap.size w w' ∧ ((gchk g ≠ 0 ∧ e = .returned (.tuple #[.slice none 0 0, .int .i64 (gchk g)])) ∨
    (gchk g = 0 ∧ ∃ L : List Int, LenL g.prods g.names.length L ∧ ((-1 ∈ L ∧ e = .returned (.tuple #[.slice none 0 0, .int .i64 16])) ∨
      (-1 ∉ L ∧ ∃ b : Nat, e = .returned (.tuple #[.slice (some ⟨b, 0, none⟩) g.names.length g.names.length, .int .i64 0]) ∧ Blk w' b 3 (ints L).toArray))))
theorem rd_ints {W : World} {b n : Nat} {L : List Int} (h : Blk W b 3 (ints L).toArray) (hl : L.length = n) : Rd1 W W.heap.size (some ⟨b, 0, none⟩) n (ints L) := by
  have := rd_row h
  rwa [show (ints L).toArray.size = n by simp [ints, hl]] at this
set_option maxRecDepth 100000 in
set_option maxHeartbeats 2000000 in
theorem least_any (g : Gr) (a : GA) (w : World) (hg : GrAt w w.heap.size g a) (hs : Small g) : Calls Tryz.prog 6 #[gval g a] w (RetLe g w) := by
  obtain ⟨ta, tc, na, nc, pa, pc⟩ := a
  have hG0 := GB.start hg
  have hC := Lib.hid (fun (W : World) (h : GrAt W W.heap.size g ⟨ta, tc, na, nc, pa, pc⟩) => lengths_any g ⟨ta, tc, na, nc, pa, pc⟩ W h hs)
  by_cases h0 : gchk g = 0
  · have hR := Lib.hid (fun (L : List Int) (b : Nat) (w' : World) (h1 : Blk w' b 3 (ints L).toArray) (h2 : LenL g.prods g.names.length L) (hno : -1 ∉ L) (h3 : Below w.heap.size w w') => (show RetLe g w (.returned (.tuple #[.slice (some ⟨b, 0, none⟩) g.names.length g.names.length, .int .i64 0])) w' from ⟨h3, .inr ⟨h0, L, h2, .inr ⟨hno, b, rfl, h1⟩⟩⟩))
    have hR2 := Lib.hid (fun (L : List Int) (w' : World) (h2 : LenL g.prods g.names.length L) (hno : -1 ∈ L) (h3 : Below w.heap.size w w') => (show RetLe g w (.returned (.tuple #[.slice none 0 0, .int .i64 16])) w' from ⟨h3, .inr ⟨h0, L, h2, .inl ⟨hno, rfl⟩⟩⟩))
    have hnm := (gok_of h0).nm
    have hC2 := Lib.hid (fun (W : World) (h : GrAt W W.heap.size g ⟨ta, tc, na, nc, pa, pc⟩) => (show Calls Tryz.prog 16 #[gval g ⟨ta, tc, na, nc, pa, pc⟩] W fun e w' => ∃ (L : List Int) (b : Nat), e = .returned (.tuple #[.slice (some ⟨b, 0, none⟩) g.names.length g.names.length, .int .i64 0]) ∧ Blk w' b 3 (ints L).toArray ∧ LenL g.prods g.names.length L ∧ Below W.heap.size W w' from
      (hC.out W h).mono fun e w' hr => by
        obtain ⟨hb, ⟨h1, _⟩ | ⟨_, L, b, h2, h3, h4⟩⟩ := hr
        · exact absurd h0 h1
        · exact ⟨L, b, h2, h3, h4, hb⟩))
    clear hg h0 hs hC
    unfold gval at *
    unfold gcells at *
    dsimp only at *
    generalize RetLe g w = RR at *
    go_enter Tryz.func6, Tryz.ntmps6
    obtain ⟨c0, c1, c2, c3, c4, c5⟩ := hG0.cells
    dsimp only at c1 c3 c5
    go_upto_region 4 with (go_at_call 16; refine (hC2.out _ (hG0.2.1.mono hG0.2.2.size)).mono ?_; rintro e w1 ⟨L, b, rfl, qb, hL, hb1⟩)
    have hcn := Lib.hid (contains1_any (some ⟨b, 0, none⟩) g.names.length g.names.length L (-1) w1 w1.heap.size (rd_ints qb hL.len) (by omega))
    have hbw := Lib.hid (bStep hG0.2.2 hb1)
    clear c0 c1 c2 c3 c4 c5 hG0 hb1 hC2
    by_cases hno : -1 ∈ L
    · have hcn2 := Lib.hid (show Calls Tryz.prog 17 #[.slice (some ⟨b, 0, none⟩) g.names.length g.names.length, .int .i64 (-1)] w1 (fun e w' => e = .returned (.bool true) ∧ w1 = w') from hcn.out.mono fun e w' ⟨⟨bb, h1, h2⟩, h3⟩ => ⟨by rw [h1, h2.2 hno], h3⟩)
      have hfin := Lib.hid (hR2.out L w1 hL hno hbw.out)
      clear hno hcn hL
      go_wp2_with (go_at_call 17; refine hcn2.out.mono ?_; rintro e w2 ⟨rfl, rfl⟩)
      first
        | exact hfin.out
        | (go_ret2; exact hfin.out)
    · have hcn2 := Lib.hid (show Calls Tryz.prog 17 #[.slice (some ⟨b, 0, none⟩) g.names.length g.names.length, .int .i64 (-1)] w1 (fun e w' => e = .returned (.bool false) ∧ w1 = w') from hcn.out.mono fun e w' ⟨⟨bb, h1, h2⟩, h3⟩ => ⟨by
        have hbb : bb = false := by
          cases bb with
          | true => exact absurd (h2.1 rfl) hno
          | false => rfl
        rw [h1, hbb], h3⟩)
      have hfin := Lib.hid (hR.out L b w1 qb hL hno hbw.out)
      clear hno hcn hL
      go_wp2_with (go_at_call 17; refine hcn2.out.mono ?_; rintro e w2 ⟨rfl, rfl⟩)
      first
        | exact hfin.out
        | (go_ret2; exact hfin.out)
  · have hR := Lib.hid (fun (w' : World) (h3 : Below w.heap.size w w') => (show RetLe g w (.returned (.tuple #[.slice none 0 0, .int .i64 (gchk g)])) w' from ⟨h3, .inl ⟨h0, rfl⟩⟩))
    have hC2 := Lib.hid (fun (W : World) (h : GrAt W W.heap.size g ⟨ta, tc, na, nc, pa, pc⟩) => (show Calls Tryz.prog 16 #[gval g ⟨ta, tc, na, nc, pa, pc⟩] W fun e w' => e = .returned (.tuple #[.slice none 0 0, .int .i64 (gchk g)]) ∧ Below W.heap.size W w' from
      (hC.out W h).mono fun e w' hr => by
        obtain ⟨hb, ⟨h1, h2⟩ | ⟨h1, _⟩⟩ := hr
        · exact ⟨h2, hb⟩
        · exact absurd h1 h0))
    have h1 : (gchk g == 0) = false := by simpa using h0
    have h2 : (gchk g != 0) = true := by simpa using h0
    generalize RetLe g w = RR at *
    clear hg hs h0 hC
    generalize gchk g = E at *
    unfold gval at *
    unfold gcells at *
    dsimp only at *
    go_enter Tryz.func6, Tryz.ntmps6
    obtain ⟨c0, c1, c2, c3, c4, c5⟩ := hG0.cells
    dsimp only at c1 c3 c5
    go_wp2_with (go_at_call 16; refine (hC2.out _ (hG0.2.1.mono hG0.2.2.size)).mono ?_; rintro e w1 ⟨rfl, hb1⟩)
    first
      | exact hR.out _ (hG0.step hb1).2.2
      | (go_ret2; exact hR.out _ (hG0.step hb1).2.2)
end Go.Proofs.YtlngbphchhbpbaaGreat

/- less, ends of the law; what ends in terminals derives itself. -/
namespace Go.Proofs.YtlngbphchhbpbaaGreat
open Go.ChangeShapes Go.WideShapes Go.ChangeAt Go.RowKit
set_option linter.unusedVariables false

theorem drop_consG {l : List Int} {i : Nat} {x : Int} (h : l[i]? = some x) : l.drop i = x :: l.drop (i + 1) := by
  obtain ⟨h1, rfl⟩ := List.getElem?_eq_some_iff.1 h
  exact List.drop_eq_getElem_cons h1
theorem lex_same {a b : List Int} {i : Nat} {x : Int} (h1 : a[i]? = some x) (h2 : b[i]? = some x) : lex (a.drop i) (b.drop i) = lex (a.drop (i + 1)) (b.drop (i + 1)) := by
  rw [drop_consG h1, drop_consG h2]
  conv => lhs; unfold lex
  rw [if_neg (by omega), if_neg (by omega)]
theorem lex_diff {a b : List Int} {i : Nat} {x y : Int} (h1 : a[i]? = some x) (h2 : b[i]? = some y) (h : x ≠ y) : decide (lex (a.drop i) (b.drop i) = -1) = decide (x < y) := by
  rw [drop_consG h1, drop_consG h2]
  unfold lex
  by_cases hlt : x < y
  · rw [if_pos hlt]; simp [hlt]
  · rw [if_neg hlt, if_pos (by omega)]; simp [hlt]
end Go.Proofs.YtlngbphchhbpbaaGreat

/- The statements' own helper awake: the chapter's examples hold. -/
namespace Go.Proofs.YtlngbphchhbpbaaGreat
open Go.ChangeShapes Go.WideShapes Go.ChangeAt Go.RowKit
set_option linter.unusedVariables false

theorem rn_ok {g : Gr} {ps : List Int} {w : World} (h : runE g ps = 0) {e : Ending} {w' : World} (hr : RetRn g ps w e w') : ∃ v, e = .returned (.tuple #[v, .int .i64 0]) ∧ RdI w' v (runF g [g.start] ps).2 ∧ Below w.heap.size w w' := by
  obtain ⟨hb, ⟨h1, _⟩ | ⟨_, v, rfl, hv⟩⟩ := hr
  · exact absurd h h1
  · exact ⟨v, rfl, hv, hb⟩
theorem sn_ok {g : Gr} {most : Nat} {w : World} (h : ¬ Big g.toks.length most) {e : Ending} {w' : World} (hr : RetSn g most w e w') : ∃ v L addr, e = .returned (.tuple #[v, .int .i64 0]) ∧ SSet g most L ∧ OwnTT w' w.heap.size v L addr ∧ Below w.heap.size w w' := by
  obtain ⟨hb, ⟨h1, _⟩ | ⟨v, L, addr, rfl, h2, h3⟩⟩ := hr
  · exact absurd h1 h
  · exact ⟨v, L, addr, rfl, h2, h3, hb⟩
theorem exD_small : Small exD := small_of exD_ok
theorem exD_sent {L : List (List Int)} (h : SSet exD 3 L) : L = [[1], [1, 1], [0, 1, 1], [1, 1, 1]] := ex_sent h.1 h.2
/-- the lists that awake holds against the answer -/
def lits4 (W : World) : World := ((((W.alloc (.cells #[.int .i64 1] 3)).alloc (.cells #[.int .i64 1, .int .i64 1] 3)).alloc (.cells #[.int .i64 0, .int .i64 1, .int .i64 1] 3)).alloc (.cells #[.int .i64 1, .int .i64 1, .int .i64 1] 3)).alloc
  (.cells #[.slice (some ⟨W.heap.size, 0, none⟩) 1 1, .slice (some ⟨W.heap.size + 1, 0, none⟩) 2 2, .slice (some ⟨W.heap.size + 1 + 1, 0, none⟩) 3 3, .slice (some ⟨W.heap.size + 1 + 1 + 1, 0, none⟩) 3 3] 26)
theorem lits4_below (W : World) : Below W.heap.size W (lits4 W) := bAlc (bAlc (bAlc (bAlc (bAlc (Below.refl _ _) _) _) _) _) _
theorem lits4_rd (W : World) : RdLL (lits4 W) (lits4 W).heap.size (some ⟨W.heap.size + 1 + 1 + 1 + 1, 0, none⟩) 4 [[1], [1, 1], [0, 1, 1], [1, 1, 1]] := by
  have p0 : Blk (lits4 W) W.heap.size 3 #[.int .i64 1] := ((((Blk.new _ _ _).alloc _).alloc _).alloc _).alloc _
  have p1 : Blk (lits4 W) (W.heap.size + 1) 3 #[.int .i64 1, .int .i64 1] := (((Blk.newAt _ _ _ _ (by simp)).alloc _).alloc _).alloc _
  have p2 : Blk (lits4 W) (W.heap.size + 1 + 1) 3 #[.int .i64 0, .int .i64 1, .int .i64 1] := ((Blk.newAt _ _ _ _ (by simp)).alloc _).alloc _
  have p3 : Blk (lits4 W) (W.heap.size + 1 + 1 + 1) 3 #[.int .i64 1, .int .i64 1, .int .i64 1] := (Blk.newAt _ _ _ _ (by simp)).alloc _
  have p4 : Blk (lits4 W) (W.heap.size + 1 + 1 + 1 + 1) 26 #[.slice (some ⟨W.heap.size, 0, none⟩) 1 1, .slice (some ⟨W.heap.size + 1, 0, none⟩) 2 2, .slice (some ⟨W.heap.size + 1 + 1, 0, none⟩) 3 3, .slice (some ⟨W.heap.size + 1 + 1 + 1, 0, none⟩) 3 3] := Blk.newAt _ _ _ _ (by simp)
  refine ⟨rfl, .inr ⟨_, 0, rfl, p4.lt, fun i l hl => ?_⟩⟩
  have hlt := (List.getElem?_eq_some_iff.1 hl).1
  simp only [List.length_cons, List.length_nil] at hlt
  rcases (by omega : i = 0 ∨ i = 1 ∨ i = 2 ∨ i = 3) with rfl | rfl | rfl | rfl
  · cases hl; exact ⟨_, _, p4.cell 0, rd_row p0⟩
  · cases hl; exact ⟨_, _, p4.cell 1, rd_row p1⟩
  · cases hl; exact ⟨_, _, p4.cell 2, rd_row p2⟩
  · cases hl; exact ⟨_, _, p4.cell 3, rd_row p3⟩

set_option maxRecDepth 100000 in
set_option maxHeartbeats 4000000 in
theorem awake_any (w : World) : Calls Tryz.prog 5 #[] w fun e w' => e = .returned (.bool true) ∧ Below w.heap.size w w' := by
  have hE := Lib.hid (fun W => example_any W)
  have hR := Lib.hid (fun (a : GA) (A : Option Addr) (c : Nat) (W : World) (h : GrAt W W.heap.size exD a) (h2 : Rd1 W W.heap.size A 3 (ints [0, 1, 2])) => (run_any exD a A 3 c [0, 1, 2] W h exD_small h2 (by simp [maxLen])).mono fun _ _ h => rn_ok exD_runE h)
  rw [exD_run] at hR
  have hSn := Lib.hid (fun (a : GA) (W : World) (h : GrAt W W.heap.size exD a) => (show Calls Tryz.prog 14 #[gval exD a, .int .i64 3] W (fun e w' => ∃ v L addr, e = .returned (.tuple #[v, .int .i64 0]) ∧ SSet exD 3 L ∧ OwnTT w' W.heap.size v L addr ∧ Below W.heap.size W w') from
    (sentences_any exD a 3 W h exD_ok (by omega)).mono fun _ _ h => sn_ok (show ¬ Big exD.toks.length 3 from ex_small) h))
  go_enter Tryz.func5, Tryz.ntmps5
  go_upto_region 2 with (first
    | (go_at_call 13; refine (hE.out _).mono ?_; rintro e w1 ⟨a, rfl, hg1, hb1⟩)
    | (go_at_call 12; refine (hR.out a (some ⟨w1.heap.size, 0, none⟩) 3 _ ((hg1.below (bAlc (Below.refl _ _) _)).mono (by simp)) (rd_row (Blk.new w1 3 #[.int .i64 0, .int .i64 1, .int .i64 2]))).mono ?_; rintro e w2 ⟨v2, rfl, hv2, hb2⟩))
  obtain ⟨A2, c2, rfl, hrd2, _, hcm2⟩ := hv2
  have hb3 : Below w.heap.size w w2 := bStep (bAlc hb1 _) hb2
  clear hR hg1 hb1 hb2
  go_upto_region 3 with (first
    | (go_at_call 13; refine (hE.out _).mono ?_; rintro e w3 ⟨a3, rfl, hg3, hb4⟩)
    | (go_at_call 14; refine (hSn.out a3 _ hg3).mono ?_; rintro e w4 ⟨v4, L4, addr4, rfl, hL4, hv4, hb5⟩))
  have hLe := exD_sent hL4
  subst hLe
  obtain ⟨A4, c4, rfl, hrd4, _, hcm4⟩ := hv4.reads
  have hb24 : Below w2.heap.size w2 w4 := bStep hb4 hb5
  have hrd2' := Lib.hid ((hrd2.below hb24).mono hb24.size)
  have hrd4' := Lib.hid hrd4
  have hb6 := bStep hb3 hb24
  clear hE hSn hL4 hv4 hg3 hb4 hb5 hrd2 hrd4 hb24 hb3 hcm2 hcm4
  have hI := Lib.hid (fun (g : Nat) (W : World) (h1 : Rd1 W W.heap.size A2 3 (ints [0, 1, 1])) (h2 : Blk W g 3 #[.int .i64 0, .int .i64 1, .int .i64 1]) => sameints_any A2 (some ⟨g, 0, none⟩) 3 3 c2 3 [0, 1, 1] [0, 1, 1] W W.heap.size h1 (rd_row h2) (by simp [maxLen]) (by simp [maxLen]))
  simp only [decide_true] at hI
  have hJ := Lib.hid (fun (g : Nat) (W : World) (h1 : RdLL W W.heap.size A4 4 [[1], [1, 1], [0, 1, 1], [1, 1, 1]]) (h2 : RdLL W W.heap.size (some ⟨g, 0, none⟩) 4 [[1], [1, 1], [0, 1, 1], [1, 1, 1]]) => samelists_true A4 (some ⟨g, 0, none⟩) 4 c4 4 [[1], [1, 1], [0, 1, 1], [1, 1, 1]] W W.heap.size h1 h2 (by simp [maxLen]) (by intro l hl; simp at hl; rcases hl with rfl | rfl | rfl | rfl <;> simp [maxLen]) (Nat.le_refl _))
  go_wp2_with (go_at_call 10; refine (hI.out w4.heap.size _ ((hrd2'.out.below (bAlc (Below.refl _ _) _)).mono (by simp)) (Blk.new w4 3 _)).mono ?_; rintro e w5 ⟨rfl, hb7⟩)
  have hb57 : Below w4.heap.size w4 (lits4 w5) := bStep (bStep (bAlc (Below.refl _ _) _) hb7) (lits4_below w5)
  refine (hJ.out _ (lits4 w5) ((hrd4'.out.below hb57).mono hb57.size) (lits4_rd w5)).mono ?_
  rintro e w6 ⟨rfl, hb8⟩
  have hb9 := bStep (bStep hb6 hb57) hb8
  clear hI hJ hrd2' hrd4' hb6 hb57 hb7 hb8
  go_wp2_with fail
  go_ret
  exact ⟨rfl, hb9⟩
end Go.Proofs.YtlngbphchhbpbaaGreat

/- SmallGrammar: what it lets by. -/
namespace Go.Proofs.YtlngbphchhbpbaaGreat
open Go.ChangeShapes Go.WideShapes Go.ChangeAt Go.RowKit
set_option linter.unusedVariables false

/-- few productions, with short right sides -/
structure LightP (g : Gr) : Prop where
  t : g.toks.length ≤ 10
  n : g.names.length ≤ 10
  p : g.prods.length ≤ 30
  r : ∀ p ∈ g.prods, p.right.length ≤ 8
theorem LightP.small {g : Gr} (h : LightP g) : Small g := ⟨by have := h.t; omega, by have := h.n; omega, by have := h.p; omega, fun p hp => by have := h.r p hp; omega⟩
def SmallP (g : Gr) : Prop := LightP g ∧ (g.k < 1 ∨ 4 < g.k ∨ (g.k = 1 ∧ g.toks.length ≤ 8) ∨ (g.k = 2 ∧ g.toks.length ≤ 3) ∨ (g.k = 3 ∧ g.toks.length ≤ 2))
/-- a Bool that shows P -/
def RetP1 (P : Prop) (w : World) (e : Ending) (w' : World) : Prop := ∃ b : Bool, e = .returned (.bool b) ∧ (b = true → P) ∧ Below w.heap.size w w'

set_option maxHeartbeats 1000000 in
theorem short_some (A : Option Addr) (n c : Nat) (l : List ByteArray) (w : World) (h : Rd1 w w.heap.size A n (strs l)) (hn : n ≤ maxLen) (hl : ∀ s ∈ l, s.size ≤ maxLen) : Calls Tryz.prog 11 #[.slice A n c, .int .i64 40] w (RetP1 True w) := by
  have hlen : l.length = n := by have := h.1; simpa [strs] using this
  unfold maxLen at hn hl
  have hP := Lib.hid (fun (b : Bool) (w' : World) (h : Below w.heap.size w w') => (show RetP1 True w (.returned (.bool b)) w' from ⟨b, rfl, fun _ => trivial, h⟩))
  have hl' := Lib.hid hl
  go_enter Tryz.func11, Tryz.ntmps11
  go_wp2_with fail
  go_loopg [5] n (fun gk s5 wr => ∃ i : Nat, s5 = .int .i64 i ∧ i + gk = n ∧ Below w.heap.size w wr)
  case atStart => exact ⟨0, rfl, by omega, Below.refl _ _⟩
  case round =>
    obtain ⟨i, rfl, hi, hb⟩ := hrel
    replace hi := Lib.hid hi
    by_cases hin : i < n
    · have hx : l[i]? = some l[i] := List.getElem?_eq_getElem (by omega)
      have hs := hl'.out _ (List.getElem_mem (show i < l.length by omega))
      obtain ⟨b, off, rfl, hbt, x0⟩ := h.get (show (strs l)[i]? = some (.string l[i]) by rw [strs, List.getElem?_map, hx]; rfl)
      have x0' := (hb.cell (p := ⟨b, off + i, none⟩) hbt).trans x0
      generalize l[i] = s at *
      have hz0 : (0 : Int) ≤ i := by omega
      have hz1 : (i : Int) < n := by omega
      clear x0
      by_cases h4 : 40 < s.size
      · have hz2 : (40 : Int) < s.size := by omega
        go_wp2_with fail
        go_ret
        exact hP.out _ _ hb
      · have hz2 : ¬ (40 : Int) < s.size := by omega
        go_wp2_with fail
        go_roundg (n - (i + 1))
        case measure => have := hi.out; omega
        case rel => exact ⟨i + 1, by go_num, by have := hi.out; omega, hb⟩
    · go_wp2_with fail
      go_ret
      exact hP.out _ _ hb

set_option maxHeartbeats 2000000 in
theorem light_some (g : Gr) (a : GA) (w : World) (hg : GrAt w w.heap.size g a) : Calls Tryz.prog 4 #[gval g a] w (RetP1 (LightP g) w) := by
  have hP := Lib.hid (fun (w' : World) (h1 : LightP g) (h : Below w.heap.size w w') => (show RetP1 (LightP g) w (.returned (.bool true)) w' from ⟨true, rfl, fun _ => h1, h⟩))
  have hN := Lib.hid (fun (w' : World) (h : Below w.heap.size w w') => (show RetP1 (LightP g) w (.returned (.bool false)) w' from ⟨false, rfl, (fun e => by cases e), h⟩))
  obtain ⟨ta, tc, na, nc, pa, pc⟩ := a
  have hG0 := GB.start hg
  have htc := hg.tc
  have htm := hg.tm
  have hnc := hg.nc
  have hnm := hg.nm
  have hpc := hg.pc
  have hpm := hg.pm
  have hsep := hg.sep
  have hS1 := Lib.hid (fun (W : World) (h : GrAt W W.heap.size g ⟨ta, tc, na, nc, pa, pc⟩) => short_some ta g.toks.length tc g.toks W h.toks (by have := h.tc; have := h.tm; dsimp only at *; omega) h.ts)
  have hS2 := Lib.hid (fun (W : World) (h : GrAt W W.heap.size g ⟨ta, tc, na, nc, pa, pc⟩) => short_some na g.names.length nc g.names W h.names (by have := h.nc; have := h.nm; dsimp only at *; omega) h.ns)
  clear hg
  dsimp only at htc htm hnc hnm hpc hpm
  unfold maxLen at htm hnm hpm hsep
  unfold gval at *
  unfold gcells at *
  dsimp only at *
  go_enter Tryz.func4, Tryz.ntmps4
  go_upto_region 1 with (fail)
  generalize w.alloc (.cells #[.int .i64 g.k, .slice ta g.toks.length tc, .string g.sep, .slice na g.names.length nc, .int .i64 g.start, .slice pa g.prods.length pc] 25) = W at *
  obtain ⟨c0, c1, c2, c3, c4, c5⟩ := hG0.cells
  dsimp only at c1 c3 c5
  by_cases h1 : 10 < g.toks.length
  · have z1 : (10 : Int) < g.toks.length := by omega
    go_wp2_with fail
    go_ret
    exact hN.out _ hG0.2.2
  have z1 : ¬ (10 : Int) < g.toks.length := by omega
  by_cases h2 : 10 < g.names.length
  · have z2 : (10 : Int) < g.names.length := by omega
    go_wp2_with fail
    go_ret
    exact hN.out _ hG0.2.2
  have z2 : ¬ (10 : Int) < g.names.length := by omega
  by_cases h3 : 30 < g.prods.length
  · have z3 : (30 : Int) < g.prods.length := by omega
    go_wp2_with fail
    go_ret
    exact hN.out _ hG0.2.2
  have z3 : ¬ (30 : Int) < g.prods.length := by omega
  by_cases h4 : 40 < g.sep.size
  · have z4 : (40 : Int) < g.sep.size := by omega
    go_wp2_with fail
    go_ret
    exact hN.out _ hG0.2.2
  have z4 : ¬ (40 : Int) < g.sep.size := by omega
  go_wp2_with fail
  refine (hS1.out _ ((hG0.2.1).mono hG0.2.2.size)).mono ?_
  rintro e w1 ⟨b1, rfl, _, hb1⟩
  have hG1 := hG0.step hb1
  clear hG0 hb1 c0 c1 c2 c3 c4 c5
  obtain ⟨c0, c1, c2, c3, c4, c5⟩ := hG1.cells
  dsimp only at c1 c3 c5
  cases b1 with
  | false =>
    go_wp2_with fail
    go_ret
    exact hN.out _ hG1.2.2
  | true =>
    go_wp2_with fail
    refine (hS2.out _ ((hG1.2.1).mono hG1.2.2.size)).mono ?_
    rintro e w2 ⟨b2, rfl, _, hb2⟩
    have hG2 := hG1.step hb2
    clear hG1 hb2 c0 c1 c2 c3 c4 c5
    obtain ⟨c0, c1, c2, c3, c4, c5⟩ := hG2.cells
    dsimp only at c1 c3 c5
    cases b2 with
    | false =>
      go_wp2_with fail
      go_ret
      exact hN.out _ hG2.2.2
    | true =>
      go_wp2_with fail
      clear c0 c1 c2 c3 c4 c5
      go_loopg [3] g.prods.length (fun gk s3 wr => ∃ i : Nat, s3 = .int .i64 i ∧ i + gk = g.prods.length ∧ Hid (∀ p ∈ g.prods.take i, p.right.length ≤ 8) ∧ GB w g ⟨ta, tc, na, nc, pa, pc⟩ wr)
      case atStart => exact ⟨0, rfl, by omega, Lib.hid (by simp), hG2⟩
      case round =>
        clear hG2
        obtain ⟨i, rfl, hi, hr, hG⟩ := hrel
        replace hi := Lib.hid hi
        obtain ⟨c0, c1, c2, c3, c4, c5⟩ := hG.cells
        dsimp only at c1 c3 c5
        by_cases hin : i < g.prods.length
        · have hxi : g.prods[i]? = some g.prods[i] := List.getElem?_eq_getElem hin
          obtain ⟨b, off, hA, hbt, x0, RA, rc, x1, hx2, hx3, hx4⟩ := hG.2.1.prods.get hxi
          dsimp only at hA
          subst hA
          have htk : g.prods.take (i + 1) = g.prods.take i ++ [g.prods[i]] := List.take_succ_eq_append_getElem hin
          generalize g.prods[i] = p at *
          replace hxi := Lib.hid hxi
          replace htk := Lib.hid htk
          unfold maxLen at hx4
          have hz0 : (0 : Int) ≤ i := by omega
          have hz1 : (i : Int) < g.prods.length := by omega
          by_cases h8 : 8 < p.right.length
          · have z8 : (8 : Int) < p.right.length := by omega
            go_wp2_with fail
            go_ret
            exact hN.out _ hG.2.2
          · have z8 : ¬ (8 : Int) < p.right.length := by omega
            have hr2 : Hid (∀ q ∈ g.prods.take (i + 1), q.right.length ≤ 8) := Lib.hid (by
              intro q hq
              rw [htk.out] at hq
              rcases List.mem_append.1 hq with h | h
              · exact hr.out q h
              · simp at h; subst h; omega)
            go_wp2_with fail
            go_roundg (g.prods.length - (i + 1))
            case measure => have := hi.out; omega
            case rel => exact ⟨i + 1, by go_num, by have := hi.out; omega, hr2, hG⟩
        · have hL : Hid (LightP g) := Lib.hid ⟨by omega, by omega, by omega, fun p hp => hr.out p (by rw [List.take_of_length_le (by omega)]; exact hp)⟩
          go_wp2_with fail
          go_ret
          exact hP.out _ hL.out hG.2.2

end Go.Proofs.YtlngbphchhbpbaaGreat

/- The symbols of a grammar; Check of both sides. -/
namespace Go.Proofs.YtlngbphchhbpbaaGreat
open Go.ChangeShapes Go.WideShapes Go.ChangeAt Go.RowKit
set_option linter.unusedVariables false

set_option maxHeartbeats 1000000 in
theorem symbol_any (g : Gr) (a : GA) (s : Int) (w : World) (ht : g.toks.length ≤ 1000000) (hn : g.names.length ≤ 1000000) : Calls Tryz.prog 40 #[gval g a, .int .i64 s] w fun e w' => e = .returned (.bool (syB g s)) ∧ Below w.heap.size w w' := by
  unfold gval gcells syB tmB ntB
  by_cases h1 : 0 ≤ s
  · by_cases h2 : s < (g.toks.length : Int)
    · rw [decide_eq_true ⟨h1, h2⟩, Bool.true_or]
      go_enter Tryz.func40, Tryz.ntmps40
      go_wp2_with fail
      go_ret
      exact ⟨rfl, bAlc (Below.refl _ _) _⟩
    · rw [decide_eq_false (fun h : 0 ≤ s ∧ s < (g.toks.length : Int) => h2 h.2), Bool.false_or]
      by_cases h3 : 16 ≤ s
      · by_cases h4 : s < 16 + (g.names.length : Int)
        · rw [decide_eq_true ⟨h3, h4⟩]
          go_enter Tryz.func40, Tryz.ntmps40
          go_wp2_with fail
          go_ret
          exact ⟨by simp_all, bAlc (Below.refl _ _) _⟩
        · rw [decide_eq_false (fun h : 16 ≤ s ∧ s < 16 + (g.names.length : Int) => h4 h.2)]
          go_enter Tryz.func40, Tryz.ntmps40
          go_wp2_with fail
          go_ret
          exact ⟨by simp_all, bAlc (Below.refl _ _) _⟩
      · rw [decide_eq_false (fun h : 16 ≤ s ∧ s < 16 + (g.names.length : Int) => h3 h.1)]
        go_enter Tryz.func40, Tryz.ntmps40
        go_wp2_with fail
        go_ret
        exact ⟨by simp_all, bAlc (Below.refl _ _) _⟩
  · have h3 : ¬ 16 ≤ s := by omega
    rw [decide_eq_false (fun h : 0 ≤ s ∧ s < (g.toks.length : Int) => h1 h.1), decide_eq_false (fun h : 16 ≤ s ∧ s < 16 + (g.names.length : Int) => h3 h.1)]
    go_enter Tryz.func40, Tryz.ntmps40
    go_wp2_with fail
    go_ret
    exact ⟨by simp_all, bAlc (Below.refl _ _) _⟩

/-- some string -/
def RetStr (w : World) (e : Ending) (w' : World) : Prop := ∃ s, e = .returned (.string s) ∧ Below w.heap.size w w'
set_option maxHeartbeats 1000000 in
theorem called_any (g : Gr) (a : GA) (s : Int) (w : World) (hg : GrAt w w.heap.size g a) (hs : Small g) (hy : syB g s = true) : Calls Tryz.prog 62 #[gval g a, .int .i64 s] w (RetStr w) := by
  obtain ⟨ta, tc, na, nc, pa, pc⟩ := a
  have hP := Lib.hid (fun (x : ByteArray) (w' : World) h => (show RetStr w (.returned (.string x)) w' from ⟨x, rfl, h⟩))
  have hG0 := GB.start hg
  have hT := Lib.hid (fun (W : World) => terminal_any g ⟨ta, tc, na, nc, pa, pc⟩ s W (by have := hs.t; omega))
  have hs1 := hs.t
  have hs2 := hs.n
  clear hg hs
  unfold gval at *
  unfold gcells at *
  dsimp only at *
  obtain ⟨c0, c1, c2, c3, c4, c5⟩ := hG0.cells
  dsimp only at c1 c3 c5
  cases ht : tmB g s with
  | true =>
    rw [ht] at hT
    have hb : 0 ≤ s ∧ s < (g.toks.length : Int) := of_decide_eq_true ht
    obtain ⟨j, rfl⟩ := Int.eq_ofNat_of_zero_le hb.1
    have hj : j < g.toks.length := by omega
    go_enter Tryz.func62, Tryz.ntmps62
    go_upto_region 2 with (go_at_call 60; refine (hT.out _).mono ?_; rintro e w1 ⟨rfl, hb1⟩)
    have hG1 := hG0.step hb1
    obtain ⟨b, off, hta, hbt, x0⟩ := hG1.2.1.toks.get (show (strs g.toks)[j]? = some (.string g.toks[j]) by rw [strs, List.getElem?_map, List.getElem?_eq_getElem hj]; rfl)
    dsimp only at hta
    subst hta
    generalize g.toks[j] = tx at *
    have hzj : (0 : Int) ≤ j := by omega
    have hzj2 : (j : Int) < g.toks.length := by omega
    clear c0 c1 c2 c3 c4 c5 hG0 hb ht
    obtain ⟨c0, c1, c2, c3, c4, c5⟩ := hG1.cells
    dsimp only at c1 c3 c5
    go_wp2_with fail
    go_ret
    exact hP.out tx _ hG1.2.2
  | false =>
    rw [ht] at hT
    have hn : ntB g s = true := by
      unfold syB at hy
      rw [ht, Bool.false_or] at hy
      exact hy
    have hb : 16 ≤ s ∧ s < 16 + (g.names.length : Int) := of_decide_eq_true hn
    obtain ⟨j, hj0⟩ := Int.eq_ofNat_of_zero_le (show 0 ≤ s - 16 by omega)
    have hj : j < g.names.length := by omega
    go_enter Tryz.func62, Tryz.ntmps62
    go_upto_region 3 with (go_at_call 60; refine (hT.out _).mono ?_; rintro e w1 ⟨rfl, hb1⟩)
    have hG1 := hG0.step hb1
    obtain ⟨b, off, hta, hbt, x0⟩ := hG1.2.1.names.get (show (strs g.names)[j]? = some (.string g.names[j]) by rw [strs, List.getElem?_map, List.getElem?_eq_getElem hj]; rfl)
    dsimp only at hta
    subst hta
    generalize g.names[j] = tx at *
    have hzj : (0 : Int) ≤ j := by omega
    have hzj2 : (j : Int) < g.names.length := by omega
    clear c0 c1 c2 c3 c4 c5 hG0 hb ht hn hy
    obtain ⟨c0, c1, c2, c3, c4, c5⟩ := hG1.cells
    dsimp only at c1 c3 c5
    go_wp2_with fail
    go_ret
    exact hP.out tx _ hG1.2.2

/-- some string, and the error E -/
def RetNm (E : Int) (w : World) (e : Ending) (w' : World) : Prop := ∃ s, e = .returned (.tuple #[.string s, .int .i64 E]) ∧ Below w.heap.size w w'
set_option maxHeartbeats 1000000 in
theorem name_any (g : Gr) (a : GA) (s : Int) (w : World) (hg : GrAt w w.heap.size g a) (hok : gchk g = 0) : Calls Tryz.prog 38 #[gval g a, .int .i64 s] w (RetNm (if syB g s = true then 0 else 14) w) := by
  obtain ⟨ta, tc, na, nc, pa, pc⟩ := a
  have hs := small_of hok
  have hP := Lib.hid (fun (E : Int) (x : ByteArray) (w' : World) h => (show RetNm E w (.returned (.tuple #[.string x, .int .i64 E])) w' from ⟨x, rfl, h⟩))
  have hG0 := GB.start hg
  have hC := Lib.hid (fun (W : World) (h : GrAt W W.heap.size g ⟨ta, tc, na, nc, pa, pc⟩) => gcheck_any g ⟨ta, tc, na, nc, pa, pc⟩ W h hs)
  rw [hok] at hC
  have hT := Lib.hid (fun (W : World) => terminal_any g ⟨ta, tc, na, nc, pa, pc⟩ s W (by have := hs.t; omega))
  have hN := Lib.hid (fun (W : World) => nonterm_any g ⟨ta, tc, na, nc, pa, pc⟩ s W (by have := hs.n; omega))
  have hD := Lib.hid (fun (hy : syB g s = true) (W : World) (h : GrAt W W.heap.size g ⟨ta, tc, na, nc, pa, pc⟩) => called_any g ⟨ta, tc, na, nc, pa, pc⟩ s W h hs hy)
  clear hg hs hok
  unfold gval at *
  unfold gcells at *
  dsimp only at *
  obtain ⟨c0, c1, c2, c3, c4, c5⟩ := hG0.cells
  dsimp only at c1 c3 c5
  have hsy : syB g s = (tmB g s || ntB g s) := rfl
  cases ht : tmB g s with
  | true =>
    rw [ht] at hT
    rw [ht, Bool.true_or] at hsy
    rw [if_pos hsy]
    have hD2 := Lib.hid (hD.out hsy)
    clear hD hsy ht
    go_enter Tryz.func38, Tryz.ntmps38
    go_upto_region 2 with (go_at_call 27; refine (hC.out _ (hG0.2.1.mono hG0.2.2.size)).mono ?_; rintro e w1 ⟨rfl, hb1⟩)
    have hG1 := hG0.step hb1
    clear c0 c1 c2 c3 c4 c5 hG0 hb1
    obtain ⟨c0, c1, c2, c3, c4, c5⟩ := hG1.cells
    dsimp only at c1 c3 c5
    go_upto_region 6 with (go_at_call 60; refine (hT.out _).mono ?_; rintro e w2 ⟨rfl, hb2⟩)
    have hG2 := hG1.step hb2
    clear c0 c1 c2 c3 c4 c5 hG1 hb2
    obtain ⟨c0, c1, c2, c3, c4, c5⟩ := hG2.cells
    dsimp only at c1 c3 c5
    go_wp2_with (go_at_call 62; refine (hD2.out _ (hG2.2.1.mono hG2.2.2.size)).mono ?_; rintro e w3 ⟨x, rfl, hb3⟩)
    go_ret2
    exact hP.out 0 x _ (hG2.step hb3).2.2
  | false =>
    rw [ht] at hT
    rw [ht, Bool.false_or] at hsy
    cases hn : ntB g s with
    | true =>
      rw [hn] at hN hsy
      rw [if_pos hsy]
      have hD2 := Lib.hid (hD.out hsy)
      clear hD hsy ht hn
      go_enter Tryz.func38, Tryz.ntmps38
      go_upto_region 2 with (go_at_call 27; refine (hC.out _ (hG0.2.1.mono hG0.2.2.size)).mono ?_; rintro e w1 ⟨rfl, hb1⟩)
      have hG1 := hG0.step hb1
      clear c0 c1 c2 c3 c4 c5 hG0 hb1
      obtain ⟨c0, c1, c2, c3, c4, c5⟩ := hG1.cells
      dsimp only at c1 c3 c5
      go_upto_region 6 with (first
        | (go_at_call 60; refine (hT.out _).mono ?_; rintro e w2 ⟨rfl, hb2⟩; have hG2 := hG1.step hb2; clear c0 c1 c2 c3 c4 c5; obtain ⟨c0, c1, c2, c3, c4, c5⟩ := hG2.cells; dsimp only at c1 c3 c5)
        | (go_at_call 61; refine (hN.out _).mono ?_; rintro e w3 ⟨rfl, hb3⟩))
      have hG3 := hG2.step hb3
      clear c0 c1 c2 c3 c4 c5 hG1 hb2 hG2 hb3
      obtain ⟨c0, c1, c2, c3, c4, c5⟩ := hG3.cells
      dsimp only at c1 c3 c5
      go_wp2_with (go_at_call 62; refine (hD2.out _ (hG3.2.1.mono hG3.2.2.size)).mono ?_; rintro e w4 ⟨x, rfl, hb4⟩)
      go_ret2
      exact hP.out 0 x _ (hG3.step hb4).2.2
    | false =>
      rw [hn] at hN hsy
      rw [if_neg (by rw [hsy]; simp)]
      clear hD hsy ht hn
      go_enter Tryz.func38, Tryz.ntmps38
      go_upto_region 2 with (go_at_call 27; refine (hC.out _ (hG0.2.1.mono hG0.2.2.size)).mono ?_; rintro e w1 ⟨rfl, hb1⟩)
      have hG1 := hG0.step hb1
      clear c0 c1 c2 c3 c4 c5 hG0 hb1
      obtain ⟨c0, c1, c2, c3, c4, c5⟩ := hG1.cells
      dsimp only at c1 c3 c5
      go_wp2_with (first
        | (go_at_call 60; refine (hT.out _).mono ?_; rintro e w2 ⟨rfl, hb2⟩; have hG2 := hG1.step hb2; clear c0 c1 c2 c3 c4 c5; obtain ⟨c0, c1, c2, c3, c4, c5⟩ := hG2.cells; dsimp only at c1 c3 c5)
        | (go_at_call 61; refine (hN.out _).mono ?_; rintro e w3 ⟨rfl, hb3⟩))
      go_ret2
      exact hP.out 14 _ _ (hG2.step hb3).2.2
end Go.Proofs.YtlngbphchhbpbaaGreat

/- Check of both sides; Leftmost of both sides. -/
namespace Go.Proofs.YtlngbphchhbpbaaGreat
open Go.ChangeShapes Go.WideShapes Go.ChangeAt Go.RowKit
set_option linter.unusedVariables false

/-- the error of a form -/
def fchk (g : Gr) (f : List Int) : Int := if gchk g ≠ 0 then gchk g else if 200 < f.length then 6 else if f.all (syB g) = true then 0 else 14
theorem all_take {g : Gr} {f : List Int} {i : Nat} (h : (f.take i).all (syB g) = true) (hi : f.length ≤ i) : f.all (syB g) = true := by rwa [List.take_of_length_le hi] at h
theorem all_bad {g : Gr} {f : List Int} {i : Nat} {s : Int} (hx : f[i]? = some s) (h : syB g s = false) : ¬ f.all (syB g) = true := by
  intro h2
  have := List.all_eq_true.1 h2 s (List.mem_of_getElem? hx)
  rw [h] at this; cases this

set_option maxRecDepth 100000 in
set_option maxHeartbeats 2000000 in
theorem fcheck_any (g : Gr) (a : GA) (A : Option Addr) (k c : Nat) (f : List Int) (w : World) (hg : GrAt w w.heap.size g a) (hs : Small g) (hf : Rd1 w w.heap.size A k (ints f)) (hk : k ≤ maxLen) :
    Calls Tryz.prog 19 #[gval g a, .slice A k c] w fun e w' => e = .returned (.int .i64 (fchk g f)) ∧ Below w.heap.size w w' := by
  obtain ⟨ta, tc, na, nc, pa, pc⟩ := a
  have hfl : f.length = k := by have := hf.1; simpa [ints] using this
  have hG0 := GB.start hg
  have hC := Lib.hid (fun (W : World) (h : GrAt W W.heap.size g ⟨ta, tc, na, nc, pa, pc⟩) => gcheck_any g ⟨ta, tc, na, nc, pa, pc⟩ W h hs)
  obtain ⟨R, hR⟩ : ∃ R, R = fchk g f := ⟨_, rfl⟩
  rw [← hR]
  unfold fchk at hR
  rw [hfl] at hR
  unfold maxLen at hk
  by_cases hok : gchk g = 0
  · have hN := Lib.hid (fun (s : Int) (W : World) (h : GrAt W W.heap.size g ⟨ta, tc, na, nc, pa, pc⟩) => name_any g ⟨ta, tc, na, nc, pa, pc⟩ s W h hok)
    rw [if_neg (by simpa using hok)] at hR
    rw [hok] at hC
    clear hg hs
    unfold gval at *
    unfold gcells at *
    dsimp only at *
    obtain ⟨c0, c1, c2, c3, c4, c5⟩ := hG0.cells
    dsimp only at c1 c3 c5
    by_cases h200 : 200 < k
    · rw [if_pos h200] at hR
      subst hR
      have hz : (200 : Int) < k := by omega
      go_enter Tryz.func19, Tryz.ntmps19
      go_wp2_with (go_at_call 27; refine (hC.out _ (hG0.2.1.mono hG0.2.2.size)).mono ?_; rintro e w1 ⟨rfl, hb1⟩)
      go_ret
      exact ⟨rfl, (hG0.step hb1).2.2⟩
    · rw [if_neg h200] at hR
      have hz : ¬ (200 : Int) < k := by omega
      replace hR := Lib.hid hR
      replace hfl := Lib.hid hfl
      go_enter Tryz.func19, Tryz.ntmps19
      go_upto_region 6 with (go_at_call 27; refine (hC.out _ (hG0.2.1.mono hG0.2.2.size)).mono ?_; rintro e w1 ⟨rfl, hb1⟩)
      have hG1 := hG0.step hb1
      clear c0 c1 c2 c3 c4 c5 hG0 hb1
      go_wp2_with fail
      go_loopg [20] k (fun gk s20 wr => ∃ i : Nat, s20 = .int .i64 i ∧ i + gk = k ∧ Hid ((f.take i).all (syB g) = true) ∧ GB w g ⟨ta, tc, na, nc, pa, pc⟩ wr)
      case atStart => exact ⟨0, rfl, by omega, Lib.hid (by simp), hG1⟩
      case round =>
        clear hG1
        obtain ⟨i, rfl, hi, hall, hG⟩ := hrel
        replace hi := Lib.hid hi
        by_cases hin : i < k
        · have hil : i < f.length := by have := hfl.out; omega
          have hx : f[i]? = some f[i] := List.getElem?_eq_getElem hil
          obtain ⟨b, off, rfl, hbt, x0⟩ := (hf.below hG.2.2).get (show (ints f)[i]? = some (.int .i64 f[i]) by rw [ints, List.getElem?_map, hx]; rfl)
          have htk := take_snocG hx
          generalize f[i] = s at *
          have hz0 : (0 : Int) ≤ i := by omega
          have hz1 : (i : Int) < k := by omega
          have hN1 := hN.out s wr (hG.2.1.mono hG.2.2.size)
          obtain ⟨c0, c1, c2, c3, c4, c5⟩ := hG.cells
          dsimp only at c1 c3 c5
          cases hy : syB g s with
          | true =>
            rw [hy, if_pos rfl] at hN1
            have hall2 : Hid ((f.take (i + 1)).all (syB g) = true) := Lib.hid (by rw [htk, List.all_append, hall.out]; simp [hy])
            replace hN1 := Lib.hid hN1
            replace hx := Lib.hid hx
            replace htk := Lib.hid htk
            clear hy
            go_wp2_with (go_at_call 38; refine hN1.out.mono ?_; rintro e w5 ⟨x, rfl, hb5⟩)
            go_roundg (k - (i + 1))
            case measure => have := hi.out; omega
            case rel => exact ⟨i + 1, by go_num, by have := hi.out; omega, hall2, hG.step hb5⟩
          | false =>
            rw [hy, if_neg (by simp)] at hN1
            have hR2 : R = 14 := by rw [hR.out, if_neg (all_bad hx hy)]
            subst hR2
            replace hN1 := Lib.hid hN1
            replace hx := Lib.hid hx
            replace htk := Lib.hid htk
            clear hy
            go_wp2_with (go_at_call 38; refine hN1.out.mono ?_; rintro e w5 ⟨x, rfl, hb5⟩)
            go_ret
            exact ⟨rfl, (hG.step hb5).2.2⟩
        · have hR2 : R = 0 := by rw [hR.out, if_pos (all_take hall.out (by have := hi.out; have := hfl.out; omega))]
          subst hR2
          have hGb := Lib.hid hG.2.2
          go_wp2_with fail
          go_ret
          exact ⟨rfl, hGb.out⟩
  · rw [if_pos (by simpa using hok)] at hR
    rw [← hR] at hC
    have hok2 : (R == 0) = false := by rw [hR]; simpa using hok
    have hok3 : (R != 0) = true := by simpa using hok2
    clear hg hs hok hR
    unfold gval at *
    unfold gcells at *
    dsimp only at *
    obtain ⟨c0, c1, c2, c3, c4, c5⟩ := hG0.cells
    dsimp only at c1 c3 c5
    go_enter Tryz.func19, Tryz.ntmps19
    go_wp2_with (go_at_call 27; refine (hC.out _ (hG0.2.1.mono hG0.2.2.size)).mono ?_; rintro e w1 ⟨rfl, hb1⟩)
    go_ret
    exact ⟨rfl, (hG0.step hb1).2.2⟩

set_option maxRecDepth 100000 in
set_option maxHeartbeats 2000000 in
theorem rfcheck_any (g : Gr) (a : GA) (A : Option Addr) (k c : Nat) (f : List Int) (w : World) (hg : GrAt w w.heap.size g a) (hs : Small g) (hf : Rd1 w w.heap.size A k (ints f)) (hk : k ≤ maxLen) :
    Calls Tryz.prog 23 #[gval g a, .slice A k c] w fun e w' => e = .returned (.int .i64 (fchk g f)) ∧ Below w.heap.size w w' := by
  obtain ⟨ta, tc, na, nc, pa, pc⟩ := a
  have hfl : f.length = k := by have := hf.1; simpa [ints] using this
  have hG0 := GB.start hg
  have hC := Lib.hid (fun (W : World) (h : GrAt W W.heap.size g ⟨ta, tc, na, nc, pa, pc⟩) => rcheckg_any g ⟨ta, tc, na, nc, pa, pc⟩ W h hs)
  obtain ⟨R, hR⟩ : ∃ R, R = fchk g f := ⟨_, rfl⟩
  rw [← hR]
  unfold fchk at hR
  rw [hfl] at hR
  unfold maxLen at hk
  by_cases hok : gchk g = 0
  · have hN := Lib.hid (fun (s : Int) (W : World) => symbol_any g ⟨ta, tc, na, nc, pa, pc⟩ s W (by have := hs.t; omega) (by have := hs.n; omega))
    rw [if_neg (by simpa using hok)] at hR
    rw [hok] at hC
    clear hg hs
    unfold gval at *
    unfold gcells at *
    dsimp only at *
    obtain ⟨c0, c1, c2, c3, c4, c5⟩ := hG0.cells
    dsimp only at c1 c3 c5
    by_cases h200 : 200 < k
    · rw [if_pos h200] at hR
      subst hR
      have hz : (200 : Int) < k := by omega
      go_enter Tryz.func23, Tryz.ntmps23
      go_wp2_with (go_at_call 36; refine (hC.out _ (hG0.2.1.mono hG0.2.2.size)).mono ?_; rintro e w1 ⟨rfl, hb1⟩)
      go_ret
      exact ⟨rfl, (hG0.step hb1).2.2⟩
    · rw [if_neg h200] at hR
      have hz : ¬ (200 : Int) < k := by omega
      replace hR := Lib.hid hR
      replace hfl := Lib.hid hfl
      go_enter Tryz.func23, Tryz.ntmps23
      go_upto_region 6 with (go_at_call 36; refine (hC.out _ (hG0.2.1.mono hG0.2.2.size)).mono ?_; rintro e w1 ⟨rfl, hb1⟩)
      have hG1 := hG0.step hb1
      clear c0 c1 c2 c3 c4 c5 hG0 hb1
      go_wp2_with fail
      go_loopg [6] k (fun gk s6 wr => ∃ i : Nat, s6 = .int .i64 i ∧ i + gk = k ∧ Hid ((f.take i).all (syB g) = true) ∧ GB w g ⟨ta, tc, na, nc, pa, pc⟩ wr)
      case atStart => exact ⟨0, rfl, by omega, Lib.hid (by simp), hG1⟩
      case round =>
        clear hG1
        obtain ⟨i, rfl, hi, hall, hG⟩ := hrel
        replace hi := Lib.hid hi
        by_cases hin : i < k
        · have hil : i < f.length := by have := hfl.out; omega
          have hx : f[i]? = some f[i] := List.getElem?_eq_getElem hil
          obtain ⟨b, off, rfl, hbt, x0⟩ := (hf.below hG.2.2).get (show (ints f)[i]? = some (.int .i64 f[i]) by rw [ints, List.getElem?_map, hx]; rfl)
          have htk := take_snocG hx
          generalize f[i] = s at *
          have hz0 : (0 : Int) ≤ i := by omega
          have hz1 : (i : Int) < k := by omega
          obtain ⟨c0, c1, c2, c3, c4, c5⟩ := hG.cells
          dsimp only at c1 c3 c5
          go_upto_region 9 with (fail)
          have k0 := cell_kept c0
          have k1 := cell_kept c1
          have k2 := cell_kept c2
          have k3 := cell_kept c3
          have k4 := cell_kept c4
          have k5 := cell_kept c5
          have k6 := cell_kept x0
          have hSk := fun (q : KeptBy wr) => hN.out s q.world
          cases hy : syB g s with
          | true =>
            rw [hy] at hSk
            have hall2 : Hid ((f.take (i + 1)).all (syB g) = true) := Lib.hid (by rw [htk, List.all_append, hall.out]; simp [hy])
            replace hSk := Lib.hid hSk
            replace hx := Lib.hid hx
            replace htk := Lib.hid htk
            clear hy
            refine wp_region_kept (by kernel_rfl) (by kernel_rfl) ?_
            repeat (go_big_quiet_step ((go_at_call 40; exact Calls.kept_by (hSk.out _))))
            refine wpQuiet_nil ?_
            rintro _ ⟨q, rfl⟩
            have hqk := q.kept
            clear hSk k0 k1 k2 k3 k4 k5 k6 c0 c1 c2 c3 c4 c5 x0
            generalize q.world = W2 at hqk
            go_wp2_with fail
            go_roundg (k - (i + 1))
            case measure => have := hi.out; omega
            case rel => exact ⟨i + 1, by go_num, by have := hi.out; omega, hall2, hG.step hqk⟩
          | false =>
            rw [hy] at hSk
            have hR2 : R = 14 := by rw [hR.out, if_neg (all_bad hx hy)]
            subst hR2
            replace hSk := Lib.hid hSk
            replace hx := Lib.hid hx
            replace htk := Lib.hid htk
            clear hy
            refine wp_region_kept (by kernel_rfl) (by kernel_rfl) ?_
            repeat (go_big_quiet_step ((go_at_call 40; exact Calls.kept_by (hSk.out _))))
            refine wpQuiet_nil ?_
            rintro _ ⟨q, rfl⟩
            have hqk := q.kept
            clear hSk k0 k1 k2 k3 k4 k5 k6 c0 c1 c2 c3 c4 c5 x0
            generalize q.world = W2 at hqk
            have hGb := Lib.hid (hG.step hqk).2.2
            go_wp2_with fail
            go_ret
            exact ⟨rfl, hGb.out⟩
        · have hR2 : R = 0 := by rw [hR.out, if_pos (all_take hall.out (by have := hi.out; have := hfl.out; omega))]
          subst hR2
          have hGb := Lib.hid hG.2.2
          go_wp2_with fail
          go_ret
          exact ⟨rfl, hGb.out⟩
  · rw [if_pos (by simpa using hok)] at hR
    rw [← hR] at hC
    have hok2 : (R == 0) = false := by rw [hR]; simpa using hok
    have hok3 : (R != 0) = true := by simpa using hok2
    clear hg hs hok hR
    unfold gval at *
    unfold gcells at *
    dsimp only at *
    obtain ⟨c0, c1, c2, c3, c4, c5⟩ := hG0.cells
    dsimp only at c1 c3 c5
    go_enter Tryz.func23, Tryz.ntmps23
    go_wp2_with (go_at_call 36; refine (hC.out _ (hG0.2.1.mono hG0.2.2.size)).mono ?_; rintro e w1 ⟨rfl, hb1⟩)
    go_ret
    exact ⟨rfl, (hG0.step hb1).2.2⟩
end Go.Proofs.YtlngbphchhbpbaaGreat

/- Leftmost of both sides; slices.Clone. -/
namespace Go.Proofs.YtlngbphchhbpbaaGreat
open Go.ChangeShapes Go.WideShapes Go.ChangeAt Go.RowKit
set_option linter.unusedVariables false

def lmE (g : Gr) (f : List Int) : Int := if fchk g f ≠ 0 then fchk g f else if f.length ≤ atN f then 7 else 0
def lmV (g : Gr) (f : List Int) : Int := if lmE g f = 0 then atN f else 0
theorem fchk_len {g : Gr} {f : List Int} (h : fchk g f = 0) : gchk g = 0 ∧ f.length ≤ 200 := by
  unfold fchk at h
  split at h
  · rename_i h1; exact absurd h h1
  · rename_i h1
    split at h
    · omega
    · exact ⟨by simpa using h1, by omega⟩

end Go.Proofs.YtlngbphchhbpbaaGreat

/- Step of both sides. -/
namespace Go.Proofs.YtlngbphchhbpbaaGreat
open Go.ChangeShapes Go.WideShapes Go.ChangeAt Go.RowKit
set_option linter.unusedVariables false

def stpE (g : Gr) (f : List Int) (p : Int) : Int := if fchk g f ≠ 0 then fchk g f else dstE g f p
def stpL (g : Gr) (f : List Int) (p : Int) : List Int := if stpE g f p = 0 then dstL g f p else []
/-- a slice that reads as L, and the error E -/
def RetVE (E : Int) (L : List Int) (w : World) (e : Ending) (w' : World) : Prop := ∃ v, e = .returned (.tuple #[v, .int .i64 E]) ∧ RdI w' v L ∧ Below w.heap.size w w'
theorem RdI.nil (w : World) : RdI w (.slice none 0 0) [] := ⟨none, 0, rfl, Rd1.nil _ _ _, by simp, by unfold maxLen; simp⟩
theorem st_all {g : Gr} {f : List Int} {p : Int} {w : World} {e : Ending} {w' : World} (hr : RetSt g f p w e w') : RetVE (dstE g f p) (if dstE g f p = 0 then dstL g f p else []) w e w' := by
  by_cases h : dstE g f p = 0
  · obtain ⟨v, rfl, h1, h2⟩ := st_ok h hr
    exact ⟨v, by rw [h], by rw [if_pos h]; exact h1, h2⟩
  · obtain ⟨rfl, h2⟩ := st_bad h hr
    exact ⟨_, rfl, by rw [if_neg h]; exact RdI.nil _, h2⟩
theorem dst_len2 {g : Gr} {f : List Int} {p : Int} : (if dstE g f p = 0 then dstL g f p else []).length ≤ 1000 := by
  split
  · rename_i h; have := (dst_len h).1; omega
  · simp

end Go.Proofs.YtlngbphchhbpbaaGreat

/- derive.joined: the walk. -/
namespace Go.Proofs.YtlngbphchhbpbaaGreat
open Go.ChangeShapes Go.WideShapes Go.ChangeAt Go.RowKit
set_option linter.unusedVariables false

theorem Src1.step {W W' : World} {base : Nat} {v : Value} {l : List Int} (h : Src1 W base v l) (hb : Below W.heap.size W W') : Src1 W' base v l := by
  rcases h with ⟨A, rfl, h⟩ | h
  · exact .inl ⟨A, rfl, (h.below hb).mono hb.size⟩
  · exact .inr (h.step hb)

def bools (l : List Bool) : List Value := l.map Value.bool
/-- a block of slices that read as the lists ss -/
def FS (W : World) (fb n : Nat) (ss : List (List Int)) : Prop :=
  ∃ cs : Array Value, Blk W fb 26 cs ∧ cs.size = n ∧ ss.length = n ∧ ∀ (i : Nat) (l : List Int), ss[i]? = some l → ∃ v, cs[i]? = some v ∧ RdI W v l
theorem FS.step {W W' : World} {fb n : Nat} {ss : List (List Int)} (h : FS W fb n ss) (hb : Below W.heap.size W W') : FS W' fb n ss := by
  obtain ⟨cs, h1, h2, h3, h4⟩ := h
  exact ⟨cs, h1.step hb, h2, h3, fun i l hi => by obtain ⟨v, a, b⟩ := h4 i l hi; exact ⟨v, a, b.step hb⟩⟩
theorem FS.get {W : World} {fb n : Nat} {ss : List (List Int)} (h : FS W fb n ss) {j : Nat} (hj : j < n) : ∃ A c, W.cell? ⟨fb, j, none⟩ = some (.slice A (ss.getD j []).length c) ∧ Rd1 W W.heap.size A (ss.getD j []).length (ints (ss.getD j [])) ∧ (ss.getD j []).length ≤ c ∧ c ≤ maxLen := by
  obtain ⟨cs, h1, h2, h3, h4⟩ := h
  have hs : ss[j]? = some (ss.getD j []) := by rw [List.getD_eq_getElem?_getD, List.getElem?_eq_getElem (by omega)]; rfl
  obtain ⟨v, a, A, c, rfl, b1, b2⟩ := h4 j _ hs
  exact ⟨A, c, by rw [h1.cell]; exact a, b1, b2⟩
/-- what joined hands back -/
def RetJn (o : Option (List Int)) (w : World) (e : Ending) (w' : World) : Prop :=
  Below w.heap.size w w' ∧ ((o = none ∧ e = .returned (.tuple #[.slice none 0 0, .bool false])) ∨ ∃ l v, o = some l ∧ e = .returned (.tuple #[v, .bool true]) ∧ RdI w' v l)
set_option maxRecDepth 100000 in
set_option maxHeartbeats 2000000 in
theorem joined_any (f : List Int) (RA : Option Addr) (k rc fb kb n : Nat) (ss : List (List Int)) (ks : List Bool) (w : World) (hf : Rd1 w w.heap.size RA k (ints f)) (hfs : FS w fb n ss) (hks : Blk w kb 4 (bools ks).toArray) (hkl : ks.length = n) (hsy : SyN n f) (hk : k ≤ 200) (hn : n ≤ 8) (hsl : ∀ l ∈ ss, l.length ≤ 1000) :
    Calls Tryz.prog 21 #[.slice RA k rc, .slice (some ⟨fb, 0, none⟩) n n, .slice (some ⟨kb, 0, none⟩) n n] w (RetJn (jnF ss ks [] f) w) := by
  have hfl : f.length = k := by have := hf.1; simpa [ints] using this
  obtain ⟨R, hR⟩ : ∃ R, R = jnF ss ks [] f := ⟨_, rfl⟩
  rw [← hR]
  have hR0 := Lib.hid (show jnF ss ks [] (f.drop 0) = R from hR.symm)
  have hN := Lib.hid (fun (w' : World) (h : R = none) (hb : Below w.heap.size w w') => (show RetJn R w (.returned (.tuple #[.slice none 0 0, .bool false])) w' from ⟨hb, .inl ⟨h, rfl⟩⟩))
  have hY := Lib.hid (fun (l : List Int) (v : Value) (w' : World) (h : R = some l) (hr : RdI w' v l) (hb : Below w.heap.size w w') => (show RetJn R w (.returned (.tuple #[v, .bool true])) w' from ⟨hb, .inr ⟨l, v, h, rfl, hr⟩⟩))
  generalize hRR : RetJn R w = RR at *
  replace hRR := Lib.hid hRR
  clear hR
  replace hfl := Lib.hid hfl
  replace hkl := Lib.hid hkl
  replace hsy := Lib.hid hsy
  replace hsl := Lib.hid hsl
  have hz0 : (0 : Int) ≤ k := by omega
  go_enter Tryz.func21, Tryz.ntmps21
  go_wp2_with fail
  have hown0 : Src1 (w.alloc (.cells #[] 3)) w.heap.size (.slice (some ⟨w.heap.size, 0, none⟩) 0 0) [] := .inr (Own1.empty w _ 3 (Nat.le_refl _))
  have hb0 : Below w.heap.size w (w.alloc (.cells #[] 3)) := bAlc (Below.refl _ _) _
  generalize w.alloc (.cells #[] 3) = w0 at *
  go_loopg [8, 14] k (fun gk s8 s14 wr => ∃ (i : Nat) (out : List Int), s14 = .int .i64 i ∧ i + gk = k ∧ Src1 wr w.heap.size s8 out ∧ out.length ≤ 200 + i ∧ Hid (jnF ss ks out (f.drop i) = R) ∧ Below w.heap.size w wr)
  case atStart => exact ⟨0, [], rfl, by omega, hown0, by simp, hR0, hb0⟩
  case round =>
    clear hown0 hb0
    obtain ⟨i, out, rfl, hi, hown, hol, hj, hb⟩ := hrel
    replace hi := Lib.hid hi
    by_cases hin : i < k
    · have hil : i < f.length := by have := hfl.out; omega
      have hx : f[i]? = some f[i] := List.getElem?_eq_getElem hil
      obtain ⟨b1, off1, rfl, hbt1, x0⟩ := (hf.below hb).get (show (ints f)[i]? = some (.int .i64 f[i]) by rw [ints, List.getElem?_map, hx]; rfl)
      have hdr := drop_consG hx
      have hsx := hsy.out _ (List.getElem_mem hil)
      generalize f[i] = s at *
      have hz1 : (i : Int) < k := by omega
      have hz2 : (0 : Int) ≤ i := by omega
      have hjj := hj.out
      rw [hdr] at hjj
      replace hx := Lib.hid hx
      replace hdr := Lib.hid hdr
      by_cases h16 : s < 16
      · have hd : decide (16 ≤ s) = false := decide_eq_false (by omega)
        rw [jnF, if_pos h16] at hjj
        obtain ⟨v', W', hrun, hs', hb'⟩ := app_src (W := wr.alloc (.cells #[.int .i64 s] 3)) (c := 1) (k := [s]) (m := 1) (B := some ⟨wr.heap.size, 0, none⟩) (hown.step (bAlc (Below.refl _ _) _)) (by have := hb.size; simp; omega) (rd_blk (Blk.new wr 3 _)) (by omega)
        have hb'' := (bAlc hb _).trans hb'
        have hol2 : (out ++ [s]).length ≤ 200 + (i + 1) := by rw [List.length_append, List.length_singleton]; omega
        replace hrun := Lib.hid hrun
        replace hjj := Lib.hid hjj
        clear h16 hsx hown hj
        go_wp2_with (first
          | (go_at_call 20; refine (isnt_any s _).mono ?_; rintro e w1 ⟨rfl, rfl⟩; rw [hd])
          | (at_builtin; refine wpList_appR _ rfl _ _ 26 rfl _ _ rfl rfl _ _ hrun.out ?_))
        go_roundg (k - (i + 1))
        case measure => have := hi.out; omega
        case rel => exact ⟨i + 1, out ++ [s], by go_num, by have := hi.out; omega, hs', hol2, hjj, hb''⟩
      · have hd : decide (16 ≤ s) = true := decide_eq_true (by omega)
        rw [jnF, if_neg h16] at hjj
        obtain ⟨j, hjv⟩ := Int.eq_ofNat_of_zero_le (show 0 ≤ s - 16 by omega)
        have hj2 : (s - 16).toNat = j := by omega
        rw [hj2] at hjj
        have hjn : j < n := by omega
        have hzj : (0 : Int) ≤ j := by omega
        have hzjn : (j : Int) < n := by omega
        have hs2 : s ≤ 1000 := by omega
        have hkr := (hks.step hb)
        have hkv : ks[j]? = some (ks.getD j false) := by rw [List.getD_eq_getElem?_getD, List.getElem?_eq_getElem (by have := hkl.out; omega)]; rfl
        have y0 : wr.cell? ⟨kb, j, none⟩ = some (.bool (ks.getD j false)) := by
          rw [hkr.cell, List.getElem?_toArray, bools, List.getElem?_map, hkv]; rfl
        replace hkv := Lib.hid hkv
        clear h16 hsx hj2
        cases hkk : ks.getD j false with
        | false =>
          rw [hkk] at hjj y0
          rw [if_pos rfl] at hjj
          have hfin := Lib.hid (hN.out wr hjj.symm hb)
          replace hjj := Lib.hid hjj
          replace hkk := Lib.hid hkk
          clear hown hj
          go_wp2_with (go_at_call 20; refine (isnt_any s _).mono ?_; rintro e w1 ⟨rfl, rfl⟩; rw [hd])
          first
            | exact hfin.out
            | (go_ret2; exact hfin.out)
        | true =>
          rw [hkk] at hjj y0
          rw [if_neg (by simp)] at hjj
          obtain ⟨SA, sc, x1, hSr, hsc1, hsc2⟩ := (hfs.step hb).get hjn
          have hssl : (ss.getD j []).length ≤ 1000 := by
            rw [List.getD_eq_getElem?_getD]
            cases hh : ss[j]? with
            | none => simp
            | some l => exact hsl.out l (List.mem_of_getElem? hh)
          generalize ss.getD j [] = sl at *
          obtain ⟨v', W', hrun, hs', hb'⟩ := app_src (c := sc) hown hb.size hSr (by omega)
          have hb'' := hb.trans hb'
          obtain ⟨A', c', rfl, hrr, hcc1, hcc2⟩ := hs'.reads (by rw [List.length_append]; omega)
          replace hrun := Lib.hid hrun
          replace hkk := Lib.hid hkk
          clear hown hj
          by_cases h200 : 200 < (out ++ sl).length
          · rw [if_pos h200] at hjj
            have hfin := Lib.hid (hN.out W' hjj.symm hb'')
            have hz4 : (200 : Int) < (out ++ sl).length := by omega
            replace hjj := Lib.hid hjj
            generalize (out ++ sl).length = ol at *
            go_wp2_with (first
              | (go_at_call 20; refine (isnt_any s _).mono ?_; rintro e w1 ⟨rfl, rfl⟩; rw [hd])
              | (at_builtin; refine wpList_appR _ rfl _ _ 26 rfl _ _ rfl rfl _ _ hrun.out ?_))
            first
              | exact hfin.out
              | (go_ret2; exact hfin.out)
          · rw [if_neg h200] at hjj
            have hz4 : ¬ (200 : Int) < (out ++ sl).length := by omega
            have hol2 : (out ++ sl).length ≤ 200 + (i + 1) := by omega
            have hs2' : Src1 W' w.heap.size (.slice A' (out ++ sl).length c') (out ++ sl) := hs'
            replace hjj := Lib.hid hjj
            obtain ⟨ol, hoe⟩ : ∃ ol, ol = (out ++ sl).length := ⟨_, rfl⟩
            rw [← hoe] at hrun hz4 hs2'
            replace hoe := Lib.hid hoe
            clear hs' hrr hcc1 h200
            go_wp2_with (first
              | (go_at_call 20; refine (isnt_any s _).mono ?_; rintro e w1 ⟨rfl, rfl⟩; rw [hd])
              | (at_builtin; refine wpList_appR _ rfl _ _ 26 rfl _ _ rfl rfl _ _ hrun.out ?_))
            go_roundg (k - (i + 1))
            case measure => have := hi.out; omega
            case rel => exact ⟨i + 1, out ++ sl, by go_num, by have := hi.out; omega, hs2', hol2, hjj, hb''⟩
    · have hjj := hj.out
      rw [List.drop_eq_nil_of_le (by have := hfl.out; omega), jnF] at hjj
      have hfin := Lib.hid (hY.out out u8 wr hjj.symm (hown.reads (by have := hi.out; omega)) hb)
      replace hjj := Lib.hid hjj
      go_wp2_with fail
      first
        | exact hfin.out
        | (go_ret2; exact hfin.out)
end Go.Proofs.YtlngbphchhbpbaaGreat

/- derive.Shortest: the walk. -/
namespace Go.Proofs.YtlngbphchhbpbaaGreat
open Go.ChangeShapes Go.WideShapes Go.ChangeAt Go.RowKit
set_option linter.unusedVariables false

theorem RdI.far {W : World} {v : Value} {l : List Int} (h : RdI W v l) {g : Nat} {t : TypeId} {cs : Array Value} (q : Blk W g t cs) (hno : ∀ (i : Nat) (x : Int), cs[i]? ≠ some (.int .i64 x)) (j : Nat) (u : Value) : RdI (W.setCell ⟨g, j, none⟩ u) v l := by
  obtain ⟨A, c, rfl, h1, h2⟩ := h
  refine ⟨A, c, rfl, ⟨h1.1, ?_⟩, h2⟩
  rcases h1.2 with h0 | ⟨b, off, rfl, hlt, hc⟩
  · exact .inl h0
  · by_cases hl : l = []
    · subst hl; exact .inl rfl
    · right
      have hpos : 0 < l.length := List.length_pos_iff.2 hl
      have hx : (ints l)[0]? = some (.int .i64 (l[0]'hpos)) := by rw [ints, List.getElem?_map, List.getElem?_eq_getElem hpos]; rfl
      have hne : b ≠ g := by
        rintro rfl
        have := hc 0 _ hx
        rw [q.cell] at this
        exact hno _ _ this
      exact ⟨b, off, rfl, by simpa using hlt, fun i w hw => (World.cell?_of_block (a := ⟨b, off + i, none⟩) (Below.heap_setCell W ⟨g, j, none⟩ u b hne)).trans (hc i w hw)⟩
theorem fs_noint {W : World} {n : Nat} {ss : List (List Int)} {cs : Array Value} (h2 : cs.size = n) (h3 : ss.length = n) (h4 : ∀ (i : Nat) (l : List Int), ss[i]? = some l → ∃ v, cs[i]? = some v ∧ RdI W v l) : ∀ (i : Nat) (x : Int), cs[i]? ≠ some (.int .i64 x) := by
  intro i x hx
  have hi := (Array.getElem?_eq_some_iff.1 hx).1
  obtain ⟨v, e, A, c, rfl, _⟩ := h4 i ss[i] (List.getElem?_eq_getElem (by omega))
  rw [hx] at e
  cases e
theorem FS.set {W : World} {fb n : Nat} {ss : List (List Int)} (h : FS W fb n ss) {j : Nat} (hj : j < n) {v : Value} {l : List Int} (hv : RdI W v l) : FS (W.setCell ⟨fb, j, none⟩ v) fb n (ss.set j l) := by
  obtain ⟨cs, h1, h2, h3, h4⟩ := h
  have hno := fs_noint h2 h3 h4
  refine ⟨cs.setIfInBounds j v, h1.put j v, by simpa using h2, by simpa using h3, fun i m hm => ?_⟩
  by_cases e : j = i
  · subst e
    rw [List.getElem?_set_self (by omega)] at hm
    injection hm with hm
    subst hm
    exact ⟨v, by rw [Array.getElem?_setIfInBounds_self, if_pos (by omega)], hv.far h1 hno j v⟩
  · rw [List.getElem?_set_ne e] at hm
    obtain ⟨u, a, b⟩ := h4 i m hm
    exact ⟨u, by rw [Array.getElem?_setIfInBounds_ne e]; exact a, b.far h1 hno j v⟩
theorem FS.far {W : World} {fb n : Nat} {ss : List (List Int)} (h : FS W fb n ss) {g : Nat} {t : TypeId} {cs : Array Value} (q : Blk W g t cs) (ht : t ≠ 26) (hno : ∀ (i : Nat) (x : Int), cs[i]? ≠ some (.int .i64 x)) (j : Nat) (u : Value) : FS (W.setCell ⟨g, j, none⟩ u) fb n ss := by
  obtain ⟨c, h1, h2, h3, h4⟩ := h
  exact ⟨c, h1.far (blk_ne h1 q (Ne.symm ht)) u, h2, h3, fun i l hl => by obtain ⟨v, a, b⟩ := h4 i l hl; exact ⟨v, a, b.far q hno j u⟩⟩
theorem FS.blk {W : World} {fb n : Nat} {ss : List (List Int)} (h : FS W fb n ss) {j : Nat} (hj : j < n) : (∃ v, W.cell? ⟨fb, j, none⟩ = some v) ∧ W.frozen? ⟨fb, j, none⟩ = false := by
  obtain ⟨cs, h1, h2, h3, h4⟩ := h
  refine ⟨⟨cs[j]'(by omega), ?_⟩, h1.frozen j⟩
  rw [h1.cell]; exact Array.getElem?_eq_getElem _
theorem bools_set (l : List Bool) (j : Nat) (v : Bool) : (bools l).toArray.setIfInBounds j (.bool v) = (bools (l.set j v)).toArray := by
  rw [List.setIfInBounds_toArray]
  simp [bools, List.map_set]
theorem bools_noint (l : List Bool) : ∀ (i : Nat) (x : Int), (bools l).toArray[i]? ≠ some (.int .i64 x) := by
  intro i x h
  rw [List.getElem?_toArray, bools, List.getElem?_map] at h
  cases hh : l[i]? with
  | none => rw [hh] at h; cases h
  | some b => rw [hh] at h; cases h
/-- the state of Shortest -/
def SH (w : World) (g : Gr) (a : GA) (lb fb kb n : Nat) (L : List Int) (ss : List (List Int)) (ks : List Bool) (W : World) : Prop :=
  GB w g a W ∧ Blk W lb 3 (ints L).toArray ∧ FS W fb n ss ∧ Blk W kb 4 (bools ks).toArray ∧ ks.length = n ∧ (w.heap.size < fb ∧ w.heap.size < kb)
section
variable {w W W' : World} {g : Gr} {a : GA} {lb fb kb n : Nat} {L : List Int} {ss : List (List Int)} {ks : List Bool}
theorem SH.step (h : SH w g a lb fb kb n L ss ks W) (hb : Below W.heap.size W W') : SH w g a lb fb kb n L ss ks W' :=
  ⟨h.1.step hb, h.2.1.step hb, h.2.2.1.step hb, h.2.2.2.1.step hb, h.2.2.2.2⟩
theorem SH.set (h : SH w g a lb fb kb n L ss ks W) {j : Nat} (hj : j < n) {v : Value} {l : List Int} (hv : RdI W v l) : SH w g a lb fb kb n L (ss.set j l) (ks.set j true) ((W.setCell ⟨fb, j, none⟩ v).setCell ⟨kb, j, none⟩ (.bool true)) := by
  obtain ⟨h1, h2, h3, h4, h5, h6, h7⟩ := h
  have h3' := h3
  obtain ⟨cs, f1, f2, f3, f4⟩ := h3'
  have e1 : fb ≠ kb := blk_ne f1 h4 (by decide)
  have e2 : lb ≠ fb := blk_ne h2 f1 (by decide)
  have e3 : lb ≠ kb := blk_ne h2 h4 (by decide)
  have g4 := h4.far (p := ⟨fb, j, none⟩) (Ne.symm e1) v
  refine ⟨(h1.far _ _ h6).far _ _ h7, (h2.far (p := ⟨fb, j, none⟩) e2 v).far (p := ⟨kb, j, none⟩) e3 _, (h3.set hj hv).far g4 (by decide) (bools_noint ks) j _, ?_, by simpa using h5, h6, h7⟩
  have := g4.put j (.bool true)
  rwa [bools_set] at this
end
/-- strings that are known: short, of terminals -/
def SmS (ss : List (List Int)) : Prop := ∀ l ∈ ss, l.length ≤ 200 ∧ Let8 l
theorem SmS.set {ss : List (List Int)} (h : SmS ss) {j : Nat} {l : List Int} (h1 : l.length ≤ 200) (h2 : Let8 l) : SmS (ss.set j l) := by
  intro x hx
  rcases List.mem_or_eq_of_mem_set hx with h' | rfl
  · exact h x h'
  · exact ⟨h1, h2⟩
theorem SmS.get {ss : List (List Int)} (h : SmS ss) (j : Nat) : (ss.getD j []).length ≤ 200 ∧ Let8 (ss.getD j []) := by
  rw [List.getD_eq_getElem?_getD]
  cases hh : ss[j]? with
  | none => exact ⟨by simp, fun c hc => by simp at hc⟩
  | some l => exact h l (List.mem_of_getElem? hh)
theorem KnS.set {ps : List Pr} {n : Nat} {L : List Int} {ss : List (List Int)} {ks : List Bool} (h : KnS ps L ss ks) (hs : ss.length = n) (hk : ks.length = n) {j : Nat} (hj : j < n) {l : List Int} (hy : Yld ps (16 + (j : Int)) l) (hl : (l.length : Int) = L.getD j 0) : KnS ps L (ss.set j l) (ks.set j true) := by
  intro a ha hka
  by_cases e : (a - 16).toNat = j
  · have ea : a = 16 + (j : Int) := by omega
    rw [e, List.getD_eq_getElem?_getD, List.getElem?_set_self (by omega)]
    subst ea
    exact ⟨hy, hl⟩
  · rw [List.getD_eq_getElem?_getD, List.getElem?_set_ne (Ne.symm e), ← List.getD_eq_getElem?_getD] at hka ⊢
    exact h a ha hka
theorem lenS_snoc (L : List Int) (s : Int) : ∀ f : List Int, lenS L (f ++ [s]) = lenS L f + (if s < 16 then 1 else L.getD (s - 16).toNat 0)
  | [] => by simp [lenS]
  | a :: f => by
    rw [List.cons_append, lenS, lenS_snoc L s f, lenS]
    omega
theorem lenS_up {L : List Int} (hb : ∀ v ∈ L, v ≤ 5764801) : ∀ f : List Int, lenS L f ≤ f.length * 5764801
  | [] => by simp [lenS]
  | s :: f => by
    have h1 := lenS_up hb f
    have h2 : L.getD (s - 16).toNat 0 ≤ 5764801 := by
      rw [List.getD_eq_getElem?_getD]
      cases hh : L[(s - 16).toNat]? with
      | none => simp
      | some v => exact hb v (List.mem_of_getElem? hh)
    unfold lenS
    rw [List.length_cons]
    split <;> omega
/-- what Shortest hands back -/
def RetSh (g : Gr) (f : List Int) (w : World) (e : Ending) (w' : World) : Prop :=
  Below w.heap.size w w' ∧ ((fchk g f ≠ 0 ∧ e = .returned (.tuple #[.slice none 0 0, .int .i64 (fchk g f)])) ∨
    (fchk g f = 0 ∧ ∃ L : List Int, LenL g.prods g.names.length L ∧ ((-1 ∈ L ∧ e = .returned (.tuple #[.slice none 0 0, .int .i64 16])) ∨
      (-1 ∉ L ∧ ((200 < lenS L f ∧ e = .returned (.tuple #[.slice none 0 0, .int .i64 4])) ∨
        (lenS L f ≤ 200 ∧ ∃ x v, e = .returned (.tuple #[v, .int .i64 0]) ∧ RdI w' v x ∧ Best g.prods L f x))))))
end Go.Proofs.YtlngbphchhbpbaaGreat
