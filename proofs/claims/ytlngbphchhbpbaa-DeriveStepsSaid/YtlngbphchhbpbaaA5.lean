/- Walks and plain laws, part 5 of 5: Leftmost of both sides; slices.Clone; Step of both sides; The reference's Run; The grammar and the look that come in as arguments: opened; The statement DeriveSteps: the walk. Conditions: none beyond those that each theorem states. -/
import Derived.Test.YtlngbphchhbpbaaA4
import Derived.Deep.Strs
import Derived.Deep.SlicePairs
import Derived.OpenShut
import Derived.ChangeOld
/- Leftmost of both sides; slices.Clone. -/
namespace Go.Proofs.Ytlngbphchhbpbaa
open Go.ChangeShapes Go.WideShapes Go.ChangeAt Go.RowKit
set_option linter.unusedVariables false

def lmE (g : Gr) (f : List Int) : Int := if fchk g f ≠ 0 then fchk g f else if f.length ≤ atN f then 7 else 0
def lmV (g : Gr) (f : List Int) : Int := if lmE g f = 0 then atN f else 0
theorem fchk_len {g : Gr} {f : List Int} (h : fchk g f = 0) : gchk g = 0 ∧ f.length ≤ 200 := by
  unfold fchk at h
  split at h
  · rename_i h1; exact absurd h h1
  · rename_i h1
    split at h
    · omega
    · exact ⟨by simpa using h1, by omega⟩

set_option maxRecDepth 100000 in
set_option maxHeartbeats 2000000 in
theorem leftmost_any (g : Gr) (a : GA) (A : Option Addr) (k c : Nat) (f : List Int) (w : World) (hg : GrAt w w.heap.size g a) (hs : Small g) (hf : Rd1 w w.heap.size A k (ints f)) (hk : k ≤ maxLen) :
    Calls Try.prog 10 #[gval g a, .slice A k c] w fun e w' => e = .returned (.tuple #[.int .i64 (lmV g f), .int .i64 (lmE g f)]) ∧ Below w.heap.size w w' := by
  obtain ⟨ta, tc, na, nc, pa, pc⟩ := a
  have hfl : f.length = k := by have := hf.1; simpa [ints] using this
  have hG0 := GB.start hg
  have hC := Lib.hid (fun (W : World) (h : GrAt W W.heap.size g ⟨ta, tc, na, nc, pa, pc⟩) (h2 : Rd1 W W.heap.size A k (ints f)) => fcheck_any g ⟨ta, tc, na, nc, pa, pc⟩ A k c f W h hs h2 hk)
  have hV : lmV g f = if lmE g f = 0 then (atN f : Int) else 0 := rfl
  have hE : lmE g f = if fchk g f ≠ 0 then fchk g f else if k ≤ atN f then 7 else 0 := by unfold lmE; rw [hfl]
  have hL := fun h => (fchk_len (g := g) (f := f) h).2
  rw [hfl] at hL
  have hpl := place_any A k c f
  unfold atI at hpl
  rw [hfl] at hpl
  have hat1 := atN_le f
  rw [hfl] at hat1
  have hfb : Rd1 (w.alloc (.cells (gcells g ⟨ta, tc, na, nc, pa, pc⟩) 25)) w.heap.size A k (ints f) := hf.below (bAlc (Below.refl _ _) _)
  replace hfl := Lib.hid hfl
  generalize fchk g f = R at *
  generalize lmE g f = E at *
  generalize lmV g f = V at *
  generalize atN f = t at *
  clear hg hs hf hk
  unfold gval at *
  unfold gcells at *
  dsimp only at *
  obtain ⟨c0, c1, c2, c3, c4, c5⟩ := hG0.cells
  dsimp only at c1 c3 c5
  by_cases h0 : R = 0
  · subst h0
    rw [if_neg (by simp)] at hE
    have hk200 := hL rfl
    replace hpl := Lib.hid hpl
    by_cases htk : k ≤ t
    · rw [if_pos htk] at hE
      subst hE
      rw [if_neg (by omega)] at hV
      subst hV
      rw [if_neg (by omega)] at hpl
      clear hL
      go_enter Try.func10, Try.ntmps10
      go_wp2_with (first
        | (go_at_call 14; refine (hC.out _ (hG0.2.1.mono hG0.2.2.size) (hfb.mono hG0.2.2.size)).mono ?_; rintro e w1 ⟨rfl, hb1⟩)
        | (go_at_call 32; refine (hpl.out w1 w.heap.size (hfb.below (hb1.mono hG0.2.2.size)) (by omega)).mono ?_; rintro e w2 ⟨rfl, rfl⟩))
      go_ret2
      exact ⟨rfl, (hG0.step hb1).2.2⟩
    · rw [if_neg htk] at hE
      subst hE
      rw [if_pos rfl] at hV
      subst hV
      rw [if_pos (by omega)] at hpl
      clear hL
      have hzt : ¬ (t : Int) < 0 := by omega
      go_enter Try.func10, Try.ntmps10
      go_wp2_with (first
        | (go_at_call 14; refine (hC.out _ (hG0.2.1.mono hG0.2.2.size) (hfb.mono hG0.2.2.size)).mono ?_; rintro e w1 ⟨rfl, hb1⟩)
        | (go_at_call 32; refine (hpl.out w1 w.heap.size (hfb.below (hb1.mono hG0.2.2.size)) (by omega)).mono ?_; rintro e w2 ⟨rfl, rfl⟩))
      go_ret2
      exact ⟨rfl, (hG0.step hb1).2.2⟩
  · rw [if_pos h0] at hE
    subst hE
    rw [if_neg h0] at hV
    subst hV
    have h1 : (E == 0) = false := by simpa using h0
    have h2 : (E != 0) = true := by simpa using h0
    clear hL h0
    go_enter Try.func10, Try.ntmps10
    go_wp2_with (go_at_call 14; refine (hC.out _ (hG0.2.1.mono hG0.2.2.size) (hfb.mono hG0.2.2.size)).mono ?_; rintro e w1 ⟨rfl, hb1⟩)
    go_ret2
    exact ⟨rfl, (hG0.step hb1).2.2⟩

set_option maxRecDepth 100000 in
set_option maxHeartbeats 2000000 in
theorem rleftmost_any (g : Gr) (a : GA) (A : Option Addr) (k c : Nat) (f : List Int) (w : World) (hg : GrAt w w.heap.size g a) (hs : Small g) (hf : Rd1 w w.heap.size A k (ints f)) (hk : k ≤ maxLen) :
    Calls Try.prog 11 #[gval g a, .slice A k c] w fun e w' => e = .returned (.tuple #[.int .i64 (lmV g f), .int .i64 (lmE g f)]) ∧ Below w.heap.size w w' := by
  obtain ⟨ta, tc, na, nc, pa, pc⟩ := a
  have hfl : f.length = k := by have := hf.1; simpa [ints] using this
  have hG0 := GB.start hg
  have hC := Lib.hid (fun (W : World) (h : GrAt W W.heap.size g ⟨ta, tc, na, nc, pa, pc⟩) (h2 : Rd1 W W.heap.size A k (ints f)) => rfcheck_any g ⟨ta, tc, na, nc, pa, pc⟩ A k c f W h hs h2 hk)
  have hV : lmV g f = if lmE g f = 0 then (atN f : Int) else 0 := rfl
  have hE : lmE g f = if fchk g f ≠ 0 then fchk g f else if k ≤ atN f then 7 else 0 := by unfold lmE; rw [hfl]
  have hL := fun h => (fchk_len (g := g) (f := f) h).2
  rw [hfl] at hL
  have hat1 := atN_le f
  rw [hfl] at hat1
  have hfb : Rd1 (w.alloc (.cells (gcells g ⟨ta, tc, na, nc, pa, pc⟩) 25)) w.heap.size A k (ints f) := hf.below (bAlc (Below.refl _ _) _)
  replace hfl := Lib.hid hfl
  generalize fchk g f = R at *
  generalize lmE g f = E at *
  generalize lmV g f = V at *
  clear hg hs hf hk
  unfold gval at *
  unfold gcells at *
  dsimp only at *
  obtain ⟨c0, c1, c2, c3, c4, c5⟩ := hG0.cells
  dsimp only at c1 c3 c5
  by_cases h0 : R = 0
  · subst h0
    rw [if_neg (by simp)] at hE
    have hk200 := hL rfl
    replace hE := Lib.hid hE
    replace hV := Lib.hid hV
    clear hL
    go_enter Try.func11, Try.ntmps11
    go_upto_region 4 with (go_at_call 15; refine (hC.out _ (hG0.2.1.mono hG0.2.2.size) (hfb.mono hG0.2.2.size)).mono ?_; rintro e w1 ⟨rfl, hb1⟩)
    have hG1 := hG0.step hb1
    have hf1 := hfb.below (hb1.mono hG0.2.2.size)
    clear c0 c1 c2 c3 c4 c5 hG0 hb1 hfb
    go_wp2_with fail
    go_loopg [7] k (fun gk s7 wr => ∃ i : Nat, s7 = .int .i64 i ∧ i + gk = k ∧ Hid (i ≤ atN f) ∧ w1 = wr)
    case atStart => exact ⟨0, rfl, by omega, Lib.hid (Nat.zero_le _), rfl⟩
    case round =>
      obtain ⟨i, rfl, hi, hat, rfl⟩ := hrel
      replace hi := Lib.hid hi
      by_cases hin : i < k
      · have hil : i < f.length := by have := hfl.out; omega
        have hx : f[i]? = some f[i] := List.getElem?_eq_getElem hil
        obtain ⟨b, off, rfl, hbt, x0⟩ := hf1.get (show (ints f)[i]? = some (.int .i64 f[i]) by rw [ints, List.getElem?_map, hx]; rfl)
        generalize f[i] = s at *
        have hz0 : (0 : Int) ≤ i := by omega
        have hz1 : (i : Int) < k := by omega
        by_cases h16 : 16 ≤ s
        · have e : atN f = i := by
            rcases Nat.lt_or_ge i (atN f) with h | h
            · have := atN_lt f i s h hx; omega
            · have := hat.out; omega
          have hE2 : E = 0 := by rw [hE.out, e, if_neg (by omega)]
          subst hE2
          have hV2 : V = i := by rw [hV.out, if_pos rfl, e]
          subst hV2
          replace hx := Lib.hid hx
          replace e := Lib.hid e
          go_wp2_with fail
          go_ret2
          exact ⟨rfl, hG1.2.2⟩
        · have hat2 : Hid (i + 1 ≤ atN f) := Lib.hid (by
            rcases Nat.lt_or_ge i (atN f) with h | h
            · exact h
            · have e : atN f = i := by have := hat.out; omega
              have := atN_at f s (by rw [e]; exact hx)
              omega)
          replace hx := Lib.hid hx
          go_wp2_with fail
          go_roundg (k - (i + 1))
          case measure => have := hi.out; omega
          case rel => exact ⟨i + 1, by go_num, by have := hi.out; omega, hat2, rfl⟩
      · have hik : i = k := by have := hi.out; omega
        have hE2 : E = 7 := by rw [hE.out, if_pos (by have := hat.out; omega)]
        subst hE2
        have hV2 : V = 0 := by rw [hV.out, if_neg (by omega)]
        subst hV2
        go_wp2_with fail
        go_ret2
        exact ⟨rfl, hG1.2.2⟩
  · rw [if_pos h0] at hE
    subst hE
    rw [if_neg h0] at hV
    subst hV
    have h1 : (E == 0) = false := by simpa using h0
    have h2 : (E != 0) = true := by simpa using h0
    clear hL h0
    go_enter Try.func11, Try.ntmps11
    go_wp2_with (go_at_call 15; refine (hC.out _ (hG0.2.1.mono hG0.2.2.size) (hfb.mono hG0.2.2.size)).mono ?_; rintro e w1 ⟨rfl, hb1⟩)
    go_ret2
    exact ⟨rfl, (hG0.step hb1).2.2⟩

set_option maxRecDepth 100000 in
/-- a slice of numbers, copied -/
theorem clone_any (v : Value) (l : List Int) (w : World) (hv : RdI w v l) (hl : l.length ≤ 1000) : Calls Try.prog 35 #[v] w fun e w' => ∃ v', e = .returned v' ∧ RdI w' v' l ∧ Below w.heap.size w w' := by
  obtain ⟨A, c, rfl, hr, h1, h2⟩ := hv
  have hnn := fun (w : World) (a : Option Addr) (n c : Nat) => Lib.run_eql_slice_nil (P := Try.prog) w 26 3 a n c 0 0 Try.underlying26
  cases A with
  | none =>
    have hl0 : l = [] := by
      rcases hr.2 with h0 | ⟨b, off, h0, _⟩
      · exact List.eq_nil_of_length_eq_zero h0
      · cases h0
    subst hl0
    go_enter Try.func35, Try.ntmps35
    go_wp2_with fail
    go_ret
    exact ⟨_, rfl, ⟨none, 0, rfl, Rd1.nil _ _ _, by simp, by unfold maxLen; simp⟩, Below.refl _ _⟩
  | some ad =>
    go_enter Try.func35, Try.ntmps35
    have ho := Own1.empty w w.heap.size 3 (Nat.le_refl _)
    have hr1 := (hr.below (bAlc (Below.refl _ _) (.cells #[] 3))).mono (B' := (w.alloc (.cells #[] 3)).heap.size) (by simp)
    obtain ⟨v1, W1, hrun, hs1, hb1⟩ := app_src (c := c) (l := []) (.inr ho) (by simp) hr1 (by simp; omega)
    replace hrun := Lib.hid hrun
    replace hs1 := Lib.hid hs1
    have hb2 : Below w.heap.size w W1 := (bAlc (Below.refl _ _) (.cells #[] 3)).trans hb1
    clear ho hr1 hb1
    go_wp2_with (at_builtin; refine wpList_appR _ rfl _ _ 26 rfl _ _ rfl rfl _ _ hrun.out ?_)
    go_ret
    have := hs1.out.reads (by simp; omega)
    rw [List.nil_append] at this
    exact ⟨_, rfl, this, hb2⟩
end Go.Proofs.Ytlngbphchhbpbaa

/- Step of both sides. -/
namespace Go.Proofs.Ytlngbphchhbpbaa
open Go.ChangeShapes Go.WideShapes Go.ChangeAt Go.RowKit
set_option linter.unusedVariables false

def stpE (g : Gr) (f : List Int) (p : Int) : Int := if fchk g f ≠ 0 then fchk g f else dstE g f p
def stpL (g : Gr) (f : List Int) (p : Int) : List Int := if stpE g f p = 0 then dstL g f p else []
/-- a slice that reads as L, and the error E -/
def RetVE (E : Int) (L : List Int) (w : World) (e : Ending) (w' : World) : Prop := ∃ v, e = .returned (.tuple #[v, .int .i64 E]) ∧ RdI w' v L ∧ Below w.heap.size w w'
theorem RdI.nil (w : World) : RdI w (.slice none 0 0) [] := ⟨none, 0, rfl, Rd1.nil _ _ _, by simp, by unfold maxLen; simp⟩
theorem st_all {g : Gr} {f : List Int} {p : Int} {w : World} {e : Ending} {w' : World} (hr : RetSt g f p w e w') : RetVE (dstE g f p) (if dstE g f p = 0 then dstL g f p else []) w e w' := by
  by_cases h : dstE g f p = 0
  · obtain ⟨v, rfl, h1, h2⟩ := st_ok h hr
    exact ⟨v, by rw [h], by rw [if_pos h]; exact h1, h2⟩
  · obtain ⟨rfl, h2⟩ := st_bad h hr
    exact ⟨_, rfl, by rw [if_neg h]; exact RdI.nil _, h2⟩
theorem dst_len2 {g : Gr} {f : List Int} {p : Int} : (if dstE g f p = 0 then dstL g f p else []).length ≤ 1000 := by
  split
  · rename_i h; have := (dst_len h).1; omega
  · simp

set_option maxRecDepth 100000 in
set_option maxHeartbeats 2000000 in
theorem stp_any (g : Gr) (a : GA) (A : Option Addr) (k c : Nat) (f : List Int) (p : Int) (w : World) (hg : GrAt w w.heap.size g a) (hs : Small g) (hf : Rd1 w w.heap.size A k (ints f)) (hkc : k ≤ c) (hcm : c ≤ maxLen) :
    Calls Try.prog 12 #[gval g a, .slice A k c, .int .i64 p] w (RetVE (stpE g f p) (stpL g f p) w) := by
  obtain ⟨ta, tc, na, nc, pa, pc⟩ := a
  have hfl : f.length = k := by have := hf.1; simpa [ints] using this
  have hG0 := GB.start hg
  have hC := Lib.hid (fun (W : World) (h : GrAt W W.heap.size g ⟨ta, tc, na, nc, pa, pc⟩) (h2 : Rd1 W W.heap.size A k (ints f)) => fcheck_any g ⟨ta, tc, na, nc, pa, pc⟩ A k c f W h hs h2 (by omega))
  have hE : stpE g f p = if fchk g f ≠ 0 then fchk g f else dstE g f p := rfl
  have hLL : stpL g f p = if stpE g f p = 0 then dstL g f p else [] := rfl
  have hfb : Rd1 (w.alloc (.cells (gcells g ⟨ta, tc, na, nc, pa, pc⟩) 25)) w.heap.size A k (ints f) := hf.below (bAlc (Below.refl _ _) _)
  by_cases h0 : fchk g f = 0
  · rw [if_neg (by simpa using h0)] at hE
    rw [h0] at hC
    obtain ⟨hok, hk200⟩ := fchk_len h0
    rw [hfl] at hk200
    have hSt := Lib.hid (fun (W : World) (h : GrAt W W.heap.size g ⟨ta, tc, na, nc, pa, pc⟩) (h2 : Rd1 W W.heap.size A k (ints f)) => (step_any g ⟨ta, tc, na, nc, pa, pc⟩ A k c f p W h hok h2 (by omega) hkc hcm).mono fun _ _ h => st_all h)
    have hlen := Lib.hid (dst_len2 (g := g) (f := f) (p := p))
    rw [hE] at hLL ⊢
    rw [← hLL] at hSt hlen
    generalize stpL g f p = L at *
    generalize dstE g f p = E at *
    clear hg hs hf hfl hLL hE h0 hok
    unfold gval at *
    unfold gcells at *
    dsimp only at *
    obtain ⟨c0, c1, c2, c3, c4, c5⟩ := hG0.cells
    dsimp only at c1 c3 c5
    go_enter Try.func12, Try.ntmps12
    go_upto_region 4 with (go_at_call 14; refine (hC.out _ (hG0.2.1.mono hG0.2.2.size) (hfb.mono hG0.2.2.size)).mono ?_; rintro e w1 ⟨rfl, hb1⟩)
    have hG1 := hG0.step hb1
    have hf1 := hfb.below (hb1.mono hG0.2.2.size)
    clear c0 c1 c2 c3 c4 c5 hG0 hb1 hfb
    obtain ⟨c0, c1, c2, c3, c4, c5⟩ := hG1.cells
    dsimp only at c1 c3 c5
    go_wp2_with (first
      | (go_at_call 34; refine (hSt.out _ (hG1.2.1.mono hG1.2.2.size) (hf1.mono hG1.2.2.size)).mono ?_; rintro e w2 ⟨v2, rfl, hv2, hb2⟩)
      | (go_at_call 35; refine (clone_any v2 L w2 hv2 hlen.out).mono ?_; rintro e w3 ⟨v3, rfl, hv3, hb3⟩))
    go_ret2
    exact ⟨v3, rfl, hv3, ((hG1.step hb2).step hb3).2.2⟩
  · rw [if_pos h0] at hE
    rw [hE, if_neg h0] at hLL
    rw [hE, hLL]
    clear hE hLL
    generalize fchk g f = E at *
    have h1 : (E == 0) = false := by simpa using h0
    have h2 : (E != 0) = true := by simpa using h0
    clear hg hs hf hfl h0
    unfold gval at *
    unfold gcells at *
    dsimp only at *
    obtain ⟨c0, c1, c2, c3, c4, c5⟩ := hG0.cells
    dsimp only at c1 c3 c5
    go_enter Try.func12, Try.ntmps12
    go_wp2_with (go_at_call 14; refine (hC.out _ (hG0.2.1.mono hG0.2.2.size) (hfb.mono hG0.2.2.size)).mono ?_; rintro e w1 ⟨rfl, hb1⟩)
    go_ret2
    exact ⟨_, rfl, RdI.nil _, (hG0.step hb1).2.2⟩

set_option maxRecDepth 100000 in
set_option maxHeartbeats 4000000 in
theorem rstp_any (g : Gr) (a : GA) (A : Option Addr) (k c : Nat) (f : List Int) (p : Int) (w : World) (hg : GrAt w w.heap.size g a) (hs : Small g) (hf : Rd1 w w.heap.size A k (ints f)) (hkc : k ≤ c) (hcm : c ≤ maxLen) :
    Calls Try.prog 13 #[gval g a, .slice A k c, .int .i64 p] w (RetVE (stpE g f p) (stpL g f p) w) := by
  obtain ⟨ta, tc, na, nc, pa, pc⟩ := a
  have hfl : f.length = k := by have := hf.1; simpa [ints] using this
  have hG0 := GB.start hg
  have hC := Lib.hid (fun (W : World) (h : GrAt W W.heap.size g ⟨ta, tc, na, nc, pa, pc⟩) (h2 : Rd1 W W.heap.size A k (ints f)) => rfcheck_any g ⟨ta, tc, na, nc, pa, pc⟩ A k c f W h hs h2 (by omega))
  have hM := Lib.hid (fun (W : World) (h : GrAt W W.heap.size g ⟨ta, tc, na, nc, pa, pc⟩) (h2 : Rd1 W W.heap.size A k (ints f)) => rleftmost_any g ⟨ta, tc, na, nc, pa, pc⟩ A k c f W h hs h2 (by omega))
  have hE : stpE g f p = if fchk g f ≠ 0 then fchk g f else dstE g f p := rfl
  have hLL : stpL g f p = if stpE g f p = 0 then dstL g f p else [] := rfl
  have hfb : Rd1 (w.alloc (.cells (gcells g ⟨ta, tc, na, nc, pa, pc⟩) 25)) w.heap.size A k (ints f) := hf.below (bAlc (Below.refl _ _) _)
  by_cases h0 : fchk g f = 0
  · rw [if_neg (by simpa using h0)] at hE
    rw [h0] at hC
    obtain ⟨hok, hk200⟩ := fchk_len h0
    rw [hfl] at hk200
    have hkk := Lib.hid (gok_of hok)
    have hm24 := hkk.out.pl
    have hlE : lmE g f = if k ≤ atN f then 7 else 0 := by unfold lmE; rw [if_neg (by simpa using h0), hfl]
    have hlV : lmV g f = if lmE g f = 0 then (atN f : Int) else 0 := rfl
    rw [hlE] at hM hlV
    rw [hlV] at hM
    have hat1 := atN_le f
    rw [hfl] at hat1
    unfold dstE at hE
    rw [hfl] at hE
    unfold dstL at hLL
    obtain ⟨m, hm⟩ : ∃ m, m = g.prods.length := ⟨_, rfl⟩
    rw [← hm] at hm24 hE
    generalize stpL g f p = L at *
    generalize stpE g f p = E at *
    unfold maxLen at hcm
    clear hg hs hf h0 hok hlE hlV
    unfold gval at *
    unfold gcells at *
    dsimp only at *
    rw [← hm] at hG0 hC hM hfb ⊢
    replace hm := Lib.hid hm
    replace hfl := Lib.hid hfl
    have hzm : (0 : Int) ≤ m := by omega
    obtain ⟨c0, c1, c2, c3, c4, c5⟩ := hG0.cells
    dsimp only at c1 c3 c5
    rw [← hm.out] at c5
    by_cases hp : p < 0 ∨ (m : Int) ≤ p
    · rw [if_pos hp] at hE
      subst hE
      rw [if_neg (by omega)] at hLL
      subst hLL
      by_cases hp0 : p < 0
      · clear hp
        go_enter Try.func13, Try.ntmps13
        go_wp2_with (go_at_call 15; refine (hC.out _ (hG0.2.1.mono hG0.2.2.size) (hfb.mono hG0.2.2.size)).mono ?_; rintro e w1 ⟨rfl, hb1⟩)
        all_goals first
          | (go_ret2; exact ⟨_, rfl, RdI.nil _, (hG0.step hb1).2.2⟩)
          | (exfalso; simp_all; omega)
      · have hpm : (m : Int) ≤ p := by omega
        clear hp
        go_enter Try.func13, Try.ntmps13
        go_upto_region 4 with (go_at_call 15; refine (hC.out _ (hG0.2.1.mono hG0.2.2.size) (hfb.mono hG0.2.2.size)).mono ?_; rintro e w1 ⟨rfl, hb1⟩)
        have hG1 := hG0.step hb1
        clear c0 c1 c2 c3 c4 c5 hG0 hb1 hfb
        obtain ⟨c0, c1, c2, c3, c4, c5⟩ := hG1.cells
        dsimp only at c1 c3 c5
        rw [← hm.out] at c5
        go_wp2_with fail
        all_goals first
          | (go_ret2; exact ⟨_, rfl, RdI.nil _, hG1.2.2⟩)
          | (exfalso; simp_all; omega)
    · rw [if_neg hp] at hE
      have hp0 : 0 ≤ p := by omega
      have hpm : p < m := by omega
      obtain ⟨j, rfl⟩ := Int.eq_ofNat_of_zero_le hp0
      have hjm : j < m := by omega
      have hn1 : ¬ (j : Int) < 0 := by omega
      clear hp
      by_cases htk : k ≤ atN f
      · rw [if_pos htk] at hE
        subst hE
        rw [if_neg (by omega)] at hLL
        subst hLL
        rw [if_pos htk, if_neg (by omega)] at hM
        go_enter Try.func13, Try.ntmps13
        go_upto_region 4 with (go_at_call 15; refine (hC.out _ (hG0.2.1.mono hG0.2.2.size) (hfb.mono hG0.2.2.size)).mono ?_; rintro e w1 ⟨rfl, hb1⟩)
        have hG1 := hG0.step hb1
        have hf1 := hfb.below (hb1.mono hG0.2.2.size)
        clear c0 c1 c2 c3 c4 c5 hG0 hb1 hfb
        obtain ⟨c0, c1, c2, c3, c4, c5⟩ := hG1.cells
        dsimp only at c1 c3 c5
        rw [← hm.out] at c5
        go_wp2_with (go_at_call 11; refine (hM.out _ (hG1.2.1.mono hG1.2.2.size) (hf1.mono hG1.2.2.size)).mono ?_; rintro e w2 ⟨rfl, hb2⟩)
        go_ret2
        exact ⟨_, rfl, RdI.nil _, (hG1.step hb2).2.2⟩
      · rw [if_neg htk] at hE
        rw [if_neg htk, if_pos rfl] at hM
        have htl : atN f < f.length := by have := hfl.out; omega
        have hx : f[atN f]? = some f[atN f] := List.getElem?_eq_getElem htl
        have hgd : f.getD (atN f) 0 = f[atN f] := by simp [List.getD_eq_getElem?_getD, htl]
        rw [hgd] at hE
        have hxi : g.prods[j]? = some (dprG g j) := by
          unfold dprG
          rw [Int.toNat_natCast, List.getD_eq_getElem?_getD, List.getElem?_eq_getElem (by have := hm.out; omega)]; rfl
        have hrr := (hkk.out.pr _ (List.mem_of_getElem? hxi)).2.1
        generalize f[atN f] = s at *
        generalize atN f = t at *
        generalize dprG g j = q at *
        obtain ⟨ql, qr⟩ := q
        dsimp only at hE hLL hrr
        obtain ⟨fb, foff, rfl, hfbt, _⟩ := hfb.get (show (ints f)[t]? = some (.int .i64 s) by rw [ints, List.getElem?_map, hx]; rfl)
        obtain ⟨b, off, hpa, hbt, _⟩ := hG0.2.1.prods.get hxi
        dsimp only at hpa
        subst hpa
        have hzj : (0 : Int) ≤ j := by omega
        have hmul : (j : Int) * 2 ≤ 100 := by omega
        have hzt : (0 : Int) ≤ t := by omega
        have htk2 : (t : Int) < k := by omega
        replace hx := Lib.hid hx
        replace hxi := Lib.hid hxi
        replace hgd := Lib.hid hgd
        go_enter Try.func13, Try.ntmps13
        go_upto_region 4 with (go_at_call 15; refine (hC.out _ (hG0.2.1.mono hG0.2.2.size) (hfb.mono hG0.2.2.size)).mono ?_; rintro e w1 ⟨rfl, hb1⟩)
        have hG1 := hG0.step hb1
        have hf1 := hfb.below (hb1.mono hG0.2.2.size)
        clear c0 c1 c2 c3 c4 c5 hG0 hb1 hfb
        obtain ⟨c0, c1, c2, c3, c4, c5⟩ := hG1.cells
        dsimp only at c1 c3 c5
        rw [← hm.out] at c5
        go_upto_region 9 with (go_at_call 11; refine (hM.out _ (hG1.2.1.mono hG1.2.2.size) (hf1.mono hG1.2.2.size)).mono ?_; rintro e w2 ⟨rfl, hb2⟩)
        have hG2 := hG1.step hb2
        have hf2 := hf1.below (hb2.mono hG1.2.2.size)
        clear c0 c1 c2 c3 c4 c5 hG1 hb2 hf1
        obtain ⟨c0, c1, c2, c3, c4, c5⟩ := hG2.cells
        dsimp only at c1 c3 c5
        rw [← hm.out] at c5
        clear c0 c1 c2 c3 c4
        obtain ⟨b', off', hpa', _, y0, RA, rc, y1, hRd, hrl, hrm⟩ := hG2.2.1.prods.get hxi.out
        dsimp only at hpa' y0 y1 hRd hrl
        cases hpa'
        obtain ⟨fb', foff', hfb', _, x0⟩ := hf2.get (show (ints f)[t]? = some (.int .i64 s) by rw [ints, List.getElem?_map, hx.out]; rfl)
        cases hfb'
        unfold maxLen at hrm
        generalize w2 = W2' at *
        by_cases hls : ql = s
        · subst hls
          rw [if_neg (by simp)] at hE
          go_quiet (fail)
          have hG3 := hG2.drewN nq
          have hf3 := hf2.below (bDrwN' W2' nq)
          have hRd3 := hRd.below (bDrwN' W2' nq)
          have y3 := cell_later (bDrwN' W2' nq) y1
          clear hG2 hf2 hRd y1 c5 y0 x0
          generalize W2'.drewN nq = W3 at *
          have hlt3 := hG3.lt
          have ho4 : Own1 (W3.alloc (.cells #[] 3)) (w.heap.size + 1) 3 (.slice (some ⟨W3.heap.size, 0, none⟩) 0 0) [] := (Own1.empty W3 W3.heap.size 3 (Nat.le_refl _)).mono (by omega)
          have hb4 : Below W3.heap.size W3 (W3.alloc (.cells #[] 3)) := bAlc (Below.refl _ _) _
          have htl2 : (f.take t).length = t := by simp; omega
          have hz4 : W3.heap.size + 1 = (W3.alloc (.cells #[] 3)).heap.size := by simp
          obtain ⟨v5, W5, hr5, hs5, hb5⟩ := app_src (c := c) (l := []) (.inr ho4) (by omega) ((rd_take (hf3.below (hb4.mono (by omega))) t (by omega)).mono (by omega)) (by simp; omega)
          rw [List.nil_append] at hs5
          have hb35 : Below (w.heap.size + 1) W3 W5 := (hb4.mono (by omega)).trans hb5
          have hG5 := hG3.low (Nat.lt_succ_self _) hb35
          have hf5 := hf3.below (hb35.mono (by omega))
          have hRd5 := hRd3.below (hb35.mono (by omega))
          have y5 : W5.cell? ⟨b, off + j * 2 + 1, none⟩ = some (.slice RA qr.length rc) := ((hb35.mono (by omega)).cell (p := ⟨b, off + j * 2 + 1, none⟩) hbt).trans y3
          have hz5 := hG5.lt
          replace hz4 := Lib.hid hz4
          clear ho4 hb4 hb5 hb35 hG3 hf3 hRd3 y3
          replace hr5 := Lib.hid hr5
          have htc : (t : Int) ≤ c := by omega
          go_upto_region 12 with (at_builtin; refine wpList_appR _ rfl _ _ 26 rfl _ _ rfl rfl _ _ hr5.out ?_)
          clear hr5
          obtain ⟨c0, c1, c2, c3, c4, c5⟩ := hG5.cells
          dsimp only at c1 c3 c5
          rw [← hm.out] at c5
          clear c0 c1 c2 c3 c4
          obtain ⟨v6, W6, hr6, hs6, hb6⟩ := app_src (c := rc) hs5 (by omega) (hRd5.mono (by omega)) (by rw [htl2]; omega)
          have hG6 := hG5.low (Nat.lt_succ_self _) hb6
          have hf6 := hf5.below (hb6.mono (by omega))
          have hz6 := hG6.lt
          replace hr6 := Lib.hid hr6
          clear hs5 hb6 hf5 hRd5
          go_upto_region 13 with (at_builtin; refine wpList_appR _ rfl _ _ 26 rfl _ _ rfl rfl _ _ hr6.out ?_)
          clear hr6 hG5 c5 y5
          have hfd := rd_drop hf6 (t + 1) c (by omega) hkc
          have hzc1 : (t : Int) + 1 ≤ k := by omega
          have hlen2 : (f.take t ++ qr).length + (k - (t + 1)) ≤ 1000000 := by rw [List.length_append, htl2]; omega
          have hXl : Hid ((f.take t ++ qr ++ f.drop (t + 1)).length = t + qr.length + (k - (t + 1))) := Lib.hid (by rw [List.length_append, List.length_append, htl2, List.length_drop, hfl.out])
          have hll : Hid ((f.take t ++ qr ++ f.drop (t + 1)).length ≤ 1000000) := Lib.hid (by rw [hXl.out]; omega)
          replace htl2 := Lib.hid htl2
          by_cases hct : c = t + 1
          · have hkt : k = t + 1 := by omega
            subst hct
            subst hkt
            rw [if_pos rfl] at hfd
            simp only [Nat.sub_self] at hfd hlen2
            obtain ⟨v7, W7, hr7, hs7, hb7⟩ := app_src (c := 0) hs6 (by omega) (hfd.mono (by omega)) hlen2
            have hG7 := hG6.low (Nat.lt_succ_self _) hb7
            have hrd7 := Lib.hid (hs7.reads hll.out)
            obtain ⟨A7, c7, hv7, _, _, _⟩ := hs7.reads hll.out
            generalize hX : f.take t ++ qr ++ f.drop (t + 1) = X at *
            replace hX := Lib.hid hX
            subst hv7
            replace hr7 := Lib.hid hr7
            clear hs6 hs7 hb7 hG6 hf6 hfd hlen2 hz6
            go_upto_region 14 with (at_builtin; refine wpList_appR _ rfl _ _ 26 rfl _ _ rfl rfl _ _ hr7.out ?_)
            clear hr7
            by_cases h200 : 200 < ((t + 1 : Nat) : Int) - 1 + qr.length
            · rw [if_pos h200] at hE
              subst hE
              rw [if_neg (by omega)] at hLL
              subst hLL
              have hz : (200 : Int) < (X.length : Nat) := by rw [hXl.out]; omega
              go_wp2_with fail
              go_ret2
              exact ⟨_, rfl, RdI.nil _, hG7.2.2⟩
            · rw [if_neg h200] at hE
              subst hE
              rw [if_pos rfl] at hLL
              have hz : ¬ (200 : Int) < (X.length : Nat) := by rw [hXl.out]; omega
              replace hLL := Lib.hid hLL
              go_wp2_with fail
              go_ret2
              exact ⟨_, rfl, by rw [hLL.out]; exact hrd7.out, hG7.2.2⟩
          · rw [if_neg hct] at hfd
            obtain ⟨v7, W7, hr7, hs7, hb7⟩ := app_src (c := c - (t + 1)) hs6 (by omega) (hfd.mono (by omega)) hlen2
            simp only [Option.map_some, Addr.add_lit] at hr7
            have hG7 := hG6.low (Nat.lt_succ_self _) hb7
            have hrd7 := Lib.hid (hs7.reads hll.out)
            obtain ⟨A7, c7, hv7, _, _, _⟩ := hs7.reads hll.out
            generalize hX : f.take t ++ qr ++ f.drop (t + 1) = X at *
            replace hX := Lib.hid hX
            subst hv7
            replace hr7 := Lib.hid hr7
            clear hs6 hs7 hb7 hG6 hf6 hfd hlen2 hz6
            go_upto_region 14 with (at_builtin; refine wpList_appR _ rfl _ _ 26 rfl _ _ rfl rfl _ _ hr7.out ?_)
            clear hr7
            by_cases h200 : 200 < (k : Int) - 1 + qr.length
            · rw [if_pos h200] at hE
              subst hE
              rw [if_neg (by omega)] at hLL
              subst hLL
              have hz : (200 : Int) < (X.length : Nat) := by rw [hXl.out]; omega
              go_wp2_with fail
              go_ret2
              exact ⟨_, rfl, RdI.nil _, hG7.2.2⟩
            · rw [if_neg h200] at hE
              subst hE
              rw [if_pos rfl] at hLL
              have hz : ¬ (200 : Int) < (X.length : Nat) := by rw [hXl.out]; omega
              replace hLL := Lib.hid hLL
              go_wp2_with fail
              go_ret2
              exact ⟨_, rfl, by rw [hLL.out]; exact hrd7.out, hG7.2.2⟩
        · rw [if_pos hls] at hE
          subst hE
          rw [if_neg (by omega)] at hLL
          subst hLL
          have hls1 : (ql == s) = false := by simpa using hls
          have hls2 : (ql != s) = true := by simpa using hls
          go_quiet (fail)
          go_wp2_with fail
          go_ret2
          exact ⟨_, rfl, RdI.nil _, (hG2.drewN nq).2.2⟩
  · rw [if_pos h0] at hE
    rw [hE, if_neg h0] at hLL
    rw [hE, hLL]
    clear hE hLL
    generalize fchk g f = E at *
    have h1 : (E == 0) = false := by simpa using h0
    have h2 : (E != 0) = true := by simpa using h0
    clear hg hs hf hfl h0
    unfold gval at *
    unfold gcells at *
    dsimp only at *
    obtain ⟨c0, c1, c2, c3, c4, c5⟩ := hG0.cells
    dsimp only at c1 c3 c5
    go_enter Try.func13, Try.ntmps13
    go_wp2_with (go_at_call 15; refine (hC.out _ (hG0.2.1.mono hG0.2.2.size) (hfb.mono hG0.2.2.size)).mono ?_; rintro e w1 ⟨rfl, hb1⟩)
    go_ret2
    exact ⟨_, rfl, RdI.nil _, (hG0.step hb1).2.2⟩
end Go.Proofs.Ytlngbphchhbpbaa

/- The reference's Run. -/
namespace Go.Proofs.Ytlngbphchhbpbaa
open Go.ChangeShapes Go.WideShapes Go.ChangeAt Go.RowKit
set_option linter.unusedVariables false

theorem fchk_ok {g : Gr} {f : List Int} (h : gchk g = 0) (h2 : f.length ≤ 200) (h3 : ∀ s ∈ f, syB g s = true) : fchk g f = 0 := by
  unfold fchk
  rw [if_neg (by simpa using h), if_neg (by omega), if_pos (List.all_eq_true.2 h3)]
theorem fchk_sym {g : Gr} {f : List Int} (h : fchk g f = 0) : ∀ s ∈ f, syB g s = true := by
  unfold fchk at h
  split at h
  · rename_i h1; exact absurd h h1
  · split at h
    · omega
    · split at h
      · rename_i h3; exact List.all_eq_true.1 h3
      · omega
theorem sy_right {g : Gr} (hok : gchk g = 0) {p : Pr} (hp : p ∈ g.prods) : ∀ s ∈ p.right, syB g s = true := by
  intro s hs
  have h := ((gok_of hok).pr p hp).2.2 s hs
  unfold syB tmB ntB
  rw [Bool.or_eq_true, decide_eq_true_iff, decide_eq_true_iff]
  exact h
theorem sy_start {g : Gr} (hok : gchk g = 0) : syB g g.start = true := by
  have h := (gok_of hok).st
  unfold syB tmB ntB
  rw [Bool.or_eq_true, decide_eq_true_iff, decide_eq_true_iff]
  exact .inr h
theorem fchk_start {g : Gr} (hok : gchk g = 0) : fchk g [g.start] = 0 := by
  refine fchk_ok hok (by simp) fun s hs => ?_
  have : s = g.start := by simpa using hs
  subst this
  exact sy_start hok
theorem dst_range {g : Gr} {f : List Int} {p : Int} (h : dstE g f p = 0) : dprG g p ∈ g.prods := by
  unfold dstE at h
  split at h
  · cases h
  · rename_i h1
    unfold dprG
    rw [List.getD_eq_getElem?_getD, List.getElem?_eq_getElem (by omega)]
    exact List.getElem_mem _
theorem fchk_step {g : Gr} {f : List Int} {p : Int} (h : fchk g f = 0) (h0 : dstE g f p = 0) : fchk g (dstL g f p) = 0 := by
  have hok := (fchk_len h).1
  refine fchk_ok hok (dst_len h0).1 fun s hs => ?_
  unfold dstL at hs
  rcases List.mem_append.1 hs with hs | hs
  · rcases List.mem_append.1 hs with hs | hs
    · exact fchk_sym h s (List.mem_of_mem_take hs)
    · exact sy_right hok (dst_range h0) s hs
  · exact fchk_sym h s (List.mem_of_mem_drop hs)
def runL (g : Gr) (ps : List Int) : List Int := if runE g ps = 0 then (runF g [g.start] ps).2 else []
theorem rn_all {g : Gr} {ps : List Int} {w : World} {e : Ending} {w' : World} (hr : RetRn g ps w e w') : RetVE (runE g ps) (runL g ps) w e w' := by
  obtain ⟨hb, ⟨h1, rfl⟩ | ⟨h1, v, rfl, hv⟩⟩ := hr
  · exact ⟨_, rfl, by unfold runL; rw [if_neg h1]; exact RdI.nil _, hb⟩
  · exact ⟨v, by rw [h1], by unfold runL; rw [if_pos h1]; exact hv, hb⟩

set_option maxRecDepth 100000 in
set_option maxHeartbeats 2000000 in
theorem rrun_any (g : Gr) (a : GA) (A : Option Addr) (n c : Nat) (ps : List Int) (w : World) (hg : GrAt w w.heap.size g a) (hs : Small g) (hf : Rd1 w w.heap.size A n (ints ps)) (hn : n ≤ maxLen) :
    Calls Try.prog 18 #[gval g a, .slice A n c] w (RetVE (runE g ps) (runL g ps) w) := by
  obtain ⟨ta, tc, na, nc, pa, pc⟩ := a
  have hfl : ps.length = n := by have := hf.1; simpa [ints] using this
  have hG0 := GB.start hg
  have hC := Lib.hid (fun (W : World) (h : GrAt W W.heap.size g ⟨ta, tc, na, nc, pa, pc⟩) => rcheckg_any g ⟨ta, tc, na, nc, pa, pc⟩ W h hs)
  have hSt := Lib.hid (fun (A : Option Addr) (k c : Nat) (f : List Int) (p : Int) (W : World) (h : GrAt W W.heap.size g ⟨ta, tc, na, nc, pa, pc⟩) => rstp_any g ⟨ta, tc, na, nc, pa, pc⟩ A k c f p W h hs)
  have hE : runE g ps = if gchk g ≠ 0 then gchk g else if 1000 < n then 6 else (runF g [g.start] ps).1 := by unfold runE; rw [hfl]
  have hL : runL g ps = if runE g ps = 0 then (runF g [g.start] ps).2 else [] := rfl
  generalize runL g ps = L at *
  generalize runE g ps = E at *
  unfold maxLen at hn
  clear hg hs
  have hok0 := Lib.hid (fun (h : gchk g = 0) => fchk_start h)
  unfold gval at *
  unfold gcells at *
  dsimp only at *
  replace hfl := Lib.hid hfl
  have hzn : (0 : Int) ≤ n := by omega
  obtain ⟨c0, c1, c2, c3, c4, c5⟩ := hG0.cells
  dsimp only at c1 c3 c5
  by_cases hok : gchk g = 0
  · rw [if_neg (by simpa using hok)] at hE
    have hst0 := Lib.hid (hok0.out hok)
    rw [hok] at hC
    clear hok0
    by_cases h1000 : 1000 < n
    · rw [if_pos h1000] at hE
      subst hE
      rw [if_neg (by omega)] at hL
      subst hL
      have hz : (1000 : Int) < n := by omega
      go_enter Try.func18, Try.ntmps18
      go_wp2_with (go_at_call 38; refine (hC.out _ (hG0.2.1.mono hG0.2.2.size)).mono ?_; rintro e w1 ⟨rfl, hb1⟩)
      go_ret2
      exact ⟨_, rfl, RdI.nil _, (hG0.step hb1).2.2⟩
    · rw [if_neg h1000] at hE
      have hz : ¬ (1000 : Int) < n := by omega
      replace hE := Lib.hid hE
      replace hL := Lib.hid hL
      go_enter Try.func18, Try.ntmps18
      go_upto_region 4 with (go_at_call 38; refine (hC.out _ (hG0.2.1.mono hG0.2.2.size)).mono ?_; rintro e w1 ⟨rfl, hb1⟩)
      have hG1 := hG0.step hb1
      clear hG0 c0 c1 c2 c3 c4 c5
      obtain ⟨c0, c1, c2, c3, c4, c5⟩ := hG1.cells
      dsimp only at c1 c3 c5
      clear c0 c1 c2 c3 c5 hb1
      go_wp2_with fail
      have hG2 := hG1.alloc (.cells #[.int .i64 g.start] 3)
      have hb2 := hG2.2.2
      have hrd : RdI (w1.alloc (.cells #[.int .i64 g.start] 3)) (.slice (some ⟨w1.heap.size, 0, none⟩) 1 1) [g.start] := ⟨some ⟨w1.heap.size, 0, none⟩, 1, rfl, rd_blk (Blk.new w1 3 _), by simp, by unfold maxLen; simp⟩
      clear hG1 c4
      generalize w1.alloc (.cells #[.int .i64 g.start] 3) = W2 at *
      go_loopg [8, 7] n (fun gk s8 s7 wr => ∃ (i : Nat) (f : List Int), s8 = .int .i64 i ∧ i + gk = n ∧ RdI wr s7 f ∧ Hid (fchk g f = 0) ∧ Hid (runF g [g.start] ps = runF g f (ps.drop i)) ∧ GB w g ⟨ta, tc, na, nc, pa, pc⟩ wr)
      case atStart => exact ⟨0, [g.start], rfl, by omega, hrd, hst0, Lib.hid rfl, hG2⟩
      case round =>
        clear hrd hG2 hb2
        obtain ⟨i, f, rfl, hi, hrd, hfc, hrun, hG⟩ := hrel
        replace hi := Lib.hid hi
        by_cases hin : i < n
        · have hil : i < ps.length := by have := hfl.out; omega
          have hx : ps[i]? = some ps[i] := List.getElem?_eq_getElem hil
          obtain ⟨b, off, rfl, hbt, x0⟩ := (hf.below hG.2.2).get (show (ints ps)[i]? = some (.int .i64 ps[i]) by rw [ints, List.getElem?_map, hx]; rfl)
          have hdr : ps.drop i = ps[i] :: ps.drop (i + 1) := List.drop_eq_getElem_cons hil
          generalize ps[i] = p at *
          obtain ⟨A', c', rfl, hrd1, hrl, hrm⟩ := hrd
          have hz0 : (0 : Int) ≤ i := by omega
          have hz1 : (i : Int) < n := by omega
          have hr2 := hrun.out
          rw [hdr] at hr2
          replace hx := Lib.hid hx
          replace hdr := Lib.hid hdr
          obtain ⟨c0, c1, c2, c3, c4, c5⟩ := hG.cells
          dsimp only at c1 c3 c5
          have hSt1 := hSt.out A' f.length c' f p wr.drew ((hG.step (bDrw (Below.refl _ _))).2.1.mono hG.2.2.size) (hrd1.below ((Below.refl wr.heap.size wr).drew)) hrl hrm
          have hstE : stpE g f p = dstE g f p := by unfold stpE; rw [if_neg (by simpa using hfc.out)]
          have hstL : stpL g f p = if dstE g f p = 0 then dstL g f p else [] := by unfold stpL; rw [hstE]
          rw [hstE, hstL] at hSt1
          by_cases h0 : dstE g f p = 0
          · have hr3 : Hid (runF g [g.start] ps = runF g (dstL g f p) (ps.drop (i + 1))) := Lib.hid (by rw [hr2, runF, if_pos h0])
            have hfc2 := Lib.hid (fchk_step hfc.out h0)
            rw [if_pos h0, h0] at hSt1
            replace hSt1 := Lib.hid hSt1
            clear hr2 h0 hstE hstL
            go_upto_region 10 with (fail)
            have hS0 : Below wr.heap.size wr wr.drew := (Below.refl _ _).drew
            have hAll := Lib.hid (fun (W : World) (h : Below wr.heap.size wr W) => (⟨cell_later h c0, cell_later h c1, cell_later h c2, cell_later h c3, cell_later h c4, cell_later h c5, cell_later h x0, h⟩ : W.cell? ⟨w.heap.size, 0, none⟩ = some (.int .i64 g.k) ∧ W.cell? ⟨w.heap.size, 1, none⟩ = some (.slice ta g.toks.length tc) ∧ W.cell? ⟨w.heap.size, 2, none⟩ = some (.string g.sep) ∧ W.cell? ⟨w.heap.size, 3, none⟩ = some (.slice na g.names.length nc) ∧ W.cell? ⟨w.heap.size, 4, none⟩ = some (.int .i64 g.start) ∧ W.cell? ⟨w.heap.size, 5, none⟩ = some (.slice pa g.prods.length pc) ∧ W.cell? ⟨b, off + i, none⟩ = some (.int .i64 p) ∧ Below wr.heap.size wr W))
            clear c0 c1 c2 c3 c4 c5 x0 hrd1
            go_region_held3 (fun W => W.cell? ⟨w.heap.size, 0, none⟩ = some (.int .i64 g.k) ∧ W.cell? ⟨w.heap.size, 1, none⟩ = some (.slice ta g.toks.length tc) ∧ W.cell? ⟨w.heap.size, 2, none⟩ = some (.string g.sep) ∧ W.cell? ⟨w.heap.size, 3, none⟩ = some (.slice na g.names.length nc) ∧ W.cell? ⟨w.heap.size, 4, none⟩ = some (.int .i64 g.start) ∧ W.cell? ⟨w.heap.size, 5, none⟩ = some (.slice pa g.prods.length pc) ∧ W.cell? ⟨b, off + i, none⟩ = some (.int .i64 p) ∧ Below wr.heap.size wr W)
              ((refine hAll.out _ ?_; first | assumption | exact hS0 | exact bStep hS0 (by assumption)))
              ((go_at_call 13; refine hSt1.out.mono ?_; rintro e w5 ⟨v5, rfl, hv5, hb5⟩))
            have hb6 := bStep hS0 hb5
            go_wp2_with fail
            go_roundg (n - (i + 1))
            case measure => have := hi.out; omega
            case rel => exact ⟨i + 1, dstL g f p, by go_num, by have := hi.out; omega, hv5, hfc2, hr3, hG.step hb6⟩
          · have hr3 : runF g [g.start] ps = (dstE g f p, []) := by rw [hr2, runF, if_neg h0]
            have hE2 := hE.out
            rw [hr3] at hE2
            dsimp only at hE2
            have hL2 := hL.out
            rw [hE2, if_neg h0] at hL2
            subst hE2
            subst hL2
            rw [if_neg h0] at hSt1
            replace hSt1 := Lib.hid hSt1
            have h1 : (dstE g f p == 0) = false := by simpa using h0
            have h2 : (dstE g f p != 0) = true := by simpa using h0
            clear hr2 hr3 hstE hstL hE hL h0
            generalize dstE g f p = E at *
            go_upto_region 10 with (fail)
            have hS0 : Below wr.heap.size wr wr.drew := (Below.refl _ _).drew
            have hAll := Lib.hid (fun (W : World) (h : Below wr.heap.size wr W) => (⟨cell_later h c0, cell_later h c1, cell_later h c2, cell_later h c3, cell_later h c4, cell_later h c5, cell_later h x0, h⟩ : W.cell? ⟨w.heap.size, 0, none⟩ = some (.int .i64 g.k) ∧ W.cell? ⟨w.heap.size, 1, none⟩ = some (.slice ta g.toks.length tc) ∧ W.cell? ⟨w.heap.size, 2, none⟩ = some (.string g.sep) ∧ W.cell? ⟨w.heap.size, 3, none⟩ = some (.slice na g.names.length nc) ∧ W.cell? ⟨w.heap.size, 4, none⟩ = some (.int .i64 g.start) ∧ W.cell? ⟨w.heap.size, 5, none⟩ = some (.slice pa g.prods.length pc) ∧ W.cell? ⟨b, off + i, none⟩ = some (.int .i64 p) ∧ Below wr.heap.size wr W))
            clear c0 c1 c2 c3 c4 c5 x0 hrd1
            go_region_held3 (fun W => W.cell? ⟨w.heap.size, 0, none⟩ = some (.int .i64 g.k) ∧ W.cell? ⟨w.heap.size, 1, none⟩ = some (.slice ta g.toks.length tc) ∧ W.cell? ⟨w.heap.size, 2, none⟩ = some (.string g.sep) ∧ W.cell? ⟨w.heap.size, 3, none⟩ = some (.slice na g.names.length nc) ∧ W.cell? ⟨w.heap.size, 4, none⟩ = some (.int .i64 g.start) ∧ W.cell? ⟨w.heap.size, 5, none⟩ = some (.slice pa g.prods.length pc) ∧ W.cell? ⟨b, off + i, none⟩ = some (.int .i64 p) ∧ Below wr.heap.size wr W)
              ((refine hAll.out _ ?_; first | assumption | exact hS0 | exact bStep hS0 (by assumption)))
              ((go_at_call 13; refine hSt1.out.mono ?_; rintro e w5 ⟨v5, rfl, hv5, hb5⟩))
            have hb6 := bStep hS0 hb5
            go_wp2_with fail
            go_ret2
            exact ⟨_, rfl, RdI.nil _, (hG.step hb6).2.2⟩
        · have hin2 : i = n := by have := hi.out; omega
          have hr2 := hrun.out
          rw [List.drop_eq_nil_of_le (by have := hfl.out; omega)] at hr2
          have hr3 : runF g [g.start] ps = (0, f) := by rw [hr2, runF]
          have hE2 := hE.out
          rw [hr3] at hE2
          dsimp only at hE2
          have hL2 := hL.out
          rw [hE2, if_pos rfl, hr3] at hL2
          dsimp only at hL2
          subst hE2
          subst hL2
          clear hr2 hr3 hE hL
          have hrd' := Lib.hid hrd
          have hGb := Lib.hid hG.2.2
          go_wp2_with fail
          go_ret2
          exact ⟨_, rfl, hrd'.out, hGb.out⟩
  · rw [if_pos hok] at hE
    rw [hE, if_neg hok] at hL
    have hok2 : (gchk g == 0) = false := by simpa using hok
    have hok3 : (gchk g != 0) = true := by simpa using hok
    subst hE
    subst hL
    clear hok hok0
    generalize gchk g = E at *
    go_enter Try.func18, Try.ntmps18
    go_wp2_with (go_at_call 38; refine (hC.out _ (hG0.2.1.mono hG0.2.2.size)).mono ?_; rintro e w1 ⟨rfl, hb1⟩)
    go_ret2
    exact ⟨_, rfl, RdI.nil _, (hG0.step hb1).2.2⟩
end Go.Proofs.Ytlngbphchhbpbaa

/- The grammar and the look that come in as arguments: opened. -/
namespace Go.Proofs.Ytlngbphchhbpbaa
open Go.ChangeShapes Go.WideShapes Go.ChangeAt Go.RowKit
set_option linter.unusedVariables false

/-- numbers of 64 bits -/
def I64 (z : Int) : Prop := (Lit.int .i64 z).wf = true
structure GI64 (g : Gr) : Prop where
  k : I64 g.k
  start : I64 g.start
  left : ∀ p ∈ g.prods, I64 p.left
  right : ∀ p ∈ g.prods, ∀ s ∈ p.right, I64 s

theorem cell_lt {W : World} {p : Addr} {v : Value} (h : W.cell? p = some v) : p.block < W.heap.size := by
  unfold World.cell? at h
  cases hh : W.heap[p.block]? with
  | none => rw [hh] at h; simp at h
  | some o => exact (Array.getElem?_eq_some_iff.1 hh).1
theorem add_off (b o i : Nat) : (⟨b, o, none⟩ : Addr).add i = ⟨b, o + i, none⟩ := by
  unfold Addr.add; split <;> simp_all

section
variable {H : Type} {enc : TypeId × Value → H} {W : World}

theorem open_rd_strs {fuel : Nat} {cs : List Value} {x : DataW H × List MemPlace} (h : DataW.trod enc Try.prog W 0 (fun _ => true) true fuel 22 cs = some x) :
    ∃ a c l, cs = [.slice a l.length c] ∧ Rd1 W W.heap.size a l.length (strs l) ∧ l.length ≤ c ∧ c ≤ maxLen ∧ ∀ s ∈ l, s.size ≤ maxLen := by
  rcases Go.Deep.open_strs Try.underlying22 Try.underlying9 (by kernel_rfl) h with ⟨rfl, _⟩ | ⟨a, len, cap, m, Sx, rfl, _, hl, hm, hmm, _, hc⟩
  · exact ⟨none, 0, [], rfl, ⟨rfl, .inl rfl⟩, Nat.le_refl _, by decide, by simp⟩
  · simp at hmm
    subst hmm
    refine ⟨some a, m, (List.range len).map Sx, by simp, ?_, by simpa using hl, hm, ?_⟩
    · refine ⟨by simp [strs], ?_⟩
      by_cases h0 : len = 0
      · left; simpa using h0
      · right
        have h1 := (hc 0 (by omega)).1
        obtain ⟨b, o, sp⟩ := a
        have hsp : sp = none := by
          have := World.cell?_spot h1
          simpa [Addr.add] using this
        subst hsp
        refine ⟨b, o, rfl, cell_lt h1, fun i v hv => ?_⟩
        simp only [strs, List.map_map, List.getElem?_map] at hv
        by_cases hi : i < len
        · rw [List.getElem?_range hi] at hv
          simp at hv
          subst hv
          have := (hc i (by omega)).1
          rwa [add_off] at this
        · rw [List.getElem?_eq_none (by simpa using hi)] at hv
          simp at hv
    · intro s hs
      obtain ⟨i, hi, rfl⟩ := List.mem_map.1 hs
      exact (hc i (by have := List.mem_range.1 hi; omega)).2
theorem open_rd_ints {fuel : Nat} {cs : List Value} {x : DataW H × List MemPlace} (h : DataW.trod enc Try.prog W 0 (fun _ => true) true fuel 26 cs = some x) :
    ∃ a c l, cs = [.slice a l.length c] ∧ Rd1 W W.heap.size a l.length (ints l) ∧ l.length ≤ c ∧ c ≤ maxLen ∧ ∀ s ∈ l, I64 s := by
  rcases open_ints (by kernel_rfl) Try.underlying3 (by kernel_rfl) h with ⟨rfl, _⟩ | ⟨a, len, cap, zs, rfl, _, hl, hm, hz, _, hc, hw⟩
  · exact ⟨none, 0, [], rfl, ⟨rfl, .inl rfl⟩, Nat.le_refl _, by decide, by simp⟩
  · simp at hz
    subst hz
    have hlen : (zs.take len).length = len := by rw [List.length_take]; omega
    refine ⟨some a, zs.length, zs.take len, by rw [hlen], ?_, by rw [hlen]; exact hl, hm, fun s hs => hw s (List.mem_of_mem_take hs)⟩
    rw [hlen]
    refine ⟨by rw [ints, List.length_map, hlen], ?_⟩
    by_cases h0 : len = 0
    · exact .inl h0
    · right
      have h1 := hc 0 (by omega)
      obtain ⟨b, o, sp⟩ := a
      have hsp : sp = none := by
        have := World.cell?_spot h1
        simpa [Addr.add] using this
      subst hsp
      refine ⟨b, o, rfl, cell_lt h1, fun i v hv => ?_⟩
      simp only [ints, List.getElem?_map] at hv
      by_cases hi : i < len
      · rw [List.getElem?_take_of_lt hi, List.getElem?_eq_getElem (by omega)] at hv
        simp at hv
        subst hv
        have := hc i (by omega)
        rw [add_off, List.getD_eq_getElem?_getD, List.getElem?_eq_getElem (by omega)] at this
        simpa using this
      · rw [List.getElem?_eq_none (by rw [hlen]; omega)] at hv
        simp at hv
theorem fields47 : ∃ f0 f1 : Field, Try.prog.underlying 49 = some (.struct #[f0, f1]) ∧ f0.type = 3 ∧ f0.offset = 0 ∧ f1.type = 26 ∧ f1.offset = 1 := by
  have h : Try.prog.underlying 49 = some (.struct (Try.prog.fieldsOf 49)) := by kernel_rfl
  refine ⟨(Try.prog.fieldsOf 49)[0]!, (Try.prog.fieldsOf 49)[1]!, by kernel_rfl, by kernel_rfl, by kernel_rfl, by kernel_rfl, by kernel_rfl⟩
theorem open_rd_prods {fuel : Nat} {cs : List Value} {x : DataW H × List MemPlace} (h : DataW.trod enc Try.prog W 0 (fun _ => true) true fuel 23 cs = some x) :
    ∃ a c l, cs = [.slice a l.length c] ∧ RdP W W.heap.size a l.length l ∧ l.length ≤ c ∧ c ≤ maxLen ∧ ∀ p ∈ l, I64 p.left ∧ ∀ s ∈ p.right, I64 s := by
  obtain ⟨f0, f1, he, t0, o0, t1, o1⟩ := fields47
  rcases Go.Deep.open_slice_pairs Try.underlying23 he (by kernel_rfl) o0 o1 (by rw [t0]; kernel_rfl) (by rw [t1]; kernel_rfl) h with ⟨rfl, _⟩ | ⟨a, len, cap, m, n, V0, V1, D0, D1, P0, P1, rfl, _, hl, hm, hmm, _, hc⟩
  · exact ⟨none, 0, [], rfl, ⟨rfl, .inl rfl⟩, Nat.le_refl _, by decide, by simp⟩
  · simp at hmm
    subst hmm
    rw [t0, t1] at hc
    have each : ∀ i, i < m → ∃ q : Int × (Option Addr × Nat × List Int), V0 i = .int .i64 q.1 ∧ I64 q.1 ∧ V1 i = .slice q.2.1 q.2.2.2.length q.2.2.1 ∧ Rd1 W W.heap.size q.2.1 q.2.2.2.length (ints q.2.2.2) ∧ q.2.2.2.length ≤ q.2.2.1 ∧ q.2.2.1 ≤ maxLen ∧ ∀ s ∈ q.2.2.2, I64 s := by
      intro i hi
      obtain ⟨_, _, h0, h1⟩ := hc i hi
      obtain ⟨z, e1, _, e2⟩ := DataW.trod_int Try.underlying3 h0
      obtain ⟨a1, c1, l1, e3, e4, e5, e6, e7⟩ := open_rd_ints h1
      exact ⟨(z, a1, c1, l1), by simpa using e1, e2, by simpa using e3, e4, e5, e6, e7⟩
    obtain ⟨q, hq⟩ := Go.Deep.choose_lt each
    refine ⟨some a, m, (List.range len).map fun i => ⟨(q i).1, (q i).2.2.2⟩, by simp, ?_, by simpa using hl, hm, ?_⟩
    · refine ⟨by simp, ?_⟩
      by_cases h0 : len = 0
      · left; simpa using h0
      · right
        have h1 := (hc 0 (by omega)).1
        obtain ⟨b, o, sp⟩ := a
        have hsp : sp = none := by
          have := World.cell?_spot h1
          simpa [Addr.add] using this
        subst hsp
        refine ⟨b, o, rfl, cell_lt h1, fun i p hp => ?_⟩
        by_cases hi : i < len
        · rw [List.getElem?_map, List.getElem?_range hi] at hp
          simp at hp
          subst hp
          obtain ⟨g0, g1, _, _⟩ := hc i (by omega)
          obtain ⟨e1, _, e3, e4, e5, e6, _⟩ := hq i (by omega)
          rw [add_off] at g0 g1
          rw [e1] at g0; rw [e3] at g1
          exact ⟨g0, _, _, g1, e4, e5, e6⟩
        · rw [List.getElem?_eq_none (by simpa using hi)] at hp
          simp at hp
    · intro p hp
      obtain ⟨i, hi, rfl⟩ := List.mem_map.1 hp
      obtain ⟨_, e2, _, _, _, _, e7⟩ := hq i (by have := List.mem_range.1 hi; omega)
      exact ⟨e2, e7⟩

theorem six_of {α : Type} {l : List α} (h : l.length = 6) : ∃ a b c d e f, l = [a, b, c, d, e, f] := by
  match l, h with
  | [a, b, c, d, e, f], _ => exact ⟨a, b, c, d, e, f, rfl⟩
theorem fields25 : ∃ f0 f1 f2 f3 f4 f5 : Field, Try.prog.underlying 25 = some (.struct #[f0, f1, f2, f3, f4, f5]) ∧ f0.type = 3 ∧ f0.offset = 0 ∧ f1.type = 22 ∧ f1.offset = 1 ∧ f2.type = 9 ∧ f2.offset = 2 ∧ f3.type = 22 ∧ f3.offset = 3 ∧ f4.type = 3 ∧ f4.offset = 4 ∧ f5.type = 23 ∧ f5.offset = 5 :=
  ⟨(Try.prog.fieldsOf 25)[0]!, (Try.prog.fieldsOf 25)[1]!, (Try.prog.fieldsOf 25)[2]!, (Try.prog.fieldsOf 25)[3]!, (Try.prog.fieldsOf 25)[4]!, (Try.prog.fieldsOf 25)[5]!, by kernel_rfl, by kernel_rfl, by kernel_rfl, by kernel_rfl, by kernel_rfl, by kernel_rfl, by kernel_rfl, by kernel_rfl, by kernel_rfl, by kernel_rfl, by kernel_rfl, by kernel_rfl, by kernel_rfl⟩
theorem c3 : Try.prog.cellsOf 3 = 1 := by kernel_rfl
theorem c9 : Try.prog.cellsOf 9 = 1 := by kernel_rfl
theorem c22 : Try.prog.cellsOf 22 = 1 := by kernel_rfl
theorem c23 : Try.prog.cellsOf 23 = 1 := by kernel_rfl
theorem c25 : Try.prog.cellsOf 25 = 6 := by kernel_rfl
/-- a grammar that comes in -/
theorem open_gram {fuel : Nat} {cs : List Value} {x : DataW H × List MemPlace} (h : DataW.trod enc Try.prog W 0 (fun _ => true) true fuel 25 cs = some x) :
    ∃ g a, cs = (gcells g a).toList ∧ GrAt W W.heap.size g a ∧ GI64 g := by
  obtain ⟨f0, f1, f2, f3, f4, f5, he, t0, o0, t1, o1, t2, o2, t3, o3, t4, o4, t5, o5⟩ := fields25
  obtain ⟨xs, n, _, _, hlen, hxl, hf⟩ := DataW.trod_struct he h
  rw [c25] at hlen
  obtain ⟨v0, v1, v2, v3, v4, v5, rfl⟩ := six_of hlen
  have g0 := hf 0 f0 rfl
  have g1 := hf 1 f1 rfl
  have g2 := hf 2 f2 rfl
  have g3 := hf 3 f3 rfl
  have g4 := hf 4 f4 rfl
  have g5 := hf 5 f5 rfl
  simp only [t0, t1, t2, t3, t4, t5, o0, o1, o2, o3, o4, o5, c3, c9, c22, c23, List.drop_zero, List.drop_succ_cons, List.take_succ_cons, List.take_zero] at g0 g1 g2 g3 g4 g5
  have some_of : ∀ {i : Nat}, i < 6 → ∃ y, xs[i]? = some y := fun {i} hi => ⟨_, List.getElem?_eq_getElem (show i < xs.length by rw [hxl]; exact hi)⟩
  obtain ⟨y0, e0⟩ := some_of (i := 0) (by decide)
  obtain ⟨y1, e1⟩ := some_of (i := 1) (by decide)
  obtain ⟨y2, e2⟩ := some_of (i := 2) (by decide)
  obtain ⟨y3, e3⟩ := some_of (i := 3) (by decide)
  obtain ⟨y4, e4⟩ := some_of (i := 4) (by decide)
  obtain ⟨y5, e5⟩ := some_of (i := 5) (by decide)
  rw [e0] at g0; rw [e1] at g1; rw [e2] at g2; rw [e3] at g3; rw [e4] at g4; rw [e5] at g5
  obtain ⟨k, r0, _, w0⟩ := DataW.trod_int Try.underlying3 g0
  obtain ⟨ta, tc, tl, r1, p1, p2, p3, p4⟩ := open_rd_strs g1
  obtain ⟨sep, r2, _, w2⟩ := DataW.trod_string Try.underlying9 g2
  obtain ⟨na, nc, nl, r3, q1, q2, q3, q4⟩ := open_rd_strs g3
  obtain ⟨st, r4, _, w4⟩ := DataW.trod_int Try.underlying3 g4
  obtain ⟨pa, pc, pl, r5, s1, s2, s3, s4⟩ := open_rd_prods g5
  refine ⟨⟨k, tl, sep, nl, st, pl⟩, ⟨ta, tc, na, nc, pa, pc⟩, ?_, ⟨p1, p2, p3, q1, q2, q3, s1, s2, s3, w2, p4, q4⟩, ⟨w0, w4, fun p hp => (s4 p hp).1, fun p hp => (s4 p hp).2⟩⟩
  simp at r0 r1 r2 r3 r4 r5
  subst r0 r1 r2 r3 r4 r5
  rfl

theorem five_of {α : Type} {l : List α} (h : l.length = 5) : ∃ a b c d e, l = [a, b, c, d, e] := by
  match l, h with
  | [a, b, c, d, e], _ => exact ⟨a, b, c, d, e, rfl⟩
end
end Go.Proofs.Ytlngbphchhbpbaa

/- The statement DeriveSteps: the walk. -/
namespace Go.Proofs.Ytlngbphchhbpbaa
open Go.ChangeShapes Go.WideShapes Go.ChangeAt Go.RowKit
set_option linter.unusedVariables false

/-- an argument that is a list of numbers -/
def IsInts (w : World) (a : Option Addr) (len cap : Nat) (zs : List Int) : Prop :=
  (a = none ∧ len = 0 ∧ cap = 0 ∧ zs = []) ∨
  ∃ x, a = some x ∧ len ≤ cap ∧ cap ≤ maxLen ∧ zs.length = cap ∧ (∀ i, i < zs.length → w.cell? (x.add i) = some (.int .i64 (zs.getD i 0))) ∧ (∀ n ∈ zs, (Lit.int .i64 n).wf = true)
theorem ints_reads {w : World} {a : Option Addr} {len cap : Nat} {zs : List Int} (h : IsInts w a len cap zs) :
    Rd1 w w.heap.size a len (ints (zs.take len)) ∧ (∀ n ∈ zs.take len, (Lit.int .i64 n).wf = true) ∧ len ≤ maxLen := by
  rcases h with ⟨rfl, rfl, rfl, rfl⟩ | ⟨⟨b, off, spot⟩, rfl, h1, h2, h3, h4, h5⟩
  · exact ⟨Rd1.nil _ _ _, by simp, by simp [maxLen]⟩
  · refine ⟨?_, fun n hn => h5 n (List.mem_of_mem_take hn), by omega⟩
    by_cases h0 : len = 0
    · subst h0; exact Rd1.nil _ _ _
    · have hc0 := h4 0 (by omega)
      have hs : spot = none := by simpa [Addr.add] using World.cell?_spot hc0
      subst hs
      have hll : (zs.take len).length = len := by rw [List.length_take]; omega
      refine ⟨by simp [ints]; omega, .inr ⟨b, off, rfl, ?_, fun i v hv => ?_⟩⟩
      · exact block_lt_of_cell (a := ⟨b, off, none⟩) (by simpa [Addr.add] using hc0)
      · have hi : i < len := by have := (List.getElem?_eq_some_iff.1 hv).1; simp [ints] at this; omega
        have hadd : (⟨b, off, none⟩ : Addr).add i = ⟨b, off + i, none⟩ := by unfold Addr.add; split <;> simp_all
        have hc := h4 i (by omega)
        rw [hadd] at hc
        have hiz : i < zs.length := by omega
        simp [ints, hi, hiz, List.getElem?_take] at hv
        rw [hc, ← hv]
        simp [List.getD_eq_getElem?_getD, hiz]
theorem ints_cap {w : World} {a : Option Addr} {len cap : Nat} {zs : List Int} (h : IsInts w a len cap zs) : len ≤ cap ∧ cap ≤ maxLen := by
  rcases h with ⟨rfl, rfl, rfl, rfl⟩ | ⟨x, rfl, h1, h2, _⟩
  · exact ⟨Nat.le_refl _, by simp [maxLen]⟩
  · exact ⟨h1, h2⟩
/-- equal lists -/
theorem same_rdi {W : World} {v v2 : Value} {l : List Int} (h1 : RdI W v l) (h2 : RdI W v2 l) : Calls Try.prog 16 #[v, v2] W fun e w' => e = .returned (.bool true) ∧ Below W.heap.size W w' := by
  obtain ⟨A, c, rfl, a1, a2, a3⟩ := h1
  obtain ⟨A2, c2, rfl, b1, b2, b3⟩ := h2
  have := sameints_any A A2 l.length l.length c c2 l l W W.heap.size a1 b1 (by omega) (by omega)
  rwa [decide_eq_true rfl] at this

set_option maxRecDepth 100000 in
set_option maxHeartbeats 4000000 in
theorem deriveSteps_walk (g : Gr) (a : GA) (A1 : Option Addr) (k c1 : Nat) (z1 : List Int) (p : Int) (A2 : Option Addr) (n c2 : Nat) (z2 : List Int) (w : World) (hg : GrAt w w.heap.size g a) (hz1 : IsInts w A1 k c1 z1) (wp : (Lit.int .i64 p).wf = true) (hz2 : IsInts w A2 n c2 z2) :
    Calls Try.prog 3 #[gval g a, .slice A1 k c1, .int .i64 p, .slice A2 n c2] w fun e w' => e = .returned (.bool true) ∧ Below w.heap.size w w' := by
  have hAw := Lib.hid (fun (W : World) => awake_any W)
  have hLi := Lib.hid (fun (W : World) (h : GrAt W W.heap.size g a) => light_some g a W h)
  obtain ⟨hf, _, hkm⟩ := ints_reads hz1
  obtain ⟨hps, _, hnm⟩ := ints_reads hz2
  obtain ⟨hkc, hcm⟩ := ints_cap hz1
  generalize z1.take k = f at *
  generalize z2.take n = ps at *
  have hLm := Lib.hid (fun (A : Option Addr) (c : Nat) (W : World) (hs : Small g) (h : GrAt W W.heap.size g a) (h2 : Rd1 W W.heap.size A k (ints f)) => leftmost_any g a A k c f W h hs h2 hkm)
  have hRl := Lib.hid (fun (A : Option Addr) (c : Nat) (W : World) (hs : Small g) (h : GrAt W W.heap.size g a) (h2 : Rd1 W W.heap.size A k (ints f)) => rleftmost_any g a A k c f W h hs h2 hkm)
  have hSt := Lib.hid (fun (A : Option Addr) (c : Nat) (W : World) (hs : Small g) (h : GrAt W W.heap.size g a) (h2 : Rd1 W W.heap.size A k (ints f)) (h3 : k ≤ c) (h4 : c ≤ maxLen) => stp_any g a A k c f p W h hs h2 h3 h4)
  have hRs := Lib.hid (fun (A : Option Addr) (c : Nat) (W : World) (hs : Small g) (h : GrAt W W.heap.size g a) (h2 : Rd1 W W.heap.size A k (ints f)) (h3 : k ≤ c) (h4 : c ≤ maxLen) => rstp_any g a A k c f p W h hs h2 h3 h4)
  have hCh := Lib.hid (fun (A : Option Addr) (c : Nat) (W : World) (hs : Small g) (h : GrAt W W.heap.size g a) (h2 : Rd1 W W.heap.size A k (ints f)) => fcheck_any g a A k c f W h hs h2 hkm)
  have hRc := Lib.hid (fun (A : Option Addr) (c : Nat) (W : World) (hs : Small g) (h : GrAt W W.heap.size g a) (h2 : Rd1 W W.heap.size A k (ints f)) => rfcheck_any g a A k c f W h hs h2 hkm)
  have hRn := Lib.hid (fun (W : World) (hs : Small g) (h : GrAt W W.heap.size g a) (h2 : Rd1 W W.heap.size A2 n (ints ps)) => (run_any g a A2 n c2 ps W h hs h2 hnm).mono fun _ _ h => rn_all h)
  have hRr := Lib.hid (fun (W : World) (hs : Small g) (h : GrAt W W.heap.size g a) (h2 : Rd1 W W.heap.size A2 n (ints ps)) => rrun_any g a A2 n c2 ps W h hs h2 hnm)
  have hOw := Lib.hid (fun (W : World) (h2 : Rd1 W W.heap.size A1 k (ints f)) (h3 : k ≤ 1000000) => ownints_any A1 k c1 f W h2 h3)
  have hfl : f.length = k := by have := hf.1; simpa [ints] using this
  generalize lmV g f = V1 at *
  generalize lmE g f = E1 at *
  generalize stpE g f p = E2 at *
  generalize stpL g f p = L2 at *
  generalize fchk g f = E4 at *
  generalize runE g ps = E3 at *
  generalize runL g ps = L3 at *
  clear hz1 hz2 wp
  obtain ⟨ta, tc, na, nc, pa, pc⟩ := a
  have hG0 := GB.start hg
  clear hg
  replace hfl := Lib.hid hfl
  unfold gval at *
  unfold gcells at *
  dsimp only at *
  go_enter Try.func3, Try.ntmps3
  go_upto_region 1 with (fail)
  generalize w.alloc (.cells #[.int .i64 g.k, .slice ta g.toks.length tc, .string g.sep, .slice na g.names.length nc, .int .i64 g.start, .slice pa g.prods.length pc] 25) = W at *
  obtain ⟨c0, c1', c2', c3, c4, c5⟩ := hG0.cells
  dsimp only at c1' c3 c5
  go_wp2_with fail
  refine (hLi.out _ ((hG0.2.1).mono hG0.2.2.size)).mono ?_
  rintro e w1 ⟨b1, rfl, hL, hb1⟩
  have hG1 := hG0.step hb1
  clear hG0 hb1 c0 c1' c2' c3 c4 c5
  replace hL := Lib.hid hL
  cases b1 with
  | false =>
    have hbW := Lib.hid hG1.2.2
    go_wp2_with (go_at_call 8; refine (hAw.out _).mono ?_; rintro e w2 ⟨rfl, hb2⟩)
    go_ret
    exact ⟨rfl, bStep hbW.out hb2⟩
  | true =>
    have hsm := Lib.hid (hL.out rfl).small
    clear hL
    have hkk : k ≤ 203 ∨ 203 < k := by omega
    have hK : (¬ (40 : Int) < k ∧ ¬ (203 : Int) < k) ∨ ((40 : Int) < k ∧ ¬ (k : Int) < 195 ∧ ¬ (203 : Int) < k) ∨ ((40 : Int) < k ∧ (k : Int) < 195) ∨ ((40 : Int) < k ∧ ¬ (k : Int) < 195 ∧ (203 : Int) < k) := by omega
    have hN : (¬ (30 : Int) < n ∧ ¬ (1003 : Int) < n) ∨ ((30 : Int) < n ∧ ¬ (n : Int) ≤ 1000 ∧ ¬ (1003 : Int) < n) ∨ ((30 : Int) < n ∧ (n : Int) ≤ 1000) ∨ ((30 : Int) < n ∧ ¬ (n : Int) ≤ 1000 ∧ (1003 : Int) < n) := by omega
    have hbW := Lib.hid hG1.2.2
    rcases hK with ⟨k1, k2⟩ | ⟨k1, k2, k3⟩ | ⟨k1, k2⟩ | ⟨k1, k2, k3⟩
    rotate_left 2
    · go_wp2_with (go_at_call 8; refine (hAw.out _).mono ?_; rintro e w2 ⟨rfl, hb2⟩)
      go_ret
      exact ⟨rfl, bStep hbW.out hb2⟩
    · go_wp2_with (go_at_call 8; refine (hAw.out _).mono ?_; rintro e w2 ⟨rfl, hb2⟩)
      go_ret
      exact ⟨rfl, bStep hbW.out hb2⟩
    all_goals
      rcases hN with ⟨n1, n2⟩ | ⟨n1, n2, n3⟩ | ⟨n1, n2⟩ | ⟨n1, n2, n3⟩
      rotate_left 2
      · go_wp2_with (go_at_call 8; refine (hAw.out _).mono ?_; rintro e w2 ⟨rfl, hb2⟩)
        go_ret
        exact ⟨rfl, bStep hbW.out hb2⟩
      · go_wp2_with (go_at_call 8; refine (hAw.out _).mono ?_; rintro e w2 ⟨rfl, hb2⟩)
        go_ret
        exact ⟨rfl, bStep hbW.out hb2⟩
      all_goals
        have hk6 : k ≤ 1000000 := by omega
        clear hkk hbW
        go_upto_region 3 with (fail)
        go_upto_region 4 with (go_at_call 9; refine (hOw.out _ ((hf.below hG1.2.2).mono hG1.2.2.size) hk6).mono ?_; rintro e w2 ⟨vx, rfl, hox, hb2⟩)
        have hG2 := hG1.step hb2
        have hle : (ints f).length = k := by simp [ints]; exact hfl.out
        obtain ⟨Ax, cx, hvx, hrx, hxc, hxm, _⟩ := hox.reads
        rw [hle] at hvx hrx hxc
        subst hvx
        have hbx2 : Below w2.heap.size w2 w2 := Below.refl _ _
        clear hG1 hb2 hox hle
        obtain ⟨c0, c1', c2', c3, c4, c5⟩ := hG2.cells
        dsimp only at c1' c3 c5
        go_upto_region 5 with (go_at_call 10; refine (hLm.out Ax cx _ hsm.out (hG2.2.1.mono hG2.2.2.size) ((hrx.below hbx2).mono hbx2.size)).mono ?_; rintro e w3 ⟨rfl, hb3⟩)
        have hG3 := hG2.step hb3
        have hbx3 := bStep hbx2 hb3
        clear c0 c1' c2' c3 c4 c5 hG2 hbx2
        obtain ⟨c0, c1', c2', c3, c4, c5⟩ := hG3.cells
        dsimp only at c1' c3 c5
        go_upto_region 6 with (go_at_call 11; refine (hRl.out A1 c1 _ hsm.out (hG3.2.1.mono hG3.2.2.size) ((hf.below hG3.2.2).mono hG3.2.2.size)).mono ?_; rintro e w4 ⟨rfl, hb4⟩)
        have hG4 := hG3.step hb4
        have hbx4 := bStep hbx3 hb4
        clear c0 c1' c2' c3 c4 c5 hG3 hbx3
        obtain ⟨c0, c1', c2', c3, c4, c5⟩ := hG4.cells
        dsimp only at c1' c3 c5
        go_upto_region 7 with (go_at_call 12; refine (hSt.out Ax cx _ hsm.out (hG4.2.1.mono hG4.2.2.size) ((hrx.below hbx4).mono hbx4.size) hxc hxm).mono ?_; rintro e w5 ⟨va, rfl, hva, hb5⟩)
        have hG5 := hG4.step hb5
        have hbx5 := bStep hbx4 hb5
        clear c0 c1' c2' c3 c4 c5 hG4 hbx4
        obtain ⟨c0, c1', c2', c3, c4, c5⟩ := hG5.cells
        dsimp only at c1' c3 c5
        go_upto_region 8 with (go_at_call 13; refine (hRs.out A1 c1 _ hsm.out (hG5.2.1.mono hG5.2.2.size) ((hf.below hG5.2.2).mono hG5.2.2.size) hkc hcm).mono ?_; rintro e w6 ⟨vb, rfl, hvb, hb6⟩)
        have hG6 := hG5.step hb6
        have hbx6 := bStep hbx5 hb6
        clear c0 c1' c2' c3 c4 c5 hG5 hbx5
        have hva6 := hva.step hb6
        obtain ⟨c0, c1', c2', c3, c4, c5⟩ := hG6.cells
        dsimp only at c1' c3 c5
        have k10 := cell_kept c0
        have k11 := cell_kept c1'
        have k12 := cell_kept c2'
        have k13 := cell_kept c3
        have k14 := cell_kept c4
        have k15 := cell_kept c5
        have hChk := Lib.hid (fun (q : KeptBy w6) => hCh.out Ax cx q.world hsm.out ((hG6.step q.kept).2.1.mono (hG6.step q.kept).2.2.size) ((hrx.below (bStep hbx6 q.kept)).mono (bStep hbx6 q.kept).size))
        have hRck := Lib.hid (fun (q : KeptBy w6) => hRc.out A1 c1 q.world hsm.out ((hG6.step q.kept).2.1.mono (hG6.step q.kept).2.2.size) ((hf.below (hG6.step q.kept).2.2).mono (hG6.step q.kept).2.2.size))
        have hSmk := Lib.hid (fun (q : KeptBy w6) => same_rdi (hva6.step q.kept) (hvb.step q.kept))
        refine wp_region_kept (by kernel_rfl) (by kernel_rfl) ?_
        repeat (go_big_quiet_step (first | (go_at_call 14; exact Calls.kept_by (hChk.out _)) | (go_at_call 15; exact Calls.kept_by (hRck.out _)) | (go_at_call 16; exact Calls.kept_by (hSmk.out _))))
        refine wpQuiet_nil ?_
        rintro _ ⟨q, rfl⟩
        have hG7 := hG6.step q.kept
        have hbx7 := bStep hbx6 q.kept
        clear hChk hRck hSmk k10 k11 k12 k13 k14 k15 c0 c1' c2' c3 c4 c5 hG6 hbx6 hva hva6 hvb
        generalize q.world = w7 at *
        obtain ⟨c0, c1', c2', c3, c4, c5⟩ := hG7.cells
        dsimp only at c1' c3 c5
        go_upto_region 11 with (go_at_call 17; refine (hRn.out _ hsm.out (hG7.2.1.mono hG7.2.2.size) ((hps.below hG7.2.2).mono hG7.2.2.size)).mono ?_; rintro e w8 ⟨vc, rfl, hvc, hb8⟩)
        have hG8 := hG7.step hb8
        have hbx8 := bStep hbx7 hb8
        clear c0 c1' c2' c3 c4 c5 hG7 hbx7
        obtain ⟨c0, c1', c2', c3, c4, c5⟩ := hG8.cells
        dsimp only at c1' c3 c5
        go_upto_region 12 with (go_at_call 18; refine (hRr.out _ hsm.out (hG8.2.1.mono hG8.2.2.size) ((hps.below hG8.2.2).mono hG8.2.2.size)).mono ?_; rintro e w9 ⟨vd, rfl, hvd, hb9⟩)
        have hG9 := hG8.step hb9
        have hbx9 := bStep hbx8 hb9
        clear c0 c1' c2' c3 c4 c5 hG8 hbx8
        have hvc9 := Lib.hid (hvc.step hb9)
        have hvd9 := Lib.hid hvd
        have hbW9 := Lib.hid hG9.2.2
        have hfx := Lib.hid (fun (W : World) (h : Below w9.heap.size w9 W) => sameints_any Ax A1 k k cx c1 f f W W.heap.size ((hrx.below (bStep hbx9 h)).mono (bStep hbx9 h).size) ((hf.below (bStep hbW9.out h)).mono (bStep hbW9.out h).size) hkm hkm)
        simp only [decide_true] at hfx
        clear hb8 hb9 hvc hvd hG9
        go_wp2_with (first
          | (go_at_call 16; refine (same_rdi hvc9.out hvd9.out).mono ?_; clear hvc9 hvd9; rintro e w10 ⟨rfl, hb10⟩)
          | (go_at_call 16; refine (hfx.out w10 hb10).mono ?_; clear hfx; rintro e w11 ⟨rfl, hb11⟩)
          | (go_at_call 8; refine (hAw.out _).mono ?_; rintro e w12 ⟨rfl, hb12⟩))
        go_ret
        exact ⟨rfl, bStep (bStep (bStep hbW9.out hb10) hb11) hb12⟩
end Go.Proofs.Ytlngbphchhbpbaa
