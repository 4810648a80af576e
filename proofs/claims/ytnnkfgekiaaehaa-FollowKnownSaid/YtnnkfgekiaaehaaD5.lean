/- Walks and plain laws, part 5 of 9: follow.begins; FOLLOW as a predicate; its laws; One round of all, plainly; follow.uses: the places behind whose dot a wanted symbol stands; A drawn region that calls and lays blocks, inside a round of a range over a function; follow.all: what stands in memory; the marks of the loops. Conditions: none beyond those that each theorem states. -/
import Derived.Test.YtnnkfgekiaaehaaD4
import Derived.Deep.RegionHeld3
import Derived.Deep.OwnRows
import Derived.WalkMore
/- follow.begins. -/
namespace Go.Proofs.Ytnnkfgekiaaehaa
open Go.ChangeShapes Go.WideShapes Go.ChangeAt Go.RowKit
set_option linter.unusedVariables false

theorem GOk.sym {g : Gr} {k : Nat} (h : GOk g k) {p : Pr} (hp : p ∈ g.prods) : ∀ s ∈ p.right, SymOk g.names.length s := fun s hs => by
  have := (h.pr p hp).2.2 s hs
  have := h.tk
  unfold SymOk; omega

/-- what begins hands back -/
def RetF (g : Gr) (k : Nat) (w : World) (e : Ending) (w' : World) : Prop :=
  ∃ b ss, e = .returned (.slice (some ⟨b, 0, none⟩) g.names.length g.names.length) ∧ SetsO w' w.heap.size b g.names.length ss ∧ ss.length = g.names.length ∧ w.heap.size ≤ b ∧ SetsFit k ss ∧ SoundF g.prods k ss ∧ ClosedF g.prods k ss ∧ Below w.heap.size w w'

theorem under63 : Try.prog.underlying 63 = some (.slice 67) := by kernel_rfl
theorem info67 : (Try.prog.info? 67).map (fun i => (i.zero, i.size, i.bytes)) = some (some (.map none), 1, 8) := by kernel_rfl

theorem SetsO.blk {W : World} {base bo n : Nat} {ss : List (List Lk)} (h : SetsO W base bo n ss) {i : Nat} (hi : i < n) : (∃ v, W.cell? ⟨bo, i, none⟩ = some v) ∧ W.frozen? ⟨bo, i, none⟩ = false ∧ bo < W.heap.size := by
  obtain ⟨cs, mbs, h1, h2, h3, h4, h5, h6⟩ := h
  refine ⟨⟨cs[i]'(by omega), ?_⟩, h1.frozen i, h1.lt⟩
  rw [h1.cell]; simp [h2, hi]
theorem SetsO.mono {W : World} {base b' bo n : Nat} {ss : List (List Lk)} (h : SetsO W base bo n ss) (hb : b' ≤ base) : SetsO W b' bo n ss := by
  obtain ⟨cs, mbs, h1, h2, h3, h4, h5, h6⟩ := h
  exact ⟨cs, mbs, h1, h2, h3, h4, fun m hm => ⟨by have := (h5 m hm).1; omega, (h5 m hm).2⟩, h6⟩
theorem SetsO.start {W : World} {base bo n : Nat} {cs : Array Value} (h : Blk W bo 67 cs) (hn : cs.size = n) : SetsO W base bo n [] :=
  ⟨cs, [], h, hn, rfl, List.nodup_nil, by simp, by simp⟩

theorem rdl_to {w1 W : World} {A : Option Addr} {n : Nat} {l : List Lk} (h : RdL w1 w1.heap.size A n l) (hb : Below w1.heap.size w1 W) : RdL W W.heap.size A n l := (h.below hb).mono hb.size
theorem rdl_lay (X W : World) (hb : Below (X.alloc (.cells #[.int .i64 0, .int .i64 0, .int .i64 0, .int .i64 0, .int .i64 0] 42)).heap.size (X.alloc (.cells #[.int .i64 0, .int .i64 0, .int .i64 0, .int .i64 0, .int .i64 0] 42)) W) :
    RdL W W.heap.size (some ⟨X.heap.size, 0, none⟩) 1 [Lk.of []] :=
  rdl_to ((rdL_one (x := Lk.of []) (Blk.new X 42 _)).mono (by simp)) hb

theorem bk_lt {Bk : Nat} {w2 W : World} (h : Bk < w2.heap.size) (hb : Below w2.heap.size w2 W) : Bk < W.heap.size := Nat.lt_of_lt_of_le h hb.size
/-- the world W, but for the map mb, and what was made since -/
def KW (W : World) (mb : Nat) (w' : World) : Prop := W.grownBy w' (some mb)
theorem KW.refl (W : World) (mb : Nat) : KW W mb W := ⟨rfl, rfl, rfl, Nat.le_refl _, fun _ _ _ => rfl⟩
theorem KW.drew {W w1 : World} {mb : Nat} (h : KW W mb w1) : KW W mb w1.drew := ⟨h.os, h.tape, h.output, h.size, h.block⟩
theorem KW.grown {W w1 w2 : World} {mb : Nat} (h : KW W mb w1) (hg : w1.grownBy w2 (some mb)) : KW W mb w2 := World.grownBy.andThen h hg (fun j hj => .inr hj)
theorem KW.step {W w1 w2 : World} {mb : Nat} (h : KW W mb w1) (hb : Below w1.heap.size w1 w2) : KW W mb w2 := World.grownBy.andThen h (grown_of_below hb) (fun j hj => by cases hj)
theorem KW.alloc {W w1 : World} {mb : Nat} (h : KW W mb w1) (o : Obj) : KW W mb (w1.alloc o) := h.step (bAlc (Below.refl _ _) _)

set_option maxRecDepth 100000 in
set_option maxHeartbeats 4000000 in
theorem begins_any (g : Gr) (a : GA) (k : Nat) (hok : GOk g k) (w : World) (hg : GrAt w w.heap.size g a) : Calls Try.prog 43 #[gval g a] w (RetF g k w) := by
  have hP := Lib.hid (fun (b : Nat) (ss : List (List Lk)) (w' : World) (h1 : SetsO w' w.heap.size b g.names.length ss) (h2 : ss.length = g.names.length) (h3 : w.heap.size ≤ b) (h4 : SetsFit k ss) (h5 : SoundF g.prods k ss) (h6 : ClosedF g.prods k ss) (h7 : Below w.heap.size w w') =>
    (show RetF g k w (.returned (.slice (some ⟨b, 0, none⟩) g.names.length g.names.length)) w' from ⟨b, ss, rfl, h1, h2, h3, h4, h5, h6, h7⟩))
  obtain ⟨ta, tc, na, nc, pa, pc⟩ := a
  have hok' := Lib.hid hok
  have hG0 := GB.start hg
  have hPl := Lib.hid (fun (w : World) => show Calls Try.prog 41 #[.int .i64 g.k] w (RetP w k) by rw [hok.hk]; exact mkplus_any k w)
  have hk := hok.k1
  have hk4 := hok.k4
  have hn8 := hok.nm
  have hp24 := hok.pl
  obtain ⟨i67, hi67, hq0, hq1, hq2⟩ := info_parts info67
  obtain ⟨n, hn⟩ : ∃ n, n = g.names.length := ⟨_, rfl⟩
  have hkk := Lib.hid hok.hk
  clear hg hok
  unfold gval at *
  unfold gcells at *
  dsimp only at *
  rw [← hn] at hn8
  have hz0 : (0 : Int) ≤ n := by omega
  replace hk := Lib.hid hk
  replace hk4 := Lib.hid hk4
  replace hp24 := Lib.hid hp24
  have hn8' := Lib.hid hn8
  clear hn8
  have hmm := @run_makeMap Try.prog
  rw [← hn] at hG0 hP ⊢
  replace hn := Lib.hid hn
  go_enter Try.func43, Try.ntmps43
  go_wp2_with fail
  go_step3
  go_upto_region 2 with (at_make; refine wpList_make_row _ rfl _ _ 63 rfl 67 i67 (.map none) under63 hi67 hq0 hq1 rfl _ _ n rfl rfl (by rw [hq2]; have := hn8'.out; omega) (by have := hn8'.out; omega) ?_)
  have q0 := Blk.newAt (w.alloc (.cells #[.int .i64 g.k, .slice ta g.toks.length tc, .string g.sep, .slice na n nc, .int .i64 g.start, .slice pa g.prods.length pc] 26)) 67 (madeCells #[.map none] n) (w.heap.size + 1) (by simp)
  have hS0 : SetsO _ (w.heap.size + 1) (w.heap.size + 1) n [] := SetsO.start q0 (by simp [madeCells])
  have hG1 := hG0.alloc (.cells (madeCells #[.map none] n) 67)
  clear q0 hG0
  generalize (w.alloc (.cells #[.int .i64 g.k, .slice ta g.toks.length tc, .string g.sep, .slice na n nc, .int .i64 g.start, .slice pa g.prods.length pc] 26)).alloc (.cells (madeCells #[.map none] n) 67) = W1 at *
  obtain ⟨bo, hbo⟩ : ∃ bo, bo = w.heap.size + 1 := ⟨_, rfl⟩
  rw [← hbo] at hS0 ⊢
  have hbo' := Lib.hid hbo
  clear hbo
  go_wp2_with fail
  go_loopg [14] n (fun gk s14 wr => ∃ i : Nat, s14 = .int .i64 i ∧ i + gk = n ∧ SetsO wr bo bo n (List.replicate i []) ∧ GB w g ⟨ta, tc, na, nc, pa, pc⟩ wr)
  case atStart => exact ⟨0, rfl, by omega, hS0, hG1⟩
  case round =>
    clear hS0 hG1
    obtain ⟨i, rfl, hi, hS, hG⟩ := hrel
    replace hi := Lib.hid hi
    by_cases hin : i < n
    · obtain ⟨⟨cv, hcv⟩, hfz, hlt⟩ := hS.blk hin
      have hfz' : (wr.alloc (.map #[] 0)).frozen? ⟨bo, i, none⟩ = false := by
        obtain ⟨cs, mbs, h1, _⟩ := hS
        exact (h1.alloc _).frozen i
      have hcv' : (wr.alloc (.map #[] 0)).cell? ⟨bo, i, none⟩ = some cv := cell_later (bAlc (Below.refl _ _) _) hcv
      have hzi : (0 : Int) ≤ i := by omega
      have hzn : (i : Int) < n := by omega
      have hn9 : n ≤ 8 := hn8'.out.2
      go_wp2_with fail
      go_roundg (n - (i + 1))
      case measure => have := hi.out; omega
      case rel =>
        rw [← World.setCell_alloc_past _ _ _ _ hlt]
        refine ⟨i + 1, by go_num, by have := hi.out; omega, ?_, (hG.alloc _).far _ _ (by have := hbo'.out; show w.heap.size < bo; omega)⟩
        have := hS.push (by simp; omega) (by omega)
        rwa [List.length_replicate, show List.replicate i ([] : List Lk) ++ [[]] = List.replicate (i + 1) [] by rw [List.replicate_succ']] at this
    · have hin' : i = n := by have := hi.out; omega
      subst hin'
      replace hi := Lib.hid hi
      have hfit0 : Hid (SetsFit k (List.replicate i ([] : List Lk))) := Lib.hid (by intro s hs x hx; rw [List.eq_of_mem_replicate hs] at hx; cases hx)
      have hsnd0 : Hid (SoundF g.prods k (List.replicate i ([] : List Lk))) := Lib.hid (by
        intro j y hy
        rw [List.getD_eq_getElem?_getD, List.getElem?_replicate] at hy
        split at hy <;> simp at hy)
      have hlen0 : (List.replicate i ([] : List Lk)).length = i := by simp
      have htot0 : tot (List.replicate i ([] : List Lk)) = 0 := by simp [tot]
      generalize List.replicate i ([] : List Lk) = ss0 at *
      replace hlen0 := Lib.hid hlen0
      replace htot0 := Lib.hid htot0
      go_wp2_with fail
      go_step3
      go_wp2_with fail
      go_loopg [5] (i * 4681) (fun gk s5 wr => ∃ ss : List (List Lk), Hid (tot ss + gk = i * 4681) ∧ Hid (ss.length = i) ∧ Hid (SetsFit k ss) ∧ Hid (SoundF g.prods k ss) ∧ SetsO wr bo bo i ss ∧ GB w g ⟨ta, tc, na, nc, pa, pc⟩ wr)
      case atStart => exact ⟨ss0, Lib.hid (by have := htot0.out; omega), hlen0, hfit0, hsnd0, hS, hG⟩
      case round =>
        clear hS hG htot0 hlen0 hfit0 hsnd0 ss0
        obtain ⟨ss, hgk, hlen, hfit, hsnd, hS, hG⟩ := hrel
        obtain ⟨c0, c1, c2, c3, c4, c5⟩ := hG.cells
        dsimp only at c1 c3 c5
        go_wp2_with fail
        clear c0 c1 c2 c3 c4 c5
        go_loopg [25, 5] g.prods.length (fun gk2 s25 s5 wr => ∃ (j : Nat) (ss' : List (List Lk)) (gr : Bool), s25 = .int .i64 j ∧ s5 = .bool gr ∧ Hid (j + gk2 = g.prods.length) ∧ Hid (ss'.length = i) ∧ Hid (SetsFit k ss') ∧ Hid (SoundF g.prods k ss') ∧ SetsO wr bo bo i ss' ∧ GB w g ⟨ta, tc, na, nc, pa, pc⟩ wr ∧
          Hid (if gr then tot ss < tot ss' else ss' = ss ∧ ∀ p ∈ g.prods.take j, ∀ y ∈ tailL k ss p.right, y ∈ ss.getD (p.left - 16).toNat []))
        case atStart => exact ⟨0, ss, false, rfl, rfl, Lib.hid (by omega), hlen, hfit, hsnd, hS, hG, Lib.hid (by simp)⟩
        case round =>
          clear hS hG hfit hsnd hlen
          obtain ⟨j, ss', gr, rfl, rfl, hj, hlen', hfit', hsnd', hS, hG, hgr⟩ := hrel
          obtain ⟨c0, c1, c2, c3, c4, c5⟩ := hG.cells
          dsimp only at c1 c3 c5
          by_cases hjn : j < g.prods.length
          · have hxi : g.prods[j]? = some g.prods[j] := List.getElem?_eq_getElem hjn
            obtain ⟨b, off, hA, hbt, x0, RA, rc, x1, hx2, hx3, hx4⟩ := hG.2.1.prods.get hxi
            dsimp only at hA
            subst hA
            have hmem := List.getElem_mem hjn
            have htk : g.prods.take (j + 1) = g.prods.take j ++ [g.prods[j]] := List.take_succ_eq_append_getElem hjn
            have hpr := hok'.out.pr _ hmem
            have hsy := hok'.out.sym hmem
            generalize g.prods[j] = p at *
            rw [← hn.out] at hpr hsy
            have hR := round_first hk.out hk4.out hlen'.out hfit'.out hsnd'.out hmem hpr.1 hsy
            have hTf := tail_fit hk.out hk4.out hfit'.out p.right hsy
            have hTl := fit_len (tail_nodup hk.out hk4.out hfit'.out p.right hsy) hTf
            have hpr2 : p.right.length ≤ 1000000 := by omega
            obtain ⟨ix, hix⟩ := Int.eq_ofNat_of_zero_le (show 0 ≤ p.left - 16 by omega)
            have hixn : (p.left - 16).toNat = ix := by omega
            have hixi : ix < i := by omega
            have hR1 := hR.fit
            have hR2 := hR.sound
            have hR3 := hR.grow
            have hR4 := hR.same
            have hR5 := hR.tot
            rw [hixn] at hR1 hR2 hR3 hR4 hR5
            have hJe : newS k ss' p = addAll (ss'.getD ix []) (sumsJ k (tailL k ss' p.right) [Lk.of []]) := by unfold newS; rw [hixn]
            generalize newS k ss' p = J at *
            replace hR1 := Lib.hid hR1
            replace hR2 := Lib.hid hR2
            replace hR3 := Lib.hid hR3
            replace hR4 := Lib.hid hR4
            replace hR5 := Lib.hid hR5
            clear hR
            have zw : IntKind.i64.wrap (ix : Int) = ix := IntWalk.i64_in _ (by have := hn8'.out; omega)
            have hzx : (0 : Int) ≤ ix := by omega
            have hzy : (ix : Int) < i := by omega
            have hzj : (0 : Int) ≤ j := by omega
            have hzk : (j : Int) < g.prods.length := by omega
            have hzl : g.prods.length ≤ 24 := hp24.out
            obtain ⟨mb, hm1, hm2, hm3, hm4, hput⟩ := hS.get ix (by rw [hlen'.out]; exact hixi)
            replace hxi := Lib.hid hxi
            replace htk := Lib.hid htk
            replace hmem := Lib.hid hmem
            replace hpr := Lib.hid hpr
            replace hsy := Lib.hid hsy
            replace hixn := Lib.hid hixn
            replace hm4 := Lib.hid hm4
            replace hput := Lib.hid hput
            have hSr := hS.reads hlen'.out
            have hNd := hS.nodup
            have hb0 : Below wr.heap.size wr (wr.alloc (.cells #[.int .i64 p.left, .slice RA p.right.length rc] 59)) := bAlc (Below.refl _ _) _
            have q7 := Blk.new wr 59 #[.int .i64 p.left, .slice RA p.right.length rc]
            have hG1 := hG.step hb0
            have hS1 := hS.step hb0
            have hx2' := hx2.below (hb0.mono hG.2.2.size)
            have hm5 := Lib.hid (hm4.out.step hb0)
            have hSr1 := (hSr.below hb0)
            have hlw := hG.lt
            have hszw := hb0.size
            have hm3' := cell_later hb0 hm3
            replace hSr1 := Lib.hid hSr1
            replace hNd := Lib.hid hNd
            replace hJe := Lib.hid hJe
            replace hTf := Lib.hid hTf
            replace hTl := Lib.hid hTl
            go_upto_region 11 with (fail)
            clear c0 c1 c2 c3 c4 c5 x0 x1 hx2 hS hG hSr hm3 hm4
            generalize wr.alloc (.cells #[.int .i64 p.left, .slice RA p.right.length rc] 59) = W at *
            generalize wr.heap.size = g7 at *
            have hput2 : ∀ W' (cur : List Lk), KW W mb W' → MapK lookKey W' mb cur → SetsO W' bo bo i (ss'.set ix cur) := by
              intro W' cur hg hm
              obtain ⟨m2, k1, k2, k3, k4, k5⟩ := hS1.get ix (by rw [hlen'.out]; exact hixi)
              rw [hm3'] at k3
              injection k3 with k3
              injection k3 with k3
              injection k3 with k3
              subst k3
              exact k5 W W' cur (Below.refl _ _) hg hm
            have hGK : ∀ W', KW W mb W' → GB w g ⟨ta, tc, na, nc, some ⟨b, off, none⟩, pc⟩ W' := fun W' hg => hG1.grown hg (fun j hj => by cases hj; have := hbo'.out; omega)
            obtain ⟨c0, c1, c2, c3, c4, c5⟩ := hG1.cells
            dsimp only at c1 c3 c5
            have p0 := q7.cell 0
            have p1 := q7.cell 1
            simp only [List.getElem?_toArray, List.getElem?_cons_zero, List.getElem?_cons_succ] at p0 p1
            have hAll : Hid (∀ w', KW W mb w' → w'.cell? ⟨w.heap.size, 0, none⟩ = some (.int .i64 g.k) ∧ w'.cell? ⟨w.heap.size, 1, none⟩ = some (.slice ta g.toks.length tc) ∧ w'.cell? ⟨w.heap.size, 2, none⟩ = some (.string g.sep) ∧ w'.cell? ⟨w.heap.size, 3, none⟩ = some (.slice na i nc) ∧ w'.cell? ⟨w.heap.size, 4, none⟩ = some (.int .i64 g.start) ∧ w'.cell? ⟨w.heap.size, 5, none⟩ = some (.slice (some ⟨b, off, none⟩) g.prods.length pc) ∧
                w'.cell? ⟨g7, 0, none⟩ = some (.int .i64 p.left) ∧ w'.cell? ⟨g7, 1, none⟩ = some (.slice RA p.right.length rc) ∧ w'.cell? ⟨bo, ix, none⟩ = some (.map (some mb)) ∧ KW W mb w') :=
              Lib.hid fun w' h => ⟨cell_map c0 hm5.out h, cell_map c1 hm5.out h, cell_map c2 hm5.out h, by rw [hn.out]; exact cell_map c3 hm5.out h, cell_map c4 hm5.out h, cell_map c5 hm5.out h, cell_map p0 hm5.out h, cell_map p1 hm5.out h, cell_map hm3' hm5.out h, h⟩
            have hT : Hid (∀ W', Below W.heap.size W W' → Calls Try.prog 40 #[.agg #[.int .i64 g.k, .slice ta g.toks.length tc, .string g.sep, .slice na i nc, .int .i64 g.start, .slice (some ⟨b, off, none⟩) g.prods.length pc], .slice (some ⟨bo, 0, none⟩) i i, .slice RA p.right.length rc] W' (RetL W' (tailL k ss' p.right))) :=
              Lib.hid fun W' hb => by
                have := tail_any g ⟨ta, tc, na, nc, some ⟨b, off, none⟩, pc⟩ k hkk.out hk.out hk4.out (some ⟨bo, 0, none⟩) i i ss' RA p.right.length rc p.right W' (((hG1.step hb).2.1).mono (by have := hb.size; omega)) ((hS1.step hb).reads hlen'.out) hfit'.out hNd.out (by have := hn8'.out; omega) ((hx2'.mono (by omega)).below hb |>.mono hb.size) hpr2 hsy.out
                rw [hn.out]
                rw [hn.out] at this
                exact this
            have hJ : Hid (∀ A1 c1 B0 Bk W', Below W.heap.size W W' → RdL W' W'.heap.size A1 (tailL k ss' p.right).length (tailL k ss' p.right) → RdL W' W'.heap.size (some ⟨B0, 0, none⟩) 1 [Lk.of []] → W'.cell? ⟨Bk, 0, none⟩ = some (.int .i64 k) → Bk < W'.heap.size →
                Calls Try.prog 39 #[.map (some mb), .slice A1 (tailL k ss' p.right).length c1, .slice (some ⟨B0, 0, none⟩) 1 1, .func (.func 68) #[] #[.pointer (some ⟨Bk, 0, none⟩)]] W' (RetJ W' mb (ss'.getD ix []) J)) :=
              Lib.hid fun A1 c1 B0 Bk W' hb r1 r2 hc hBk => by
                rw [hJe.out]
                exact joined_any k A1 (some ⟨B0, 0, none⟩) _ 1 c1 1 _ [Lk.of []] _ mb Bk W' hk4.out r1 r2 (fun x hx => (hTf.out x hx).1) (fun x hx => by simp at hx; subst hx; exact (nil_fit k).1) (fun x hx => (hTf.out x hx).2) (by have := hTl.out; omega) (by omega) (hm5.out.step hb) hc hBk
            obtain ⟨gb, hgb⟩ : ∃ gb, gb = decide (J.length ≠ (ss'.getD ix []).length) := ⟨_, rfl⟩
            unfold RetJ at hJ
            rw [← hgb] at hJ
            replace hgb := Lib.hid hgb
            have hEndT : Hid (J.length ≠ (ss'.getD ix []).length → tot ss < tot (ss'.set ix J)) := Lib.hid fun h => by
              have h5 := hR5.out
              have h3 := hR3.out
              have h6 : tot ss ≤ tot ss' := by
                have := hgr.out
                cases gr
                · simp only [Bool.false_eq_true, if_false] at this; rw [this.1]; exact Nat.le_refl _
                · simp only [if_true] at this; omega
              omega
            have hEndF : Hid (J.length = (ss'.getD ix []).length → ss'.set ix J = ss' ∧ (if gr then tot ss < tot ss' else ss' = ss ∧ ∀ q ∈ g.prods.take (j + 1), ∀ y ∈ tailL k ss q.right, y ∈ ss.getD (q.left - 16).toNat [])) := Lib.hid fun h => by
              obtain ⟨h1, h2⟩ := hR4.out h
              refine ⟨h1, ?_⟩
              have := hgr.out
              cases gr
              · simp only [Bool.false_eq_true, if_false] at this ⊢
                obtain ⟨rfl, h4⟩ := this
                refine ⟨rfl, fun q hq y hy => ?_⟩
                rw [htk.out] at hq
                rcases List.mem_append.1 hq with hq | hq
                · exact h4 q hq y hy
                · simp at hq; subst hq
                  rw [hixn.out]; exact h2 y hy
              · simpa using this
            replace hput2 := Lib.hid hput2
            replace hGK := Lib.hid hGK
            clear c0 c1 c2 c3 c4 c5 p0 p1 q7 hS1 hG1
            generalize tailL k ss' p.right = T at *
            generalize ss'.getD ix [] = cur at *
            cases gb with
            | true =>
              have hgn := of_decide_eq_true hgb.out.symm
              refine wp_region_held_drew (S := (fun w' => w'.cell? ⟨w.heap.size, 0, none⟩ = some (.int .i64 g.k) ∧ w'.cell? ⟨w.heap.size, 1, none⟩ = some (.slice ta g.toks.length tc) ∧ w'.cell? ⟨w.heap.size, 2, none⟩ = some (.string g.sep) ∧ w'.cell? ⟨w.heap.size, 3, none⟩ = some (.slice na i nc) ∧ w'.cell? ⟨w.heap.size, 4, none⟩ = some (.int .i64 g.start) ∧ w'.cell? ⟨w.heap.size, 5, none⟩ = some (.slice (some ⟨b, off, none⟩) g.prods.length pc) ∧
                w'.cell? ⟨g7, 0, none⟩ = some (.int .i64 p.left) ∧ w'.cell? ⟨g7, 1, none⟩ = some (.slice RA p.right.length rc) ∧ w'.cell? ⟨bo, ix, none⟩ = some (.map (some mb)) ∧ KW W mb w')) (by kernel_rfl) (hAll.out _ (KW.refl _ _).drew) (fun hHeld => ?_)
              refine wpAnyH_take (i := 0) (oi := ⟨some 29, _, _, _, _, _⟩) (v := ?v1) rfl (by kernel_rfl) (by kernel_rfl) (by kernel_rfl) (fun _ _ _ h => h) (Or.inl ⟨by rfl, ?hy1⟩) (by assumption) ?rest1
              case hy1 => (intro w hSw; (try dsimp only at hSw); go_simp <;> with_reducible rfl)
              try simp only [Act.put, List.setIfInBounds_toArray, List.set_cons_zero, List.set_cons_succ]
              refine wpAnyH_take (i := 1) (oi := ⟨some 30, _, _, _, _, _⟩) (v := ?v2) rfl (by kernel_rfl) (by kernel_rfl) (by kernel_rfl) (fun _ _ _ h => h) (Or.inl ⟨by rfl, ?hy2⟩) (by assumption) ?rest2
              case hy2 => (intro w hSw; (try dsimp only at hSw); go_simp <;> with_reducible rfl)
              try simp only [Act.put, List.setIfInBounds_toArray, List.set_cons_zero, List.set_cons_succ]
              refine wpAnyH_take (i := 2) (oi := ⟨some 31, _, _, _, _, _⟩) (v := ?v3) rfl (by kernel_rfl) (by kernel_rfl) (by kernel_rfl) (fun _ _ _ h => h) (Or.inl ⟨by rfl, ?hy3⟩) (by assumption) ?rest3
              case hy3 => (intro w hSw; (try dsimp only at hSw); go_simp <;> with_reducible rfl)
              try simp only [Act.put, List.setIfInBounds_toArray, List.set_cons_zero, List.set_cons_succ]
              refine wpAnyH_take (i := 3) (oi := ⟨some 32, _, _, _, _, _⟩) (v := ?v4) rfl (by kernel_rfl) (by kernel_rfl) (by kernel_rfl) (fun _ _ _ h => h) (Or.inl ⟨by rfl, ?hy4⟩) (by assumption) ?rest4
              case hy4 => (intro w hSw; (try dsimp only at hSw); go_simp <;> with_reducible rfl)
              try simp only [Act.put, List.setIfInBounds_toArray, List.set_cons_zero, List.set_cons_succ]
              refine wpAnyH_take (i := 4) (oi := ⟨some 33, _, _, _, _, _⟩) (v := ?v5) rfl (by kernel_rfl) (by kernel_rfl) (by kernel_rfl) (fun _ _ _ h => h) (Or.inl ⟨by rfl, ?hy5⟩) (by assumption) ?rest5
              case hy5 => (intro w hSw; (try dsimp only at hSw); go_simp <;> with_reducible rfl)
              try simp only [Act.put, List.setIfInBounds_toArray, List.set_cons_zero, List.set_cons_succ]
              refine wpAnyH_take (i := 5) (oi := ⟨some 34, _, _, _, _, _⟩) (v := ?v6) rfl (by kernel_rfl) (by kernel_rfl) (by kernel_rfl) (fun _ _ _ h => h) (Or.inl ⟨by rfl, ?hy6⟩) (by assumption) ?rest6
              case hy6 => (intro w hSw; (try dsimp only at hSw); go_simp <;> with_reducible rfl)
              try simp only [Act.put, List.setIfInBounds_toArray, List.set_cons_zero, List.set_cons_succ]
              refine wpAnyH_take (i := 6) (oi := ⟨some 35, _, _, _, _, _⟩) (v := ?v7) rfl (by kernel_rfl) (by kernel_rfl) (by kernel_rfl) (fun _ _ _ h => h) (Or.inl ⟨by rfl, ?hy7⟩) (by assumption) ?rest7
              case hy7 => (intro w hSw; (try dsimp only at hSw); go_simp <;> with_reducible rfl)
              try simp only [Act.put, List.setIfInBounds_toArray, List.set_cons_zero, List.set_cons_succ]
              refine wpAnyH_take (i := 7) (oi := ⟨some 36, _, _, _, _, _⟩) (v := ?v8) rfl (by kernel_rfl) (by kernel_rfl) (by kernel_rfl) (fun _ _ _ h => h) (Or.inl ⟨by rfl, ?hy8⟩) (by assumption) ?rest8
              case hy8 => (intro w hSw; (try dsimp only at hSw); go_simp <;> with_reducible rfl)
              try simp only [Act.put, List.setIfInBounds_toArray, List.set_cons_zero, List.set_cons_succ]
              refine wpAnyH_take (i := 8) (oi := ⟨some 37, _, _, _, _, _⟩) (v := ?v9) rfl (by kernel_rfl) (by kernel_rfl) (by kernel_rfl) (fun _ _ _ h => h) (Or.inl ⟨by rfl, ?hy9⟩) (by assumption) ?rest9
              case hy9 => (intro w hSw; (try dsimp only at hSw); go_simp <;> with_reducible rfl)
              try simp only [Act.put, List.setIfInBounds_toArray, List.set_cons_zero, List.set_cons_succ]
              refine wpAnyH_take (i := 9) (oi := ⟨some 38, _, _, _, _, _⟩) (v := ?v10) rfl (by kernel_rfl) (by kernel_rfl) (by kernel_rfl) (fun _ _ _ h => h) (Or.inl ⟨by rfl, ?hy10⟩) (by assumption) ?rest10
              case hy10 => (intro w hSw; (try dsimp only at hSw); go_simp <;> with_reducible rfl)
              try simp only [Act.put, List.setIfInBounds_toArray, List.set_cons_zero, List.set_cons_succ]
              refine wpAnyH_take (i := 11) (oi := ⟨some 40, _, _, _, _, _⟩) (v := ?v11) rfl (by kernel_rfl) (by kernel_rfl) (by kernel_rfl) (fun _ _ _ h => h) (Or.inl ⟨by rfl, ?hy11⟩) (by assumption) ?rest11
              case hy11 => (intro w hSw; (try dsimp only at hSw); go_simp <;> with_reducible rfl)
              try simp only [Act.put, List.setIfInBounds_toArray, List.set_cons_zero, List.set_cons_succ]
              refine wpAnyH_take (i := 13) (oi := ⟨some 42, _, _, _, _, _⟩) (v := ?v12) rfl (by kernel_rfl) (by kernel_rfl) (by kernel_rfl) (fun _ _ _ h => h) (Or.inl ⟨by rfl, ?hy12⟩) (by assumption) ?rest12
              case hy12 => (intro w hSw; (try dsimp only at hSw); go_simp <;> with_reducible rfl)
              try simp only [Act.put, List.setIfInBounds_toArray, List.set_cons_zero, List.set_cons_succ]
              refine wpAnyH_take (i := 14) (oi := ⟨some 43, _, _, _, _, _⟩) (v := ?v13) rfl (by kernel_rfl) (by kernel_rfl) (by kernel_rfl) (fun _ _ _ h => h) (Or.inl ⟨by rfl, ?hy13⟩) (by assumption) ?rest13
              case hy13 => (intro w hSw; (try dsimp only at hSw); go_simp <;> with_reducible rfl)
              try simp only [Act.put, List.setIfInBounds_toArray, List.set_cons_zero, List.set_cons_succ]
              refine wpAnyH_ready (rs := [10, 12]) (by kernel_rfl) (by simp) ?_
              refine AllReadyH.cons (o := ⟨some 39, _, _, _, _, _⟩) rfl (fun K hK => ?_) ?_
              · go_simp
                go_at_call 40
                refine (hT.out _ (by repeat (first | assumption | exact Below.refl _ _ | (refine bStep ?_ (by assumption)) | (with_reducible refine bAlc ?_ _) | (with_reducible refine bDrw ?_)))).mono ?_
                rintro e w1 ⟨v1, rfl, ho1, hb1⟩
                obtain ⟨A1, k1, rfl, hd1, hk1, hmm1, hg1⟩ := ho1.reads
                go_wp2_with fail
                refine hK.out _ _ ?_ (fun hHeld => ?_)
                · (refine hAll.out _ ?_; repeat (first | exact KW.refl _ _ | (refine KW.grown ?_ (by assumption)) | (refine KW.step ?_ (by assumption)) | (with_reducible refine KW.alloc ?_ _) | (with_reducible refine KW.drew ?_)))
                clear hK K
                try simp only [Act.put, List.setIfInBounds_toArray, List.set_cons_zero, List.set_cons_succ]
                refine wpAnyH_ready (rs := [12, 15]) (by kernel_rfl) (by simp) ?_
                refine AllReadyH.cons (o := ⟨some 41, _, _, _, _, _⟩) rfl (fun K hK => ?_) ?_
                · go_simp
                  refine hK.out _ _ ?_ (fun hHeld => ?_)
                  · (refine hAll.out _ ?_; repeat (first | exact KW.refl _ _ | (refine KW.grown ?_ (by assumption)) | (refine KW.step ?_ (by assumption)) | (with_reducible refine KW.alloc ?_ _) | (with_reducible refine KW.drew ?_)))
                  clear hK K
                  try simp only [Act.put, List.setIfInBounds_toArray, List.set_cons_zero, List.set_cons_succ]
                  refine wpAnyH_ready (rs := [15]) (by kernel_rfl) (by simp) ?_
                  refine AllReadyH.cons (o := ⟨some 44, _, _, _, _, _⟩) rfl (fun K hK => ?_) ?_
                  · go_simp
                    go_at_call 41
                    refine (hPl.out _).mono ?_
                    rintro e w2 ⟨Bk, rfl, p1, p2, p3, p4⟩
                    go_wp2_with fail
                    refine hK.out _ _ ?_ (fun hHeld => ?_)
                    · (refine hAll.out _ ?_; repeat (first | exact KW.refl _ _ | (refine KW.grown ?_ (by assumption)) | (refine KW.step ?_ (by assumption)) | (with_reducible refine KW.alloc ?_ _) | (with_reducible refine KW.drew ?_)))
                    clear hK K
                    try simp only [Act.put, List.setIfInBounds_toArray, List.set_cons_zero, List.set_cons_succ]
                    refine wpAnyH_ready (rs := [16]) (by kernel_rfl) (by simp) ?_
                    refine AllReadyH.cons (o := ⟨some 45, _, _, _, _, _⟩) rfl (fun K hK => ?_) ?_
                    · go_simp
                      go_at_call 39
                      refine (hJ.out A1 k1 _ Bk _ (by repeat (first | assumption | exact Below.refl _ _ | (refine bStep ?_ (by assumption)) | (with_reducible refine bAlc ?_ _) | (with_reducible refine bDrw ?_))) (rdl_to hd1 (by repeat (first | assumption | exact Below.refl _ _ | (refine bStep ?_ (by assumption)) | (with_reducible refine bAlc ?_ _) | (with_reducible refine bDrw ?_)))) (rdl_lay _ _ (by repeat (first | assumption | exact Below.refl _ _ | (refine bStep ?_ (by assumption)) | (with_reducible refine bAlc ?_ _) | (with_reducible refine bDrw ?_)))) (cell_later (by repeat (first | assumption | exact Below.refl _ _ | (refine bStep ?_ (by assumption)) | (with_reducible refine bAlc ?_ _) | (with_reducible refine bDrw ?_))) p1) (bk_lt p3 (by repeat (first | assumption | exact Below.refl _ _ | (refine bStep ?_ (by assumption)) | (with_reducible refine bAlc ?_ _) | (with_reducible refine bDrw ?_))))).mono ?_
                      rintro e w3 ⟨rfl, hM3, hg3⟩
                      go_wp2_with fail
                      refine hK.out _ _ ?_ (fun hHeld => ?_)
                      · (refine hAll.out _ ?_; repeat (first | exact KW.refl _ _ | (refine KW.grown ?_ (by assumption)) | (refine KW.step ?_ (by assumption)) | (with_reducible refine KW.alloc ?_ _) | (with_reducible refine KW.drew ?_)))
                      clear hK K
                      try simp only [Act.put, List.setIfInBounds_toArray, List.set_cons_zero, List.set_cons_succ]
                      refine wpAnyH_take (i := 17) (oi := ⟨some 46, _, _, _, _, _⟩) (v := ?v14) rfl (by kernel_rfl) (by kernel_rfl) (by kernel_rfl) (fun _ _ _ h => h) (Or.inl ⟨by rfl, ?hy14⟩) (by assumption) ?rest14
                      case hy14 => (intro w hSw; (try dsimp only at hSw); go_simp <;> with_reducible rfl)
                      try simp only [Act.put, List.setIfInBounds_toArray, List.set_cons_zero, List.set_cons_succ]
                      refine wpAnyH_take (i := 18) (oi := ⟨some 47, _, _, _, _, _⟩) (v := undef) rfl (by kernel_rfl) (by kernel_rfl) (by kernel_rfl) (fun _ _ _ h => h) (Or.inr ⟨by rfl, rfl⟩) (by assumption) ?_
                      try simp only [Act.put, List.setIfInBounds_toArray, List.set_cons_zero, List.set_cons_succ]
                      refine wpAnyH_take (i := 19) (oi := ⟨some 48, _, _, _, _, _⟩) (v := ?v16) rfl (by kernel_rfl) (by kernel_rfl) (by kernel_rfl) (fun _ _ _ h => h) (Or.inl ⟨by rfl, ?hy16⟩) (by assumption) ?rest16
                      case hy16 => (intro w hSw; (try dsimp only at hSw); go_simp <;> with_reducible rfl)
                      try simp only [Act.put, List.setIfInBounds_toArray, List.set_cons_zero, List.set_cons_succ]
                      refine wpAnyH_take (i := 20) (oi := ⟨some 5, _, _, _, _, _⟩) (v := ?v17) rfl (by kernel_rfl) (by kernel_rfl) (by kernel_rfl) (fun _ _ _ h => h) (Or.inl ⟨by rfl, ?hy17⟩) (by assumption) ?rest17
                      case hy17 => (intro w hSw; (try dsimp only at hSw); go_simp <;> with_reducible rfl)
                      try simp only [Act.put, List.setIfInBounds_toArray, List.set_cons_zero, List.set_cons_succ]
                      refine wpAnyH_done (by kernel_rfl) ?_ _
                      go_wp2_with fail
                      go_roundg (g.prods.length - (j + 1))
                      case measure => have := hj.out; omega
                      case rel => exact ⟨j + 1, ss'.set ix J, true, by go_num, rfl, Lib.hid (by have := hj.out; omega), Lib.hid (by simpa using hlen'.out), hR1, hR2, hput2.out _ _ (by repeat (first | exact KW.refl _ _ | (refine KW.grown ?_ (by assumption)) | (refine KW.step ?_ (by assumption)) | (with_reducible refine KW.alloc ?_ _) | (with_reducible refine KW.drew ?_))) hM3, hGK.out _ (by repeat (first | exact KW.refl _ _ | (refine KW.grown ?_ (by assumption)) | (refine KW.step ?_ (by assumption)) | (with_reducible refine KW.alloc ?_ _) | (with_reducible refine KW.drew ?_))), Lib.hid (hEndT.out hgn)⟩
                    exact AllReadyH.nil
                  exact AllReadyH.nil
                refine AllReadyH.cons (o := ⟨some 44, _, _, _, _, _⟩) rfl (fun K hK => ?_) ?_
                · go_simp
                  go_at_call 41
                  refine (hPl.out _).mono ?_
                  rintro e w2 ⟨Bk, rfl, p1, p2, p3, p4⟩
                  go_wp2_with fail
                  refine hK.out _ _ ?_ (fun hHeld => ?_)
                  · (refine hAll.out _ ?_; repeat (first | exact KW.refl _ _ | (refine KW.grown ?_ (by assumption)) | (refine KW.step ?_ (by assumption)) | (with_reducible refine KW.alloc ?_ _) | (with_reducible refine KW.drew ?_)))
                  clear hK K
                  try simp only [Act.put, List.setIfInBounds_toArray, List.set_cons_zero, List.set_cons_succ]
                  refine wpAnyH_ready (rs := [12]) (by kernel_rfl) (by simp) ?_
                  refine AllReadyH.cons (o := ⟨some 41, _, _, _, _, _⟩) rfl (fun K hK => ?_) ?_
                  · go_simp
                    refine hK.out _ _ ?_ (fun hHeld => ?_)
                    · (refine hAll.out _ ?_; repeat (first | exact KW.refl _ _ | (refine KW.grown ?_ (by assumption)) | (refine KW.step ?_ (by assumption)) | (with_reducible refine KW.alloc ?_ _) | (with_reducible refine KW.drew ?_)))
                    clear hK K
                    try simp only [Act.put, List.setIfInBounds_toArray, List.set_cons_zero, List.set_cons_succ]
                    refine wpAnyH_ready (rs := [16]) (by kernel_rfl) (by simp) ?_
                    refine AllReadyH.cons (o := ⟨some 45, _, _, _, _, _⟩) rfl (fun K hK => ?_) ?_
                    · go_simp
                      go_at_call 39
                      refine (hJ.out A1 k1 _ Bk _ (by repeat (first | assumption | exact Below.refl _ _ | (refine bStep ?_ (by assumption)) | (with_reducible refine bAlc ?_ _) | (with_reducible refine bDrw ?_))) (rdl_to hd1 (by repeat (first | assumption | exact Below.refl _ _ | (refine bStep ?_ (by assumption)) | (with_reducible refine bAlc ?_ _) | (with_reducible refine bDrw ?_)))) (rdl_lay _ _ (by repeat (first | assumption | exact Below.refl _ _ | (refine bStep ?_ (by assumption)) | (with_reducible refine bAlc ?_ _) | (with_reducible refine bDrw ?_)))) (cell_later (by repeat (first | assumption | exact Below.refl _ _ | (refine bStep ?_ (by assumption)) | (with_reducible refine bAlc ?_ _) | (with_reducible refine bDrw ?_))) p1) (bk_lt p3 (by repeat (first | assumption | exact Below.refl _ _ | (refine bStep ?_ (by assumption)) | (with_reducible refine bAlc ?_ _) | (with_reducible refine bDrw ?_))))).mono ?_
                      rintro e w3 ⟨rfl, hM3, hg3⟩
                      go_wp2_with fail
                      refine hK.out _ _ ?_ (fun hHeld => ?_)
                      · (refine hAll.out _ ?_; repeat (first | exact KW.refl _ _ | (refine KW.grown ?_ (by assumption)) | (refine KW.step ?_ (by assumption)) | (with_reducible refine KW.alloc ?_ _) | (with_reducible refine KW.drew ?_)))
                      clear hK K
                      try simp only [Act.put, List.setIfInBounds_toArray, List.set_cons_zero, List.set_cons_succ]
                      refine wpAnyH_take (i := 17) (oi := ⟨some 46, _, _, _, _, _⟩) (v := ?v18) rfl (by kernel_rfl) (by kernel_rfl) (by kernel_rfl) (fun _ _ _ h => h) (Or.inl ⟨by rfl, ?hy18⟩) (by assumption) ?rest18
                      case hy18 => (intro w hSw; (try dsimp only at hSw); go_simp <;> with_reducible rfl)
                      try simp only [Act.put, List.setIfInBounds_toArray, List.set_cons_zero, List.set_cons_succ]
                      refine wpAnyH_take (i := 18) (oi := ⟨some 47, _, _, _, _, _⟩) (v := undef) rfl (by kernel_rfl) (by kernel_rfl) (by kernel_rfl) (fun _ _ _ h => h) (Or.inr ⟨by rfl, rfl⟩) (by assumption) ?_
                      try simp only [Act.put, List.setIfInBounds_toArray, List.set_cons_zero, List.set_cons_succ]
                      refine wpAnyH_take (i := 19) (oi := ⟨some 48, _, _, _, _, _⟩) (v := ?v20) rfl (by kernel_rfl) (by kernel_rfl) (by kernel_rfl) (fun _ _ _ h => h) (Or.inl ⟨by rfl, ?hy20⟩) (by assumption) ?rest20
                      case hy20 => (intro w hSw; (try dsimp only at hSw); go_simp <;> with_reducible rfl)
                      try simp only [Act.put, List.setIfInBounds_toArray, List.set_cons_zero, List.set_cons_succ]
                      refine wpAnyH_take (i := 20) (oi := ⟨some 5, _, _, _, _, _⟩) (v := ?v21) rfl (by kernel_rfl) (by kernel_rfl) (by kernel_rfl) (fun _ _ _ h => h) (Or.inl ⟨by rfl, ?hy21⟩) (by assumption) ?rest21
                      case hy21 => (intro w hSw; (try dsimp only at hSw); go_simp <;> with_reducible rfl)
                      try simp only [Act.put, List.setIfInBounds_toArray, List.set_cons_zero, List.set_cons_succ]
                      refine wpAnyH_done (by kernel_rfl) ?_ _
                      go_wp2_with fail
                      go_roundg (g.prods.length - (j + 1))
                      case measure => have := hj.out; omega
                      case rel => exact ⟨j + 1, ss'.set ix J, true, by go_num, rfl, Lib.hid (by have := hj.out; omega), Lib.hid (by simpa using hlen'.out), hR1, hR2, hput2.out _ _ (by repeat (first | exact KW.refl _ _ | (refine KW.grown ?_ (by assumption)) | (refine KW.step ?_ (by assumption)) | (with_reducible refine KW.alloc ?_ _) | (with_reducible refine KW.drew ?_))) hM3, hGK.out _ (by repeat (first | exact KW.refl _ _ | (refine KW.grown ?_ (by assumption)) | (refine KW.step ?_ (by assumption)) | (with_reducible refine KW.alloc ?_ _) | (with_reducible refine KW.drew ?_))), Lib.hid (hEndT.out hgn)⟩
                    exact AllReadyH.nil
                  exact AllReadyH.nil
                exact AllReadyH.nil
              refine AllReadyH.cons (o := ⟨some 41, _, _, _, _, _⟩) rfl (fun K hK => ?_) ?_
              · go_simp
                refine hK.out _ _ ?_ (fun hHeld => ?_)
                · (refine hAll.out _ ?_; repeat (first | exact KW.refl _ _ | (refine KW.grown ?_ (by assumption)) | (refine KW.step ?_ (by assumption)) | (with_reducible refine KW.alloc ?_ _) | (with_reducible refine KW.drew ?_)))
                clear hK K
                try simp only [Act.put, List.setIfInBounds_toArray, List.set_cons_zero, List.set_cons_succ]
                refine wpAnyH_ready (rs := [10]) (by kernel_rfl) (by simp) ?_
                refine AllReadyH.cons (o := ⟨some 39, _, _, _, _, _⟩) rfl (fun K hK => ?_) ?_
                · go_simp
                  go_at_call 40
                  refine (hT.out _ (by repeat (first | assumption | exact Below.refl _ _ | (refine bStep ?_ (by assumption)) | (with_reducible refine bAlc ?_ _) | (with_reducible refine bDrw ?_)))).mono ?_
                  rintro e w1 ⟨v1, rfl, ho1, hb1⟩
                  obtain ⟨A1, k1, rfl, hd1, hk1, hmm1, hg1⟩ := ho1.reads
                  go_wp2_with fail
                  refine hK.out _ _ ?_ (fun hHeld => ?_)
                  · (refine hAll.out _ ?_; repeat (first | exact KW.refl _ _ | (refine KW.grown ?_ (by assumption)) | (refine KW.step ?_ (by assumption)) | (with_reducible refine KW.alloc ?_ _) | (with_reducible refine KW.drew ?_)))
                  clear hK K
                  try simp only [Act.put, List.setIfInBounds_toArray, List.set_cons_zero, List.set_cons_succ]
                  refine wpAnyH_ready (rs := [15]) (by kernel_rfl) (by simp) ?_
                  refine AllReadyH.cons (o := ⟨some 44, _, _, _, _, _⟩) rfl (fun K hK => ?_) ?_
                  · go_simp
                    go_at_call 41
                    refine (hPl.out _).mono ?_
                    rintro e w2 ⟨Bk, rfl, p1, p2, p3, p4⟩
                    go_wp2_with fail
                    refine hK.out _ _ ?_ (fun hHeld => ?_)
                    · (refine hAll.out _ ?_; repeat (first | exact KW.refl _ _ | (refine KW.grown ?_ (by assumption)) | (refine KW.step ?_ (by assumption)) | (with_reducible refine KW.alloc ?_ _) | (with_reducible refine KW.drew ?_)))
                    clear hK K
                    try simp only [Act.put, List.setIfInBounds_toArray, List.set_cons_zero, List.set_cons_succ]
                    refine wpAnyH_ready (rs := [16]) (by kernel_rfl) (by simp) ?_
                    refine AllReadyH.cons (o := ⟨some 45, _, _, _, _, _⟩) rfl (fun K hK => ?_) ?_
                    · go_simp
                      go_at_call 39
                      refine (hJ.out A1 k1 _ Bk _ (by repeat (first | assumption | exact Below.refl _ _ | (refine bStep ?_ (by assumption)) | (with_reducible refine bAlc ?_ _) | (with_reducible refine bDrw ?_))) (rdl_to hd1 (by repeat (first | assumption | exact Below.refl _ _ | (refine bStep ?_ (by assumption)) | (with_reducible refine bAlc ?_ _) | (with_reducible refine bDrw ?_)))) (rdl_lay _ _ (by repeat (first | assumption | exact Below.refl _ _ | (refine bStep ?_ (by assumption)) | (with_reducible refine bAlc ?_ _) | (with_reducible refine bDrw ?_)))) (cell_later (by repeat (first | assumption | exact Below.refl _ _ | (refine bStep ?_ (by assumption)) | (with_reducible refine bAlc ?_ _) | (with_reducible refine bDrw ?_))) p1) (bk_lt p3 (by repeat (first | assumption | exact Below.refl _ _ | (refine bStep ?_ (by assumption)) | (with_reducible refine bAlc ?_ _) | (with_reducible refine bDrw ?_))))).mono ?_
                      rintro e w3 ⟨rfl, hM3, hg3⟩
                      go_wp2_with fail
                      refine hK.out _ _ ?_ (fun hHeld => ?_)
                      · (refine hAll.out _ ?_; repeat (first | exact KW.refl _ _ | (refine KW.grown ?_ (by assumption)) | (refine KW.step ?_ (by assumption)) | (with_reducible refine KW.alloc ?_ _) | (with_reducible refine KW.drew ?_)))
                      clear hK K
                      try simp only [Act.put, List.setIfInBounds_toArray, List.set_cons_zero, List.set_cons_succ]
                      refine wpAnyH_take (i := 17) (oi := ⟨some 46, _, _, _, _, _⟩) (v := ?v22) rfl (by kernel_rfl) (by kernel_rfl) (by kernel_rfl) (fun _ _ _ h => h) (Or.inl ⟨by rfl, ?hy22⟩) (by assumption) ?rest22
                      case hy22 => (intro w hSw; (try dsimp only at hSw); go_simp <;> with_reducible rfl)
                      try simp only [Act.put, List.setIfInBounds_toArray, List.set_cons_zero, List.set_cons_succ]
                      refine wpAnyH_take (i := 18) (oi := ⟨some 47, _, _, _, _, _⟩) (v := undef) rfl (by kernel_rfl) (by kernel_rfl) (by kernel_rfl) (fun _ _ _ h => h) (Or.inr ⟨by rfl, rfl⟩) (by assumption) ?_
                      try simp only [Act.put, List.setIfInBounds_toArray, List.set_cons_zero, List.set_cons_succ]
                      refine wpAnyH_take (i := 19) (oi := ⟨some 48, _, _, _, _, _⟩) (v := ?v24) rfl (by kernel_rfl) (by kernel_rfl) (by kernel_rfl) (fun _ _ _ h => h) (Or.inl ⟨by rfl, ?hy24⟩) (by assumption) ?rest24
                      case hy24 => (intro w hSw; (try dsimp only at hSw); go_simp <;> with_reducible rfl)
                      try simp only [Act.put, List.setIfInBounds_toArray, List.set_cons_zero, List.set_cons_succ]
                      refine wpAnyH_take (i := 20) (oi := ⟨some 5, _, _, _, _, _⟩) (v := ?v25) rfl (by kernel_rfl) (by kernel_rfl) (by kernel_rfl) (fun _ _ _ h => h) (Or.inl ⟨by rfl, ?hy25⟩) (by assumption) ?rest25
                      case hy25 => (intro w hSw; (try dsimp only at hSw); go_simp <;> with_reducible rfl)
                      try simp only [Act.put, List.setIfInBounds_toArray, List.set_cons_zero, List.set_cons_succ]
                      refine wpAnyH_done (by kernel_rfl) ?_ _
                      go_wp2_with fail
                      go_roundg (g.prods.length - (j + 1))
                      case measure => have := hj.out; omega
                      case rel => exact ⟨j + 1, ss'.set ix J, true, by go_num, rfl, Lib.hid (by have := hj.out; omega), Lib.hid (by simpa using hlen'.out), hR1, hR2, hput2.out _ _ (by repeat (first | exact KW.refl _ _ | (refine KW.grown ?_ (by assumption)) | (refine KW.step ?_ (by assumption)) | (with_reducible refine KW.alloc ?_ _) | (with_reducible refine KW.drew ?_))) hM3, hGK.out _ (by repeat (first | exact KW.refl _ _ | (refine KW.grown ?_ (by assumption)) | (refine KW.step ?_ (by assumption)) | (with_reducible refine KW.alloc ?_ _) | (with_reducible refine KW.drew ?_))), Lib.hid (hEndT.out hgn)⟩
                    exact AllReadyH.nil
                  exact AllReadyH.nil
                exact AllReadyH.nil
              exact AllReadyH.nil
            | false =>
              have hgn := Decidable.of_not_not (of_decide_eq_false hgb.out.symm)
              refine wp_region_held_drew (S := (fun w' => w'.cell? ⟨w.heap.size, 0, none⟩ = some (.int .i64 g.k) ∧ w'.cell? ⟨w.heap.size, 1, none⟩ = some (.slice ta g.toks.length tc) ∧ w'.cell? ⟨w.heap.size, 2, none⟩ = some (.string g.sep) ∧ w'.cell? ⟨w.heap.size, 3, none⟩ = some (.slice na i nc) ∧ w'.cell? ⟨w.heap.size, 4, none⟩ = some (.int .i64 g.start) ∧ w'.cell? ⟨w.heap.size, 5, none⟩ = some (.slice (some ⟨b, off, none⟩) g.prods.length pc) ∧
                w'.cell? ⟨g7, 0, none⟩ = some (.int .i64 p.left) ∧ w'.cell? ⟨g7, 1, none⟩ = some (.slice RA p.right.length rc) ∧ w'.cell? ⟨bo, ix, none⟩ = some (.map (some mb)) ∧ KW W mb w')) (by kernel_rfl) (hAll.out _ (KW.refl _ _).drew) (fun hHeld => ?_)
              refine wpAnyH_take (i := 0) (oi := ⟨some 29, _, _, _, _, _⟩) (v := ?vf1) rfl (by kernel_rfl) (by kernel_rfl) (by kernel_rfl) (fun _ _ _ h => h) (Or.inl ⟨by rfl, ?hyf1⟩) (by assumption) ?restf1
              case hyf1 => (intro w hSw; (try dsimp only at hSw); go_simp <;> with_reducible rfl)
              try simp only [Act.put, List.setIfInBounds_toArray, List.set_cons_zero, List.set_cons_succ]
              refine wpAnyH_take (i := 1) (oi := ⟨some 30, _, _, _, _, _⟩) (v := ?vf2) rfl (by kernel_rfl) (by kernel_rfl) (by kernel_rfl) (fun _ _ _ h => h) (Or.inl ⟨by rfl, ?hyf2⟩) (by assumption) ?restf2
              case hyf2 => (intro w hSw; (try dsimp only at hSw); go_simp <;> with_reducible rfl)
              try simp only [Act.put, List.setIfInBounds_toArray, List.set_cons_zero, List.set_cons_succ]
              refine wpAnyH_take (i := 2) (oi := ⟨some 31, _, _, _, _, _⟩) (v := ?vf3) rfl (by kernel_rfl) (by kernel_rfl) (by kernel_rfl) (fun _ _ _ h => h) (Or.inl ⟨by rfl, ?hyf3⟩) (by assumption) ?restf3
              case hyf3 => (intro w hSw; (try dsimp only at hSw); go_simp <;> with_reducible rfl)
              try simp only [Act.put, List.setIfInBounds_toArray, List.set_cons_zero, List.set_cons_succ]
              refine wpAnyH_take (i := 3) (oi := ⟨some 32, _, _, _, _, _⟩) (v := ?vf4) rfl (by kernel_rfl) (by kernel_rfl) (by kernel_rfl) (fun _ _ _ h => h) (Or.inl ⟨by rfl, ?hyf4⟩) (by assumption) ?restf4
              case hyf4 => (intro w hSw; (try dsimp only at hSw); go_simp <;> with_reducible rfl)
              try simp only [Act.put, List.setIfInBounds_toArray, List.set_cons_zero, List.set_cons_succ]
              refine wpAnyH_take (i := 4) (oi := ⟨some 33, _, _, _, _, _⟩) (v := ?vf5) rfl (by kernel_rfl) (by kernel_rfl) (by kernel_rfl) (fun _ _ _ h => h) (Or.inl ⟨by rfl, ?hyf5⟩) (by assumption) ?restf5
              case hyf5 => (intro w hSw; (try dsimp only at hSw); go_simp <;> with_reducible rfl)
              try simp only [Act.put, List.setIfInBounds_toArray, List.set_cons_zero, List.set_cons_succ]
              refine wpAnyH_take (i := 5) (oi := ⟨some 34, _, _, _, _, _⟩) (v := ?vf6) rfl (by kernel_rfl) (by kernel_rfl) (by kernel_rfl) (fun _ _ _ h => h) (Or.inl ⟨by rfl, ?hyf6⟩) (by assumption) ?restf6
              case hyf6 => (intro w hSw; (try dsimp only at hSw); go_simp <;> with_reducible rfl)
              try simp only [Act.put, List.setIfInBounds_toArray, List.set_cons_zero, List.set_cons_succ]
              refine wpAnyH_take (i := 6) (oi := ⟨some 35, _, _, _, _, _⟩) (v := ?vf7) rfl (by kernel_rfl) (by kernel_rfl) (by kernel_rfl) (fun _ _ _ h => h) (Or.inl ⟨by rfl, ?hyf7⟩) (by assumption) ?restf7
              case hyf7 => (intro w hSw; (try dsimp only at hSw); go_simp <;> with_reducible rfl)
              try simp only [Act.put, List.setIfInBounds_toArray, List.set_cons_zero, List.set_cons_succ]
              refine wpAnyH_take (i := 7) (oi := ⟨some 36, _, _, _, _, _⟩) (v := ?vf8) rfl (by kernel_rfl) (by kernel_rfl) (by kernel_rfl) (fun _ _ _ h => h) (Or.inl ⟨by rfl, ?hyf8⟩) (by assumption) ?restf8
              case hyf8 => (intro w hSw; (try dsimp only at hSw); go_simp <;> with_reducible rfl)
              try simp only [Act.put, List.setIfInBounds_toArray, List.set_cons_zero, List.set_cons_succ]
              refine wpAnyH_take (i := 8) (oi := ⟨some 37, _, _, _, _, _⟩) (v := ?vf9) rfl (by kernel_rfl) (by kernel_rfl) (by kernel_rfl) (fun _ _ _ h => h) (Or.inl ⟨by rfl, ?hyf9⟩) (by assumption) ?restf9
              case hyf9 => (intro w hSw; (try dsimp only at hSw); go_simp <;> with_reducible rfl)
              try simp only [Act.put, List.setIfInBounds_toArray, List.set_cons_zero, List.set_cons_succ]
              refine wpAnyH_take (i := 9) (oi := ⟨some 38, _, _, _, _, _⟩) (v := ?vf10) rfl (by kernel_rfl) (by kernel_rfl) (by kernel_rfl) (fun _ _ _ h => h) (Or.inl ⟨by rfl, ?hyf10⟩) (by assumption) ?restf10
              case hyf10 => (intro w hSw; (try dsimp only at hSw); go_simp <;> with_reducible rfl)
              try simp only [Act.put, List.setIfInBounds_toArray, List.set_cons_zero, List.set_cons_succ]
              refine wpAnyH_take (i := 11) (oi := ⟨some 40, _, _, _, _, _⟩) (v := ?vf11) rfl (by kernel_rfl) (by kernel_rfl) (by kernel_rfl) (fun _ _ _ h => h) (Or.inl ⟨by rfl, ?hyf11⟩) (by assumption) ?restf11
              case hyf11 => (intro w hSw; (try dsimp only at hSw); go_simp <;> with_reducible rfl)
              try simp only [Act.put, List.setIfInBounds_toArray, List.set_cons_zero, List.set_cons_succ]
              refine wpAnyH_take (i := 13) (oi := ⟨some 42, _, _, _, _, _⟩) (v := ?vf12) rfl (by kernel_rfl) (by kernel_rfl) (by kernel_rfl) (fun _ _ _ h => h) (Or.inl ⟨by rfl, ?hyf12⟩) (by assumption) ?restf12
              case hyf12 => (intro w hSw; (try dsimp only at hSw); go_simp <;> with_reducible rfl)
              try simp only [Act.put, List.setIfInBounds_toArray, List.set_cons_zero, List.set_cons_succ]
              refine wpAnyH_take (i := 14) (oi := ⟨some 43, _, _, _, _, _⟩) (v := ?vf13) rfl (by kernel_rfl) (by kernel_rfl) (by kernel_rfl) (fun _ _ _ h => h) (Or.inl ⟨by rfl, ?hyf13⟩) (by assumption) ?restf13
              case hyf13 => (intro w hSw; (try dsimp only at hSw); go_simp <;> with_reducible rfl)
              try simp only [Act.put, List.setIfInBounds_toArray, List.set_cons_zero, List.set_cons_succ]
              refine wpAnyH_ready (rs := [10, 12]) (by kernel_rfl) (by simp) ?_
              refine AllReadyH.cons (o := ⟨some 39, _, _, _, _, _⟩) rfl (fun K hK => ?_) ?_
              · go_simp
                go_at_call 40
                refine (hT.out _ (by repeat (first | assumption | exact Below.refl _ _ | (refine bStep ?_ (by assumption)) | (with_reducible refine bAlc ?_ _) | (with_reducible refine bDrw ?_)))).mono ?_
                rintro e w1 ⟨v1, rfl, ho1, hb1⟩
                obtain ⟨A1, k1, rfl, hd1, hk1, hmm1, hg1⟩ := ho1.reads
                go_wp2_with fail
                refine hK.out _ _ ?_ (fun hHeld => ?_)
                · (refine hAll.out _ ?_; repeat (first | exact KW.refl _ _ | (refine KW.grown ?_ (by assumption)) | (refine KW.step ?_ (by assumption)) | (with_reducible refine KW.alloc ?_ _) | (with_reducible refine KW.drew ?_)))
                clear hK K
                try simp only [Act.put, List.setIfInBounds_toArray, List.set_cons_zero, List.set_cons_succ]
                refine wpAnyH_ready (rs := [12, 15]) (by kernel_rfl) (by simp) ?_
                refine AllReadyH.cons (o := ⟨some 41, _, _, _, _, _⟩) rfl (fun K hK => ?_) ?_
                · go_simp
                  refine hK.out _ _ ?_ (fun hHeld => ?_)
                  · (refine hAll.out _ ?_; repeat (first | exact KW.refl _ _ | (refine KW.grown ?_ (by assumption)) | (refine KW.step ?_ (by assumption)) | (with_reducible refine KW.alloc ?_ _) | (with_reducible refine KW.drew ?_)))
                  clear hK K
                  try simp only [Act.put, List.setIfInBounds_toArray, List.set_cons_zero, List.set_cons_succ]
                  refine wpAnyH_ready (rs := [15]) (by kernel_rfl) (by simp) ?_
                  refine AllReadyH.cons (o := ⟨some 44, _, _, _, _, _⟩) rfl (fun K hK => ?_) ?_
                  · go_simp
                    go_at_call 41
                    refine (hPl.out _).mono ?_
                    rintro e w2 ⟨Bk, rfl, p1, p2, p3, p4⟩
                    go_wp2_with fail
                    refine hK.out _ _ ?_ (fun hHeld => ?_)
                    · (refine hAll.out _ ?_; repeat (first | exact KW.refl _ _ | (refine KW.grown ?_ (by assumption)) | (refine KW.step ?_ (by assumption)) | (with_reducible refine KW.alloc ?_ _) | (with_reducible refine KW.drew ?_)))
                    clear hK K
                    try simp only [Act.put, List.setIfInBounds_toArray, List.set_cons_zero, List.set_cons_succ]
                    refine wpAnyH_ready (rs := [16]) (by kernel_rfl) (by simp) ?_
                    refine AllReadyH.cons (o := ⟨some 45, _, _, _, _, _⟩) rfl (fun K hK => ?_) ?_
                    · go_simp
                      go_at_call 39
                      refine (hJ.out A1 k1 _ Bk _ (by repeat (first | assumption | exact Below.refl _ _ | (refine bStep ?_ (by assumption)) | (with_reducible refine bAlc ?_ _) | (with_reducible refine bDrw ?_))) (rdl_to hd1 (by repeat (first | assumption | exact Below.refl _ _ | (refine bStep ?_ (by assumption)) | (with_reducible refine bAlc ?_ _) | (with_reducible refine bDrw ?_)))) (rdl_lay _ _ (by repeat (first | assumption | exact Below.refl _ _ | (refine bStep ?_ (by assumption)) | (with_reducible refine bAlc ?_ _) | (with_reducible refine bDrw ?_)))) (cell_later (by repeat (first | assumption | exact Below.refl _ _ | (refine bStep ?_ (by assumption)) | (with_reducible refine bAlc ?_ _) | (with_reducible refine bDrw ?_))) p1) (bk_lt p3 (by repeat (first | assumption | exact Below.refl _ _ | (refine bStep ?_ (by assumption)) | (with_reducible refine bAlc ?_ _) | (with_reducible refine bDrw ?_))))).mono ?_
                      rintro e w3 ⟨rfl, hM3, hg3⟩
                      go_wp2_with fail
                      refine hK.out _ _ ?_ (fun hHeld => ?_)
                      · (refine hAll.out _ ?_; repeat (first | exact KW.refl _ _ | (refine KW.grown ?_ (by assumption)) | (refine KW.step ?_ (by assumption)) | (with_reducible refine KW.alloc ?_ _) | (with_reducible refine KW.drew ?_)))
                      clear hK K
                      try simp only [Act.put, List.setIfInBounds_toArray, List.set_cons_zero, List.set_cons_succ]
                      refine wpAnyH_take (i := 17) (oi := ⟨some 46, _, _, _, _, _⟩) (v := ?vf14) rfl (by kernel_rfl) (by kernel_rfl) (by kernel_rfl) (fun _ _ _ h => h) (Or.inl ⟨by rfl, ?hyf14⟩) (by assumption) ?restf14
                      case hyf14 => (intro w hSw; (try dsimp only at hSw); go_simp <;> with_reducible rfl)
                      try simp only [Act.put, List.setIfInBounds_toArray, List.set_cons_zero, List.set_cons_succ]
                      refine wpAnyH_take (i := 18) (oi := ⟨some 47, _, _, _, _, _⟩) (v := ?vf15) rfl (by kernel_rfl) (by kernel_rfl) (by kernel_rfl) (fun _ _ _ h => h) (Or.inl ⟨by rfl, ?hyf15⟩) (by assumption) ?restf15
                      case hyf15 => (intro w hSw; (try dsimp only at hSw); go_simp <;> with_reducible rfl)
                      try simp only [Act.put, List.setIfInBounds_toArray, List.set_cons_zero, List.set_cons_succ]
                      refine wpAnyH_take (i := 19) (oi := ⟨some 48, _, _, _, _, _⟩) (v := ?vf16) rfl (by kernel_rfl) (by kernel_rfl) (by kernel_rfl) (fun _ _ _ h => h) (Or.inl ⟨by rfl, ?hyf16⟩) (by assumption) ?restf16
                      case hyf16 => (intro w hSw; (try dsimp only at hSw); go_simp <;> with_reducible rfl)
                      try simp only [Act.put, List.setIfInBounds_toArray, List.set_cons_zero, List.set_cons_succ]
                      refine wpAnyH_take (i := 20) (oi := ⟨some 5, _, _, _, _, _⟩) (v := ?vf17) rfl (by kernel_rfl) (by kernel_rfl) (by kernel_rfl) (fun _ _ _ h => h) (Or.inl ⟨by rfl, ?hyf17⟩) (by assumption) ?restf17
                      case hyf17 => (intro w hSw; (try dsimp only at hSw); go_simp <;> with_reducible rfl)
                      try simp only [Act.put, List.setIfInBounds_toArray, List.set_cons_zero, List.set_cons_succ]
                      refine wpAnyH_done (by kernel_rfl) ?_ _
                      go_wp2_with fail
                      go_roundg (g.prods.length - (j + 1))
                      case measure => have := hj.out; omega
                      case rel => exact ⟨j + 1, ss', gr, by go_num, rfl, Lib.hid (by have := hj.out; omega), hlen', hfit', hsnd', by have h9 := hput2.out _ _ (by repeat (first | exact KW.refl _ _ | (refine KW.grown ?_ (by assumption)) | (refine KW.step ?_ (by assumption)) | (with_reducible refine KW.alloc ?_ _) | (with_reducible refine KW.drew ?_))) hM3; rw [(hEndF.out hgn).1] at h9; exact h9, hGK.out _ (by repeat (first | exact KW.refl _ _ | (refine KW.grown ?_ (by assumption)) | (refine KW.step ?_ (by assumption)) | (with_reducible refine KW.alloc ?_ _) | (with_reducible refine KW.drew ?_))), Lib.hid (hEndF.out hgn).2⟩
                    exact AllReadyH.nil
                  exact AllReadyH.nil
                refine AllReadyH.cons (o := ⟨some 44, _, _, _, _, _⟩) rfl (fun K hK => ?_) ?_
                · go_simp
                  go_at_call 41
                  refine (hPl.out _).mono ?_
                  rintro e w2 ⟨Bk, rfl, p1, p2, p3, p4⟩
                  go_wp2_with fail
                  refine hK.out _ _ ?_ (fun hHeld => ?_)
                  · (refine hAll.out _ ?_; repeat (first | exact KW.refl _ _ | (refine KW.grown ?_ (by assumption)) | (refine KW.step ?_ (by assumption)) | (with_reducible refine KW.alloc ?_ _) | (with_reducible refine KW.drew ?_)))
                  clear hK K
                  try simp only [Act.put, List.setIfInBounds_toArray, List.set_cons_zero, List.set_cons_succ]
                  refine wpAnyH_ready (rs := [12]) (by kernel_rfl) (by simp) ?_
                  refine AllReadyH.cons (o := ⟨some 41, _, _, _, _, _⟩) rfl (fun K hK => ?_) ?_
                  · go_simp
                    refine hK.out _ _ ?_ (fun hHeld => ?_)
                    · (refine hAll.out _ ?_; repeat (first | exact KW.refl _ _ | (refine KW.grown ?_ (by assumption)) | (refine KW.step ?_ (by assumption)) | (with_reducible refine KW.alloc ?_ _) | (with_reducible refine KW.drew ?_)))
                    clear hK K
                    try simp only [Act.put, List.setIfInBounds_toArray, List.set_cons_zero, List.set_cons_succ]
                    refine wpAnyH_ready (rs := [16]) (by kernel_rfl) (by simp) ?_
                    refine AllReadyH.cons (o := ⟨some 45, _, _, _, _, _⟩) rfl (fun K hK => ?_) ?_
                    · go_simp
                      go_at_call 39
                      refine (hJ.out A1 k1 _ Bk _ (by repeat (first | assumption | exact Below.refl _ _ | (refine bStep ?_ (by assumption)) | (with_reducible refine bAlc ?_ _) | (with_reducible refine bDrw ?_))) (rdl_to hd1 (by repeat (first | assumption | exact Below.refl _ _ | (refine bStep ?_ (by assumption)) | (with_reducible refine bAlc ?_ _) | (with_reducible refine bDrw ?_)))) (rdl_lay _ _ (by repeat (first | assumption | exact Below.refl _ _ | (refine bStep ?_ (by assumption)) | (with_reducible refine bAlc ?_ _) | (with_reducible refine bDrw ?_)))) (cell_later (by repeat (first | assumption | exact Below.refl _ _ | (refine bStep ?_ (by assumption)) | (with_reducible refine bAlc ?_ _) | (with_reducible refine bDrw ?_))) p1) (bk_lt p3 (by repeat (first | assumption | exact Below.refl _ _ | (refine bStep ?_ (by assumption)) | (with_reducible refine bAlc ?_ _) | (with_reducible refine bDrw ?_))))).mono ?_
                      rintro e w3 ⟨rfl, hM3, hg3⟩
                      go_wp2_with fail
                      refine hK.out _ _ ?_ (fun hHeld => ?_)
                      · (refine hAll.out _ ?_; repeat (first | exact KW.refl _ _ | (refine KW.grown ?_ (by assumption)) | (refine KW.step ?_ (by assumption)) | (with_reducible refine KW.alloc ?_ _) | (with_reducible refine KW.drew ?_)))
                      clear hK K
                      try simp only [Act.put, List.setIfInBounds_toArray, List.set_cons_zero, List.set_cons_succ]
                      refine wpAnyH_take (i := 17) (oi := ⟨some 46, _, _, _, _, _⟩) (v := ?vf18) rfl (by kernel_rfl) (by kernel_rfl) (by kernel_rfl) (fun _ _ _ h => h) (Or.inl ⟨by rfl, ?hyf18⟩) (by assumption) ?restf18
                      case hyf18 => (intro w hSw; (try dsimp only at hSw); go_simp <;> with_reducible rfl)
                      try simp only [Act.put, List.setIfInBounds_toArray, List.set_cons_zero, List.set_cons_succ]
                      refine wpAnyH_take (i := 18) (oi := ⟨some 47, _, _, _, _, _⟩) (v := ?vf19) rfl (by kernel_rfl) (by kernel_rfl) (by kernel_rfl) (fun _ _ _ h => h) (Or.inl ⟨by rfl, ?hyf19⟩) (by assumption) ?restf19
                      case hyf19 => (intro w hSw; (try dsimp only at hSw); go_simp <;> with_reducible rfl)
                      try simp only [Act.put, List.setIfInBounds_toArray, List.set_cons_zero, List.set_cons_succ]
                      refine wpAnyH_take (i := 19) (oi := ⟨some 48, _, _, _, _, _⟩) (v := ?vf20) rfl (by kernel_rfl) (by kernel_rfl) (by kernel_rfl) (fun _ _ _ h => h) (Or.inl ⟨by rfl, ?hyf20⟩) (by assumption) ?restf20
                      case hyf20 => (intro w hSw; (try dsimp only at hSw); go_simp <;> with_reducible rfl)
                      try simp only [Act.put, List.setIfInBounds_toArray, List.set_cons_zero, List.set_cons_succ]
                      refine wpAnyH_take (i := 20) (oi := ⟨some 5, _, _, _, _, _⟩) (v := ?vf21) rfl (by kernel_rfl) (by kernel_rfl) (by kernel_rfl) (fun _ _ _ h => h) (Or.inl ⟨by rfl, ?hyf21⟩) (by assumption) ?restf21
                      case hyf21 => (intro w hSw; (try dsimp only at hSw); go_simp <;> with_reducible rfl)
                      try simp only [Act.put, List.setIfInBounds_toArray, List.set_cons_zero, List.set_cons_succ]
                      refine wpAnyH_done (by kernel_rfl) ?_ _
                      go_wp2_with fail
                      go_roundg (g.prods.length - (j + 1))
                      case measure => have := hj.out; omega
                      case rel => exact ⟨j + 1, ss', gr, by go_num, rfl, Lib.hid (by have := hj.out; omega), hlen', hfit', hsnd', by have h9 := hput2.out _ _ (by repeat (first | exact KW.refl _ _ | (refine KW.grown ?_ (by assumption)) | (refine KW.step ?_ (by assumption)) | (with_reducible refine KW.alloc ?_ _) | (with_reducible refine KW.drew ?_))) hM3; rw [(hEndF.out hgn).1] at h9; exact h9, hGK.out _ (by repeat (first | exact KW.refl _ _ | (refine KW.grown ?_ (by assumption)) | (refine KW.step ?_ (by assumption)) | (with_reducible refine KW.alloc ?_ _) | (with_reducible refine KW.drew ?_))), Lib.hid (hEndF.out hgn).2⟩
                    exact AllReadyH.nil
                  exact AllReadyH.nil
                exact AllReadyH.nil
              refine AllReadyH.cons (o := ⟨some 41, _, _, _, _, _⟩) rfl (fun K hK => ?_) ?_
              · go_simp
                refine hK.out _ _ ?_ (fun hHeld => ?_)
                · (refine hAll.out _ ?_; repeat (first | exact KW.refl _ _ | (refine KW.grown ?_ (by assumption)) | (refine KW.step ?_ (by assumption)) | (with_reducible refine KW.alloc ?_ _) | (with_reducible refine KW.drew ?_)))
                clear hK K
                try simp only [Act.put, List.setIfInBounds_toArray, List.set_cons_zero, List.set_cons_succ]
                refine wpAnyH_ready (rs := [10]) (by kernel_rfl) (by simp) ?_
                refine AllReadyH.cons (o := ⟨some 39, _, _, _, _, _⟩) rfl (fun K hK => ?_) ?_
                · go_simp
                  go_at_call 40
                  refine (hT.out _ (by repeat (first | assumption | exact Below.refl _ _ | (refine bStep ?_ (by assumption)) | (with_reducible refine bAlc ?_ _) | (with_reducible refine bDrw ?_)))).mono ?_
                  rintro e w1 ⟨v1, rfl, ho1, hb1⟩
                  obtain ⟨A1, k1, rfl, hd1, hk1, hmm1, hg1⟩ := ho1.reads
                  go_wp2_with fail
                  refine hK.out _ _ ?_ (fun hHeld => ?_)
                  · (refine hAll.out _ ?_; repeat (first | exact KW.refl _ _ | (refine KW.grown ?_ (by assumption)) | (refine KW.step ?_ (by assumption)) | (with_reducible refine KW.alloc ?_ _) | (with_reducible refine KW.drew ?_)))
                  clear hK K
                  try simp only [Act.put, List.setIfInBounds_toArray, List.set_cons_zero, List.set_cons_succ]
                  refine wpAnyH_ready (rs := [15]) (by kernel_rfl) (by simp) ?_
                  refine AllReadyH.cons (o := ⟨some 44, _, _, _, _, _⟩) rfl (fun K hK => ?_) ?_
                  · go_simp
                    go_at_call 41
                    refine (hPl.out _).mono ?_
                    rintro e w2 ⟨Bk, rfl, p1, p2, p3, p4⟩
                    go_wp2_with fail
                    refine hK.out _ _ ?_ (fun hHeld => ?_)
                    · (refine hAll.out _ ?_; repeat (first | exact KW.refl _ _ | (refine KW.grown ?_ (by assumption)) | (refine KW.step ?_ (by assumption)) | (with_reducible refine KW.alloc ?_ _) | (with_reducible refine KW.drew ?_)))
                    clear hK K
                    try simp only [Act.put, List.setIfInBounds_toArray, List.set_cons_zero, List.set_cons_succ]
                    refine wpAnyH_ready (rs := [16]) (by kernel_rfl) (by simp) ?_
                    refine AllReadyH.cons (o := ⟨some 45, _, _, _, _, _⟩) rfl (fun K hK => ?_) ?_
                    · go_simp
                      go_at_call 39
                      refine (hJ.out A1 k1 _ Bk _ (by repeat (first | assumption | exact Below.refl _ _ | (refine bStep ?_ (by assumption)) | (with_reducible refine bAlc ?_ _) | (with_reducible refine bDrw ?_))) (rdl_to hd1 (by repeat (first | assumption | exact Below.refl _ _ | (refine bStep ?_ (by assumption)) | (with_reducible refine bAlc ?_ _) | (with_reducible refine bDrw ?_)))) (rdl_lay _ _ (by repeat (first | assumption | exact Below.refl _ _ | (refine bStep ?_ (by assumption)) | (with_reducible refine bAlc ?_ _) | (with_reducible refine bDrw ?_)))) (cell_later (by repeat (first | assumption | exact Below.refl _ _ | (refine bStep ?_ (by assumption)) | (with_reducible refine bAlc ?_ _) | (with_reducible refine bDrw ?_))) p1) (bk_lt p3 (by repeat (first | assumption | exact Below.refl _ _ | (refine bStep ?_ (by assumption)) | (with_reducible refine bAlc ?_ _) | (with_reducible refine bDrw ?_))))).mono ?_
                      rintro e w3 ⟨rfl, hM3, hg3⟩
                      go_wp2_with fail
                      refine hK.out _ _ ?_ (fun hHeld => ?_)
                      · (refine hAll.out _ ?_; repeat (first | exact KW.refl _ _ | (refine KW.grown ?_ (by assumption)) | (refine KW.step ?_ (by assumption)) | (with_reducible refine KW.alloc ?_ _) | (with_reducible refine KW.drew ?_)))
                      clear hK K
                      try simp only [Act.put, List.setIfInBounds_toArray, List.set_cons_zero, List.set_cons_succ]
                      refine wpAnyH_take (i := 17) (oi := ⟨some 46, _, _, _, _, _⟩) (v := ?vf22) rfl (by kernel_rfl) (by kernel_rfl) (by kernel_rfl) (fun _ _ _ h => h) (Or.inl ⟨by rfl, ?hyf22⟩) (by assumption) ?restf22
                      case hyf22 => (intro w hSw; (try dsimp only at hSw); go_simp <;> with_reducible rfl)
                      try simp only [Act.put, List.setIfInBounds_toArray, List.set_cons_zero, List.set_cons_succ]
                      refine wpAnyH_take (i := 18) (oi := ⟨some 47, _, _, _, _, _⟩) (v := ?vf23) rfl (by kernel_rfl) (by kernel_rfl) (by kernel_rfl) (fun _ _ _ h => h) (Or.inl ⟨by rfl, ?hyf23⟩) (by assumption) ?restf23
                      case hyf23 => (intro w hSw; (try dsimp only at hSw); go_simp <;> with_reducible rfl)
                      try simp only [Act.put, List.setIfInBounds_toArray, List.set_cons_zero, List.set_cons_succ]
                      refine wpAnyH_take (i := 19) (oi := ⟨some 48, _, _, _, _, _⟩) (v := ?vf24) rfl (by kernel_rfl) (by kernel_rfl) (by kernel_rfl) (fun _ _ _ h => h) (Or.inl ⟨by rfl, ?hyf24⟩) (by assumption) ?restf24
                      case hyf24 => (intro w hSw; (try dsimp only at hSw); go_simp <;> with_reducible rfl)
                      try simp only [Act.put, List.setIfInBounds_toArray, List.set_cons_zero, List.set_cons_succ]
                      refine wpAnyH_take (i := 20) (oi := ⟨some 5, _, _, _, _, _⟩) (v := ?vf25) rfl (by kernel_rfl) (by kernel_rfl) (by kernel_rfl) (fun _ _ _ h => h) (Or.inl ⟨by rfl, ?hyf25⟩) (by assumption) ?restf25
                      case hyf25 => (intro w hSw; (try dsimp only at hSw); go_simp <;> with_reducible rfl)
                      try simp only [Act.put, List.setIfInBounds_toArray, List.set_cons_zero, List.set_cons_succ]
                      refine wpAnyH_done (by kernel_rfl) ?_ _
                      go_wp2_with fail
                      go_roundg (g.prods.length - (j + 1))
                      case measure => have := hj.out; omega
                      case rel => exact ⟨j + 1, ss', gr, by go_num, rfl, Lib.hid (by have := hj.out; omega), hlen', hfit', hsnd', by have h9 := hput2.out _ _ (by repeat (first | exact KW.refl _ _ | (refine KW.grown ?_ (by assumption)) | (refine KW.step ?_ (by assumption)) | (with_reducible refine KW.alloc ?_ _) | (with_reducible refine KW.drew ?_))) hM3; rw [(hEndF.out hgn).1] at h9; exact h9, hGK.out _ (by repeat (first | exact KW.refl _ _ | (refine KW.grown ?_ (by assumption)) | (refine KW.step ?_ (by assumption)) | (with_reducible refine KW.alloc ?_ _) | (with_reducible refine KW.drew ?_))), Lib.hid (hEndF.out hgn).2⟩
                    exact AllReadyH.nil
                  exact AllReadyH.nil
                exact AllReadyH.nil
              exact AllReadyH.nil
          · have hje : j = g.prods.length := by have := hj.out; omega
            subst hje
            cases gr with
            | false =>
              have hgr2 := hgr.out
              simp only [Bool.false_eq_true, if_false] at hgr2
              obtain ⟨hse, hcl⟩ := hgr2
              subst hse
              have hclo : Hid (ClosedF g.prods k ss') := Lib.hid fun p hp y hy => hcl p (by rw [List.take_length]; exact hp) y hy
              replace hcl := Lib.hid hcl
              go_wp2_with fail
              go_ret
              have hb9 := hbo'.out
              exact hP.out bo ss' _ (hS.mono (by omega)) hlen'.out (by omega) hfit'.out hsnd'.out hclo.out hG.2.2
            | true =>
              have hgr2 := hgr.out
              simp only [if_true] at hgr2
              have htl := tot_le ss' (fun s hs => fit_len (hS.nodup s hs) (hfit'.out s hs))
              have hlt9 := Lib.hid (And.intro hgr2 (And.intro (show tot ss' ≤ i * 4681 by rw [← hlen'.out]; exact htl) hgk.out))
              clear hgr2 htl
              go_wp2_with fail
              go_roundg (i * 4681 - tot ss')
              case measure => have := hlt9.out; omega
              case rel => exact ⟨ss', Lib.hid (by have := hlt9.out; omega), hlen', hfit', hsnd', hS, hG⟩
end Go.Proofs.Ytnnkfgekiaaehaa

/- FOLLOW as a predicate; its laws. -/
namespace Go.Proofs.Ytnnkfgekiaaehaa
set_option linter.unusedVariables false

/-- what may follow a nonterminal -/
inductive FO (ps : List Pr) (k : Nat) (start : Int) : Int → Lk → Prop
  | start : FO ps k start start (Lk.of [])
  | use {p : Pr} {d : Nat} {s : Int} {x y : Lk} : p ∈ ps → p.right[d]? = some s → 16 ≤ s → FL ps k (p.right.drop (d + 1)) x → FO ps k start p.left y → FO ps k start s (lplus k x y)
/-- what is behind a place -/
def BH (ps : List Pr) (k : Nat) (start : Int) (p : Pr) (d : Nat) (z : Lk) : Prop := ∃ x y, FL ps k (p.right.drop d) x ∧ FO ps k start p.left y ∧ z = lplus k x y

/-- one unfolding -/
theorem fo_iff (ps : List Pr) (k : Nat) (start s : Int) (hs : 16 ≤ s) (z : Lk) :
    FO ps k start s z ↔ (s = start ∧ z = Lk.of []) ∨ ∃ p ∈ ps, ∃ d, p.right[d]? = some s ∧ BH ps k start p (d + 1) z := by
  constructor
  · intro h
    cases h with
    | start => exact .inl ⟨rfl, rfl⟩
    | @use p d s x y hp hd h16 hx hy => exact .inr ⟨p, hp, d, hd, x, y, hx, hy, rfl⟩
  · rintro (⟨rfl, rfl⟩ | ⟨p, hp, d, hd, x, y, hx, hy, rfl⟩)
    · exact .start
    · exact .use hp hd hs hx hy

/-- terminals below m, nonterminals from 16 -/
def PsOk (ps : List Pr) (m : Int) : Prop := ∀ p ∈ ps, ∀ s ∈ p.right, s < 16 → 0 ≤ s ∧ s < m
theorem fl_right {ps : List Pr} {k : Nat} {m : Int} (hk1 : 1 ≤ k) (hk : k ≤ 4) (hm : 1 ≤ m ∧ m ≤ 8) (hps : PsOk ps m) {l : List Int} {x : Lk} (h : FL ps k l x) : (∀ s ∈ l, s < 16 → 0 ≤ s ∧ s < m) → x.right m ∧ x.l.length ≤ k := by
  induction h with
  | nil => intro _; exact ⟨nil_right m hm, by rw [l_of _ (by simp)]; simp⟩
  | @term l x s hx hs ih =>
    intro hl
    have h1 := ih fun z hz => hl z (List.mem_append_left _ hz)
    have h2 := hl s (by simp) hs
    exact ⟨lplus_right hk h1.1 (of_right hm (by simp) (by simpa using h2)), by rw [lplus_l hk, List.length_take]; omega⟩
  | @non l x p y hx hp h16 hy ih1 ih2 =>
    intro hl
    have h1 := ih1 fun z hz => hl z (List.mem_append_left _ hz)
    have h2 := ih2 (hps p hp)
    exact ⟨lplus_right hk h1.1 h2.1, by rw [lplus_l hk, List.length_take]; omega⟩
theorem fo_right {ps : List Pr} {k : Nat} {m start : Int} (hk1 : 1 ≤ k) (hk : k ≤ 4) (hm : 1 ≤ m ∧ m ≤ 8) (hps : PsOk ps m) {s : Int} {x : Lk} (h : FO ps k start s x) : x.right m ∧ x.l.length ≤ k := by
  induction h with
  | start => exact ⟨nil_right m hm, by rw [l_of _ (by simp)]; simp⟩
  | @use p d s x y hp hd h16 hx hy ih =>
    have h1 := fl_right hk1 hk hm hps hx fun z hz => hps p hp z (List.mem_of_mem_drop hz)
    exact ⟨lplus_right hk h1.1 ih.1, by rw [lplus_l hk, List.length_take]; omega⟩

/-- fewer productions, no look more -/
theorem fl_mono {ps qs : List Pr} {k : Nat} (hsub : ∀ p ∈ ps, p ∈ qs) {l : List Int} {x : Lk} (h : FL ps k l x) : FL qs k l x := by
  induction h with
  | nil => exact .nil
  | term _ hs ih => exact .term ih hs
  | non _ hp h16 _ ih1 ih2 => exact .non ih1 (hsub _ hp) h16 ih2
theorem fo_mono {ps qs : List Pr} {k : Nat} {start s : Int} (hsub : ∀ p ∈ ps, p ∈ qs) {x : Lk} (h : FO ps k start s x) : FO qs k start s x := by
  induction h with
  | start => exact .start
  | use hp hd h16 hx _ ih => exact .use (hsub _ hp) hd h16 (fl_mono hsub hx) ih

/-- a look cut to j -/
def lkcut (j : Nat) (x : Lk) : Lk := lplus j x (Lk.of [])
theorem lkcut_l {j : Nat} (hj : j ≤ 4) (x : Lk) : (lkcut j x).l = x.l.take j := by
  unfold lkcut; rw [lplus_l hj, l_of _ (by simp), List.append_nil]
theorem lkcut_eq (j : Nat) (x : Lk) : lkcut j x = Lk.of (x.l.take j) := by
  unfold lkcut lplus; rw [l_of _ (by simp), List.append_nil]
theorem lkcut_nil (j : Nat) : lkcut j (Lk.of []) = Lk.of [] := by rw [lkcut_eq, l_of _ (by simp)]; simp
theorem take_cut (j k : Nat) (hjk : j ≤ k) (a b : List Int) : ((a ++ b).take k).take j = (a.take j ++ b.take j).take j := by
  rw [List.take_take, Nat.min_eq_left hjk, List.take_append, List.take_append]
  congr 1
  · rw [List.take_take, Nat.min_self]
  · rw [List.take_take, List.length_take]
    congr 1
    omega
theorem lkcut_plus {j k : Nat} (hjk : j ≤ k) (hk : k ≤ 4) (x y : Lk) : lkcut j (lplus k x y) = lplus j (lkcut j x) (lkcut j y) := by
  rw [lkcut_eq, lplus_l hk]
  unfold lplus
  rw [lkcut_l (by omega), lkcut_l (by omega), take_cut j k hjk]
theorem lkcut_term {j : Nat} (hj1 : 1 ≤ j) (s : Int) : lkcut j (Lk.of [s]) = Lk.of [s] := by
  rw [lkcut_eq, l_of _ (by simp), List.take_of_length_le (by simpa using hj1)]
theorem fl_cut {ps : List Pr} {j k : Nat} (hj1 : 1 ≤ j) (hjk : j ≤ k) (hk : k ≤ 4) {l : List Int} {x : Lk} (h : FL ps k l x) : FL ps j l (lkcut j x) := by
  induction h with
  | nil => rw [lkcut_nil]; exact .nil
  | term _ hs ih => rw [lkcut_plus hjk hk, lkcut_term hj1]; exact .term ih hs
  | non _ hp h16 _ ih1 ih2 => rw [lkcut_plus hjk hk]; exact .non ih1 hp h16 ih2
theorem fl_grow {ps : List Pr} {j k : Nat} (hj1 : 1 ≤ j) (hjk : j ≤ k) (hk : k ≤ 4) {l : List Int} {x : Lk} (h : FL ps j l x) : ∃ y, FL ps k l y ∧ lkcut j y = x := by
  induction h with
  | nil => exact ⟨_, .nil, lkcut_nil j⟩
  | @term l x s _ hs ih =>
    obtain ⟨y, hy, rfl⟩ := ih
    exact ⟨_, .term hy hs, by rw [lkcut_plus hjk hk, lkcut_term hj1]⟩
  | non _ hp h16 _ ih1 ih2 =>
    obtain ⟨y, hy, rfl⟩ := ih1
    obtain ⟨z, hz, rfl⟩ := ih2
    exact ⟨_, .non hy hp h16 hz, lkcut_plus hjk hk _ _⟩
theorem fo_cut {ps : List Pr} {j k : Nat} {start s : Int} (hj1 : 1 ≤ j) (hjk : j ≤ k) (hk : k ≤ 4) {x : Lk} (h : FO ps k start s x) : FO ps j start s (lkcut j x) := by
  induction h with
  | start => rw [lkcut_nil]; exact .start
  | use hp hd h16 hx _ ih => rw [lkcut_plus hjk hk]; exact .use hp hd h16 (fl_cut hj1 hjk hk hx) ih
theorem fo_grow {ps : List Pr} {j k : Nat} {start s : Int} (hj1 : 1 ≤ j) (hjk : j ≤ k) (hk : k ≤ 4) {x : Lk} (h : FO ps j start s x) : ∃ y, FO ps k start s y ∧ lkcut j y = x := by
  induction h with
  | start => exact ⟨_, .start, lkcut_nil j⟩
  | use hp hd h16 hx _ ih =>
    obtain ⟨y, hy, rfl⟩ := ih
    obtain ⟨z, hz, rfl⟩ := fl_grow hj1 hjk hk hx
    exact ⟨_, .use hp hd h16 hz hy, lkcut_plus hjk hk _ _⟩
/-- FOLLOW for a lesser lookahead: the looks cut -/
theorem fo_less {ps : List Pr} {j k : Nat} {start s : Int} (hj1 : 1 ≤ j) (hjk : j ≤ k) (hk : k ≤ 4) (x : Lk) : FO ps j start s x ↔ ∃ y, FO ps k start s y ∧ lkcut j y = x :=
  ⟨fo_grow hj1 hjk hk, fun ⟨_, hy, e⟩ => e ▸ fo_cut hj1 hjk hk hy⟩

/-- every look in the sets is a FOLLOW -/
def SoundO (ps : List Pr) (k : Nat) (start : Int) (fs : List (List Lk)) : Prop := ∀ (i : Nat) (y : Lk), y ∈ fs.getD i [] → FO ps k start (16 + (i : Int)) y
/-- what a use of s in p with d adds -/
def usesL (k : Nat) (ss fs : List (List Lk)) (p : Pr) (d : Nat) : List Lk := sumsJ k (tailL k ss (p.right.drop (d + 1))) (lset (fs.getD (p.left - 16).toNat []))
def ClosedO (ps : List Pr) (k : Nat) (start : Int) (ss fs : List (List Lk)) : Prop :=
  Lk.of [] ∈ fs.getD (start - 16).toNat [] ∧ ∀ p ∈ ps, ∀ (d : Nat) (s : Int), p.right[d]? = some s → 16 ≤ s → ∀ z ∈ usesL k ss fs p d, z ∈ fs.getD (s - 16).toNat []
theorem follow_iff {ps : List Pr} {k n : Nat} {start : Int} (hk : 1 ≤ k) (hk4 : k ≤ 4) {ss fs : List (List Lk)} (hf : SetsFit k ss) (hff : SetsFit k fs) (hss : SoundF ps k ss) (hsc : ClosedF ps k ss) (hps : ∀ p ∈ ps, 16 ≤ p.left ∧ ∀ s ∈ p.right, SymOk n s)
    (hs : SoundO ps k start fs) (hc : ClosedO ps k start ss fs) (s : Int) (h16 : 16 ≤ s) (y : Lk) : y ∈ fs.getD (s - 16).toNat [] ↔ FO ps k start s y := by
  constructor
  · intro h
    have := hs _ y h
    rwa [show (16 : Int) + ((s - 16).toNat : Int) = s by omega] at this
  · intro h
    induction h with
    | start => exact hc.1
    | @use p d s x y hp hd h16' hx hy ih =>
      refine hc.2 p hp d s hd h16 _ ?_
      refine (sums_mem k _ _ _).2 ⟨x, ?_, y, ?_, rfl⟩
      · exact (first_iff hk hk4 hf hss hsc (fun p hp => (hps p hp).2) _ (fun z hz => (hps p hp).2 z (List.mem_of_mem_drop hz)) x).2 hx
      · exact (lset_mem (k := 8) (fun z hz => (setsFit_get hff _ z hz).1) y).2 (ih (hps p hp).1)
end Go.Proofs.Ytnnkfgekiaaehaa

/- One round of all, plainly. -/
namespace Go.Proofs.Ytnnkfgekiaaehaa
set_option linter.unusedVariables false

theorem fo_symok {n : Nat} {s : Int} (h : SymOk n s) : s < 16 → 0 ≤ s ∧ s < 8 := by unfold SymOk at h; omega
theorem setO_sound {ps : List Pr} {k : Nat} {start : Int} {ss : List (List Lk)} (h : SoundO ps k start ss) (i : Nat) (hi : i < ss.length) {c : List Lk} (hc : ∀ y ∈ c, FO ps k start (16 + (i : Int)) y) : SoundO ps k start (ss.set i c) := by
  intro j y hy
  rw [getD_set ss i j c hi] at hy
  split at hy
  · rename_i e; subst e; exact hc y hy
  · exact h j y hy
/-- what one use adds -/
def newO (k : Nat) (ss fs : List (List Lk)) (p : Pr) (d : Nat) (s : Int) : List Lk := addAll (fs.getD (s - 16).toNat []) (usesL k ss fs p d)
structure RoundO (ps : List Pr) (k : Nat) (start : Int) (ss fs : List (List Lk)) (p : Pr) (d : Nat) (s : Int) : Prop where
  fit : SetsFit k (fs.set (s - 16).toNat (newO k ss fs p d s))
  sound : SoundO ps k start (fs.set (s - 16).toNat (newO k ss fs p d s))
  begin_ : Lk.of [] ∈ (fs.set (s - 16).toNat (newO k ss fs p d s)).getD (start - 16).toNat []
  grow : (fs.getD (s - 16).toNat []).length ≤ (newO k ss fs p d s).length
  same : (newO k ss fs p d s).length = (fs.getD (s - 16).toNat []).length → fs.set (s - 16).toNat (newO k ss fs p d s) = fs ∧ ∀ y ∈ usesL k ss fs p d, y ∈ fs.getD (s - 16).toNat []
  tot : Ytnnkfgekiaaehaa.tot (fs.set (s - 16).toNat (newO k ss fs p d s)) + (fs.getD (s - 16).toNat []).length = Ytnnkfgekiaaehaa.tot fs + (newO k ss fs p d s).length
theorem round_follow {ps : List Pr} {k n : Nat} {start : Int} (hk : 1 ≤ k) (hk4 : k ≤ 4) {ss fs : List (List Lk)} (hn : fs.length = n) (hf : SetsFit k ss) (hff : SetsFit k fs) (hss : SoundF ps k ss) (hs : SoundO ps k start fs) (hst : Lk.of [] ∈ fs.getD (start - 16).toNat [])
    {p : Pr} (hp : p ∈ ps) {d : Nat} {s : Int} (hd : p.right[d]? = some s) (hpl : 16 ≤ p.left) (h16 : 16 ≤ s) (hsn : s < 16 + (n : Int)) (hok : ∀ s ∈ p.right, SymOk n s) : RoundO ps k start ss fs p d s := by
  have hi : (s - 16).toNat < fs.length := by omega
  have hdr : ∀ z ∈ p.right.drop (d + 1), SymOk n z := fun z hz => hok z (List.mem_of_mem_drop hz)
  have hT := tail_fit hk hk4 hf _ hdr
  have hTs := tail_sound hk hk4 hf hss _ hdr
  have hlf := setsFit_get hff (p.left - 16).toNat
  have hL := lset_fit hlf
  have hU : ∀ z ∈ usesL k ss fs p d, Fit k z := sums_fit hk4 hT hL
  refine ⟨set_fit hff _ (all_fit (setsFit_get hff _) hU), setO_sound hs _ hi fun y hy => ?_, ?_, addAll_len _ _, fun h => ?_, tot_set fs _ _ hi⟩
  · rcases (addAll_mem _ _ y).1 hy with h | h
    · exact hs _ y h
    · obtain ⟨x, hx, z, hz, rfl⟩ := (sums_mem k _ _ y).1 h
      have hz2 := hs _ z ((lset_mem (k := 8) (fun z hz => (hlf z hz).1) z).1 hz)
      rw [show (16 : Int) + ((p.left - 16).toNat : Int) = p.left by omega] at hz2
      rw [show (16 : Int) + ((s - 16).toNat : Int) = s by omega]
      exact .use hp hd h16 (hTs x hx) hz2
  · rw [getD_set fs _ _ _ hi]
    split
    · rename_i e; unfold newO; rw [addAll_mem, e]; exact .inl hst
    · exact hst
  · obtain ⟨h1, h2⟩ := addAll_same _ _ h
    have e : newO k ss fs p d s = fs.getD (s - 16).toNat [] := h1
    rw [e]
    exact ⟨set_same fs _ hi, fun y hy => h2 y hy⟩
end Go.Proofs.Ytnnkfgekiaaehaa

/- follow.uses: the places behind whose dot a wanted symbol stands. -/
namespace Go.Proofs.Ytnnkfgekiaaehaa
open Go.RowKit Go.Shelf
set_option linter.unusedVariables false
attribute [local go_sem] Oper.semAt_some

/-- the symbols of a right side from d on, with their places -/
def rowU (k d : Nat) : List Int → List (Nat × Nat × Int)
  | [] => []
  | s :: l => (k, d, s) :: rowU k (d + 1) l
/-- the symbols of productions from number k on -/
def prsU (k : Nat) : List PV → List (Nat × Nat × Int)
  | [] => []
  | p :: ps => rowU k 0 p.p.right ++ prsU (k + 1) ps
def usF (q : Int → Bool) (l : List (Nat × Nat × Int)) : List (Nat × Nat × Int) := l.filter fun u => q u.2.2
def usAll (q : Int → Bool) (vs : List PV) : List (Nat × Nat × Int) := usF q (prsU 0 vs)
theorem rowU_drop (k : Nat) (l : List Int) (d : Nat) (h : d < l.length) : rowU k d (l.drop d) = (k, d, l[d]) :: rowU k (d + 1) (l.drop (d + 1)) := by
  rw [List.drop_eq_getElem_cons h]; rfl
theorem prsU_drop (vs : List PV) (k : Nat) (h : k < vs.length) : prsU k (vs.drop k) = rowU k 0 vs[k].p.right ++ prsU (k + 1) (vs.drop (k + 1)) := by
  rw [List.drop_eq_getElem_cons h]; rfl
theorem rowU_mem {k : Nat} : ∀ {l : List Int} {d : Nat} {u : Nat × Nat × Int}, u ∈ rowU k d l ↔ u.1 = k ∧ d ≤ u.2.1 ∧ l[u.2.1 - d]? = some u.2.2
  | [], d, u => by simp [rowU]
  | s :: l, d, u => by
    rw [rowU, List.mem_cons, rowU_mem]
    obtain ⟨a, b, c⟩ := u
    constructor
    · rintro (h | ⟨h1, h2, h3⟩)
      · injection h with h1 h2; injection h2 with h2 h3; subst h1; subst h2; subst h3; simp
      · refine ⟨h1, by simp at *; omega, ?_⟩
        simp only at *
        rw [show b - d = (b - (d + 1)) + 1 by omega]
        simpa using h3
    · rintro ⟨h1, h2, h3⟩
      simp only at *
      by_cases e : b = d
      · left; subst e; simp at h3; rw [h1, h3]
      · right
        refine ⟨h1, by omega, ?_⟩
        rw [show b - d = (b - (d + 1)) + 1 by omega] at h3
        simpa using h3
theorem prsU_mem : ∀ {vs : List PV} {k : Nat} {u : Nat × Nat × Int}, u ∈ prsU k vs ↔ ∃ x, k ≤ u.1 ∧ vs[u.1 - k]? = some x ∧ x.p.right[u.2.1]? = some u.2.2
  | [], k, u => by simp [prsU]
  | p :: vs, k, u => by
    rw [prsU, List.mem_append, rowU_mem, prsU_mem]
    obtain ⟨a, b, c⟩ := u
    constructor
    · rintro (⟨h1, h2, h3⟩ | ⟨x, h1, h2, h3⟩)
      · simp only at *; subst h1; exact ⟨p, by omega, by simp, by simpa using h3⟩
      · simp only at *
        refine ⟨x, by omega, ?_, h3⟩
        rw [show a - k = (a - (k + 1)) + 1 by omega]; simpa using h2
    · rintro ⟨x, h1, h2, h3⟩
      simp only at *
      by_cases e : a = k
      · left; subst e; simp at h2; subst h2; exact ⟨rfl, by omega, by simpa using h3⟩
      · right
        refine ⟨x, by omega, ?_, h3⟩
        rw [show a - k = (a - (k + 1)) + 1 by omega] at h2; simpa using h2
/-- a use -/
def UseT (q : Int → Bool) (vs : List PV) : Type := { u : Nat × Nat × Int // u ∈ usAll q vs }
def encU {q : Int → Bool} {vs : List PV} (x : UseT q vs) : Array Value := #[.agg #[.int .i64 (x.1.1 : Int), .int .i64 (x.1.2.1 : Int)], .int .i64 x.1.2.2]

def mkUse {q : Int → Bool} {vs : List PV} (u : Nat × Nat × Int) (h : u ∈ usAll q vs) : UseT q vs := ⟨u, h⟩
/-- what the closure reads -/
def USt (n₀ B1 B2 : Nat) (A : Option Addr) (len cap : Nat) (vs : List PV) (fv : Value) (W : World) : Prop :=
  W.cell? ⟨B1, 5, none⟩ = some (.slice A len cap) ∧ W.cell? ⟨B2, 0, none⟩ = some fv ∧ RdV W n₀ A len vs ∧ (∀ x ∈ vs, PVok W n₀ x) ∧ n₀ ≤ W.heap.size
theorem USt.step {n₀ B1 B2 : Nat} {A : Option Addr} {len cap : Nat} {vs : List PV} {fv : Value} {W W' : World} (h : USt n₀ B1 B2 A len cap vs fv W) (hb : Below W.heap.size W W') : USt n₀ B1 B2 A len cap vs fv W' :=
  ⟨cell_later hb h.1, cell_later hb h.2.1, h.2.2.1.below (hb.mono h.2.2.2.2), fun x hx => (h.2.2.2.1 x hx).below (hb.mono h.2.2.2.2), Nat.le_trans h.2.2.2.2 hb.size⟩

set_option maxRecDepth 100000 in
set_option maxHeartbeats 4000000 in
theorem uses1_in (q : Int → Bool) (fg : Nat) (fb : Array Value) (Kp : World → World → Prop) (E : World → Prop) (n : Nat) (hn : 1 ≤ n) (l B1 B2 n₀ : Nat) (A : Option Addr) (len cap : Nat) (vs : List PV) (hlen : len ≤ 1000000) (hrl : ∀ x ∈ vs, x.p.right.length ≤ 1000000)
    (hKS : ∀ X Y, Kp X Y → USt n₀ B1 B2 A len cap vs (.func (.func fg) #[] fb) X → USt n₀ B1 B2 A len cap vs (.func (.func fg) #[] fb) Y) (hKE : ∀ X Y, Kp X Y → E X → E Y) (hEb : ∀ X Y, Below X.heap.size X Y → E X → E Y) (hKz : ∀ X Y, Kp X Y → X.heap.size ≤ Y.heap.size)
    (eg : ∀ args w, (callFunc fg args).run Try.prog w = .ok (.enter fg args) w)
    (hF : ∀ s W, E W → CallsIn Fence.wide (n - 1) Try.prog fg (#[.int .i64 s] ++ fb) W fun e W' => e = .returned (.bool (q s)) ∧ W = W')
    (J Jx : List (UseT q vs) → World → Prop)
    (hY : ∀ pre x W, J pre W → pre.length < (usAll q vs).length → YieldAt Fence.wide (n - 1) Try.prog l (encU x) W fun e W' =>
      (e = .returned (.bool true) ∧ J (pre ++ [x]) W' ∧ Kp W W') ∨ (e = .returned (.bool false) ∧ Jx (pre ++ [x]) W'))
    (W : World) (hJ : AbidesFrom W.heap.size J) (hSt : USt n₀ B1 B2 A len cap vs (.func (.func fg) #[] fb) W) (hE : E W) (h0 : J [] W) :
    CallsIn Fence.wide n Try.prog 61 #[.func (.yield l) #[] #[], .pointer (some ⟨B1, 0, none⟩), .pointer (some ⟨B2, 0, none⟩)] W fun e W' => (∃ v, e = .returned v) ∧
      ((∃ ys : List (UseT q vs), ys.map (·.1) = usAll q vs ∧ J ys W') ∨ (∃ pre : List (UseT q vs), (∃ rest, usAll q vs = pre.map (·.1) ++ rest) ∧ Jx pre W')) := by
  have hvl : vs.length = len := hSt.2.2.1.1
  have hJ' := Lib.hid hJ
  have hrl' := Lib.hid hrl
  have c5 := hSt.1
  clear hrl hJ
  refine callsIn_of_wp Try.func61 rfl trivial ?_ rfl
  simp only [Try.ntmps61, List.size_toArray, List.length_cons, List.length_nil, Nat.reduceAdd, Nat.reduceSub, Array.replicate_succ, Array.replicate_zero, List.push_toArray, List.append_toArray, List.nil_append, List.cons_append]
  gi_wp2
  gi_loopw [11] (fun i wr => ∃ (k : Nat) (done : List (Nat × Nat × Int)) (pre : List (UseT q vs)), k ≤ len ∧ i = .int .i64 k ∧ Hid (prsU 0 vs = done ++ prsU k (vs.drop k)) ∧ Hid (pre.map (·.1) = usF q done) ∧ J pre wr ∧ USt n₀ B1 B2 A len cap vs (.func (.func fg) #[] fb) wr ∧ E wr ∧ W.heap.size ≤ wr.heap.size)
    (fun i _ => len - (intOf i).toNat)
  case atStart => exact ⟨0, [], [], Nat.zero_le _, rfl, Lib.hid (by simp), Lib.hid (by simp [usF]), h0, hSt, hE, Nat.le_refl _⟩
  case round =>
    clear hSt hE h0
    obtain ⟨k, done, pre, hk, rfl, hdn, hpre, hJs, hSt, hE, hge⟩ := hrel
    by_cases hlt : k < len
    · have hkl : k < vs.length := by omega
      rcases hSt.2.2.1.2 with hz | ⟨b, off, rfl, hb, hcs⟩
      · omega
      obtain ⟨x0, x1⟩ := hcs k vs[k] (List.getElem?_eq_getElem hkl)
      have hpd := Lib.hid (prsU_drop vs k hkl)
      have hxm : vs[k] ∈ vs := List.getElem_mem hkl
      have hxr := hrl'.out _ hxm
      generalize vs[k] = x at *
      obtain ⟨⟨pl, pr⟩, ra, rc⟩ := x
      dsimp only at x0 x1 hpd hxr
      clear hcs
      have hbl : Below wr.heap.size wr (wr.alloc (.cells #[.int .i64 pl, .slice ra pr.length rc] 59)) := bAlc (Below.refl _ _) _
      have hJ1 := hJ'.out _ _ _ none hJs (World.grownBy_alloc wr (.cells #[.int .i64 pl, .slice ra pr.length rc] 59) none) (by simp)
      have hSt1 := hSt.step hbl
      have hE1 := hEb _ _ hbl hE
      have hge1 : W.heap.size ≤ (wr.alloc (.cells #[.int .i64 pl, .slice ra pr.length rc] 59)).heap.size := Nat.le_trans hge hbl.size
      have hz1 : (0 : Int) ≤ k := by omega
      have hz2 : (k : Int) < len := by omega
      gi_wp2
      clear hJs hSt hE hge hbl x0 x1
      generalize wr.alloc (.cells #[.int .i64 pl, .slice ra pr.length rc] 59) = W1 at *
      gi_loopw [19] (fun i wr => ∃ (d : Nat) (done : List (Nat × Nat × Int)) (pre : List (UseT q vs)), d ≤ pr.length ∧ i = .int .i64 d ∧ Hid (prsU 0 vs = done ++ (rowU k d (pr.drop d) ++ prsU (k + 1) (vs.drop (k + 1)))) ∧ Hid (pre.map (·.1) = usF q done) ∧ J pre wr ∧ USt n₀ B1 B2 (some ⟨b, off, none⟩) len cap vs (.func (.func fg) #[] fb) wr ∧ E wr ∧ W.heap.size ≤ wr.heap.size)
        (fun i _ => pr.length - (intOf i).toNat)
      case atStart => exact ⟨0, done, pre, Nat.zero_le _, rfl, Lib.hid (by rw [hdn.out, hpd.out]; simp), hpre, hJ1, hSt1, hE1, hge1⟩
      case round =>
        clear hJ1 hSt1 hE1 hge1 hdn hpre
        obtain ⟨d, done, pre, hd, rfl, hdn, hpre, hJs, hSt, hE, hge⟩ := hrel
        by_cases hdt : d < pr.length
        · have hsi : (ints pr)[d]? = some (.int .i64 pr[d]) := by simp [ints, hdt]
          obtain ⟨rb, roff, hra, hrb, y0⟩ := (hSt.2.2.2.1 _ hxm).1.get hsi
          dsimp only at hra
          subst hra
          have hrd := Lib.hid (rowU_drop k pr d hdt)
          have hfc := hSt.2.1
          generalize hss : pr[d] = s at *
          replace hss := Lib.hid hss
          replace hsi := Lib.hid hsi
          replace hdn := Lib.hid (show prsU 0 vs = (done ++ [(k, d, s)]) ++ (rowU k (d + 1) (pr.drop (d + 1)) ++ prsU (k + 1) (vs.drop (k + 1))) by rw [hdn.out, hrd.out]; simp)
          have hz3 : (0 : Int) ≤ d := by omega
          have hz4 : (d : Int) < pr.length := by omega
          have hc := Lib.hid (hF s wr hE)
          cases hq : q s with
          | false =>
            have hpre2 : Hid (pre.map (·.1) = usF q (done ++ [(k, d, s)])) := Lib.hid (by rw [hpre.out]; unfold usF; rw [List.filter_append]; simp [hq])
            rw [hq] at hc
            replace hq := Lib.hid hq
            gi_wp2
            refine ⟨trivial, hc.out.mono ?_⟩
            rintro e w3 ⟨rfl, rfl⟩
            gi_wp2
            refine ⟨fun _ h => (by cases h), ?_⟩
            gi_wp2
            go_roundw
            case rel => exact ⟨d + 1, done ++ [(k, d, s)], pre, by omega, by simp, hdn, hpre2, hJs, hSt, hE, hge⟩
            case measure => simp [intOf]; omega
          | true =>
            have hpre2 : Hid (usF q (done ++ [(k, d, s)]) = usF q done ++ [(k, d, s)]) := Lib.hid (by unfold usF; rw [List.filter_append]; simp [hq])
            have hall : usAll q vs = usF q (done ++ [(k, d, s)]) ++ usF q (rowU k (d + 1) (pr.drop (d + 1)) ++ prsU (k + 1) (vs.drop (k + 1))) := by
              unfold usAll; rw [hdn.out]; unfold usF; rw [List.filter_append]
            have hmem : (k, d, s) ∈ usAll q vs := by rw [hall, hpre2.out]; simp
            have hlen2 : pre.length < (usAll q vs).length := by
              have := congrArg List.length hpre.out
              rw [hall, hpre2.out]; simp at this ⊢; omega
            obtain ⟨fn, tmps, assign, body, hy, hR2⟩ := hY pre (mkUse (k, d, s) hmem) wr hJs hlen2
            dsimp only [encU, mkUse] at hy
            have hpre3 : Hid ((pre ++ [mkUse (k, d, s) hmem]).map (·.1) = usF q (done ++ [(k, d, s)])) := Lib.hid (by rw [List.map_append, hpre.out, hpre2.out]; rfl)
            replace hall := Lib.hid hall
            rw [hq] at hc
            replace hq := Lib.hid hq
            gi_wp2
            refine ⟨trivial, hc.out.mono ?_⟩
            rintro e w3 ⟨rfl, rfl⟩
            gi_wp2
            refine hR2.mono ?_
            rintro e W3 (⟨rfl, hJ3, hk3⟩ | ⟨rfl, hJx3⟩)
            · gi_wp2
              go_roundw
              case rel => exact ⟨d + 1, done ++ [(k, d, s)], _, by omega, by simp, hdn, hpre3, hJ3, hKS _ _ hk3 hSt, hKE _ _ hk3 hE, Nat.le_trans hge (hKz _ _ hk3)⟩
              case measure => simp [intOf]; omega
            · gi_wp2
              refine bodyPost_ret (results_none rfl _ _ _) rfl ?_
              exact ⟨⟨_, rfl⟩, .inr ⟨_, ⟨_, by rw [hpre3.out]; exact hall.out⟩, hJx3⟩⟩
        · have hdn2 : Hid (prsU 0 vs = done ++ prsU (k + 1) (vs.drop (k + 1))) := Lib.hid (by
            rw [hdn.out, List.drop_eq_nil_of_le (by omega)]; rfl)
          gi_wp2
          go_roundw
          case rel => exact ⟨k + 1, done, pre, by omega, by simp, hdn2, hpre, hJs, hSt, hE, hge⟩
          case measure => simp [intOf]; omega
    · have hend : pre.map (·.1) = usAll q vs := by
        rw [hpre.out]; unfold usAll; rw [hdn.out, List.drop_eq_nil_of_le (by omega)]
        show usF q done = usF q (done ++ [])
        rw [List.append_nil]
      replace hend := Lib.hid hend
      gi_wp2
      go_end0
      exact ⟨⟨_, rfl⟩, .inl ⟨_, hend.out, hJs⟩⟩

theorem uses_stops (q : Int → Bool) (fg : Nat) (fb : Array Value) (Kp : World → World → Prop) (E : World → Prop) (n : Nat) (hn : 1 ≤ n) (B1 B2 n₀ : Nat) (A : Option Addr) (len cap : Nat) (vs : List PV) (hlen : len ≤ 1000000) (hrl : ∀ x ∈ vs, x.p.right.length ≤ 1000000) (w : World)
    (hKS : ∀ X Y, Kp X Y → USt n₀ B1 B2 A len cap vs (.func (.func fg) #[] fb) X → USt n₀ B1 B2 A len cap vs (.func (.func fg) #[] fb) Y) (hKE : ∀ X Y, Kp X Y → E X → E Y) (hEb : ∀ X Y, Below X.heap.size X Y → E X → E Y) (hKz : ∀ X Y, Kp X Y → X.heap.size ≤ Y.heap.size)
    (eg : ∀ args w, (callFunc fg args).run Try.prog w = .ok (.enter fg args) w)
    (hF : ∀ s W, E W → CallsIn Fence.wide (n - 1) Try.prog fg (#[.int .i64 s] ++ fb) W fun e W' => e = .returned (.bool (q s)) ∧ W = W')
    (hSt : USt n₀ B1 B2 A len cap vs (.func (.func fg) #[] fb) w) (hE : E w) :
    SeqStopsK Fence.wide n Try.prog 61 #[.pointer (some ⟨B1, 0, none⟩), .pointer (some ⟨B2, 0, none⟩)] encU Kp (fun ys : List (UseT q vs) => ys.map (·.1) = usAll q vs) (fun pre => ∃ rest, usAll q vs = pre.map (·.1) ++ rest) (usAll q vs).length w :=
  fun l J Jx W hW hJ _ hY h0 =>
    uses1_in q fg fb Kp E n hn l B1 B2 n₀ A len cap vs hlen hrl hKS hKE hEb hKz eg hF J Jx hY W hJ (hSt.step hW) (hEb _ _ hW hE) h0

theorem isnont_any (s : Int) (w : World) : Calls Try.prog 44 #[.int .i64 s] w fun e w' => e = .returned (.bool (decide (16 ≤ s))) ∧ w = w' := by
  go_enter Try.func44, Try.ntmps44
  go_wp2_with fail
  go_ret
  exact ⟨rfl, rfl⟩

/-- what uses hands back -/
def RetU (w : World) (g : Gr) (a : GA) (fv : Value) (e : Ending) (w' : World) : Prop :=
  e = .returned (.func (.func 61) #[] #[.pointer (some ⟨w.heap.size, 0, none⟩), .pointer (some ⟨w.heap.size + 1, 0, none⟩)]) ∧ w' = (w.alloc (.cells (gcells g a) 26)).alloc (.cells #[fv] 78)
theorem mkuses_any (g : Gr) (a : GA) (fg : Nat) (fb : Array Value) (w : World) : Calls Try.prog 36 #[gval g a, .func (.func fg) #[] fb] w (RetU w g a (.func (.func fg) #[] fb)) := by
  have hP := Lib.hid (show RetU w g a (.func (.func fg) #[] fb) (.returned (.func (.func 61) #[] #[.pointer (some ⟨w.heap.size, 0, none⟩), .pointer (some ⟨w.heap.size + 1, 0, none⟩)])) ((w.alloc (.cells (gcells g a) 26)).alloc (.cells #[.func (.func fg) #[] fb] 78)) from ⟨rfl, rfl⟩)
  unfold gval gcells at *
  go_enter Try.func36, Try.ntmps36
  go_wp2_with fail
  go_ret
  exact hP.out
end Go.Proofs.Ytnnkfgekiaaehaa

/- A drawn region that calls and lays blocks, inside a round of a range over a function. -/
namespace Go
section
variable {P : Program} {ops : Array Oper} {md : Region.Mode} {n l : Nat}

/-- a post that lets nothing but the ordinary end pass -/
def OnlyN (R : Act → World → Prop) : Exit → Act → World → Prop := fun e a w => e = .normal ∧ R a w
theorem not_letsOut (R : Act → World → Prop) : ¬ LetsOut (OnlyN R) := fun ⟨_, _, h, _⟩ => by cases h

theorem rowsIn_of_rows {row : String} {args : Array Value} {w : World} {R : Value → World → Prop} (h : Rows P row args w R) : RowsIn (Fence.wide.inRound l) n P row args w R :=
  fun c cs _ => let ⟨v, w', r, s⟩ := h c cs; ⟨v, w', r, stepsIn_wide.2 s⟩

theorem Oper.wpIn_of_wpR {o : Oper} {a : Act} {w : World} {K : Act → World → Prop} {R : Act → World → Prop} (hd : ∀ c, o.op ≠ .defer c) (h : o.wp P a w K (OnlyN R)) :
    o.wpIn (Fence.wide.inRound l) n P a w K (OnlyN R) := by
  unfold Oper.wp at h
  unfold Oper.wpIn
  refine ⟨fun _ _ => trivial, ?_⟩
  rw [Fence.inRound_round, Oper.semAt_some l _ _ hd]
  generalize (execOp a.eval o).run P w = r at *
  cases r with
  | ok x w' =>
    cases x <;> simp only [Oper.upon] at h <;> simp only [Oper.uponIn]
    case value v => exact h
    case skip => exact h
    case defer d => exact h
    case enter f args =>
      refine ⟨fun h0 => absurd h0 (by simp [Fence.wide]), CallsIn.inRound l (callsIn_wide.2 (h.mono fun e w'' he => ?_))⟩
      cases e with
      | returned v => exact he
      | panicked c => exact he
      | outgrown => exact he
    case row row args => exact ⟨fun h0 => absurd h0 (by simp [Fence.wide]), rowsIn_of_rows h⟩
  | halt x w' =>
    cases x <;> simp only [Oper.upon] at h <;> simp only [Oper.uponIn] <;> exact h

theorem wpOpIn_of_wpOpR {i : Nat} {a : Act} {w : World} {K K' : Act → World → Prop} {R : Act → World → Prop} (hnd : noDefer ops = true) (hK : ∀ a w, K a w → K' a w) (h : wpOp P ops (OnlyN R) i K a w) :
    wpOpIn (Fence.wide.inRound l) n P ops (OnlyN R) i K' a w := by
  unfold wpOp at h
  unfold wpOpIn
  split
  · rename_i ho; simp only [ho] at h; exact hK _ _ h
  · rename_i o ho
    simp only [ho] at h
    split
    · rename_i hw
      simp only [hw, if_true] at h
      rcases h with h | h
      · exact Oper.wpIn_mono (fun a w h => hK a w h) (Oper.wpIn_of_wpR (noDefer_spec hnd i o ho) h)
      · exact absurd h.2 (not_letsOut R)
    · rename_i hw
      simp only [hw] at h
      exact ⟨fun _ _ => trivial, hK _ _ h⟩

theorem wpAnyIn_of_wpAnyR {R : Act → World → Prop} (hnd : noDefer ops = true) : ∀ (fuel : Nat) (listed : Array Bool) (a : Act) (w : World),
    wpAny P md ops (OnlyN R) fuel listed a w → wpAnyIn (Fence.wide.inRound l) n P md ops (OnlyN R) fuel listed a w
  | 0, _, _, _, h => h
  | fuel + 1, _, _, _, h => ⟨h.1, fun i hi => wpOpIn_of_wpOpR hnd (fun a' w' h' => wpAnyIn_of_wpAnyR hnd fuel _ a' w' h') (h.2 i hi)⟩

theorem wpIn_region_held_drewR {id : Nat} {a : Act} {w : World} {S : World → Prop} {Q : Exit → Act → World → Prop} (hnd : noDefer ops = true) (hm : P.follows .mixedOrders = true) (hS : S w.drew)
    (h : S w.drew → wpAnyH P .any ops (OnlyN (Q .normal)) S ops.size (Array.replicate ops.size false) a w.drew) : (Code.region id ops true).wpIn (Fence.wide.inRound l) n P Q a w :=
  wpIn_mono (wpIn_region_any hm (wpAnyIn_of_wpAnyR hnd _ _ _ _ (wpAny_of_held _ _ _ _ (h hS)))) (fun e a w h => by obtain ⟨rfl, h⟩ := h; exact h)
end

end Go

/- follow.all: what stands in memory; the marks of the loops. -/
namespace Go.Proofs.Ytnnkfgekiaaehaa
open Go.RowKit Go.Shelf
set_option linter.unusedVariables false

/-- the marks that loops over a function leave -/
def marks (Ds : List Nat) : List Deferred := Ds.map fun D => { target := .collected D, args := #[] }
def MarksOk (W : World) (lo : Nat) (Ds : List Nat) : Prop := Ds.Nodup ∧ ∀ D ∈ Ds, lo ≤ D ∧ W.heap[D]? = some (.deferred (some []))
theorem leaves_marks {P : Program} {F : Fence} {n : Nat} {fn : Func} {tmps : Array Value} {R : Ending → World → Prop} : ∀ (Ds : List Nat) (W : World) (lo : Nat), MarksOk W lo Ds →
    (∀ W', Below lo W W' → (∀ j, j ∉ Ds → W'.heap[j]? = W.heap[j]?) → LeavesIn F n P fn tmps R [] .returning W') → LeavesInM F n P fn tmps R (marks Ds) .returning W
  | [], W, lo, _, h => h W (Below.refl _ _) (fun _ _ => rfl)
  | D :: Ds, W, lo, hm, h => by
    have hnd := List.nodup_cons.1 hm.1
    have hD := hm.2 D List.mem_cons_self
    refine ⟨by simp, .inl ⟨_, _, rfl, run_takeDeferred hD.2, ?_⟩⟩
    have hb : Below lo W (W.putObj D (.deferred none)) := ⟨rfl, rfl, rfl, by simp, fun k hk => World.putObj_heap_other (by omega)⟩
    refine leaves_marks Ds _ lo ⟨hnd.2, fun D' h' => ?_⟩ fun W' hb' hj => h W' (hb.trans hb') fun j hjd => ?_
    · have := hm.2 D' (List.mem_cons_of_mem _ h')
      exact ⟨this.1, (World.putObj_heap_other (fun e => hnd.1 (by subst e; exact h'))).trans this.2⟩
    · exact (hj j (fun h => hjd (List.mem_cons_of_mem _ h))).trans (World.putObj_heap_other (fun e => hjd (by subst e; exact List.mem_cons_self)))

/-- sets in maps that are named -/
def SetsM (W : World) (bo n : Nat) (mbs : List Nat) (ss : List (List Lk)) : Prop :=
  ∃ cs : Array Value, Blk W bo 67 cs ∧ cs.size = n ∧ mbs.length = ss.length ∧ ∀ (i m : Nat) (s : List Lk), mbs[i]? = some m → ss[i]? = some s → cs[i]? = some (.map (some m)) ∧ MapK lookKey W m s
theorem SetsO.toM {W : World} {base bo n : Nat} {ss : List (List Lk)} (h : SetsO W base bo n ss) : ∃ mbs, SetsM W bo n mbs ss ∧ mbs.Nodup ∧ ∀ m ∈ mbs, base ≤ m ∧ m < W.heap.size := by
  obtain ⟨cs, mbs, h1, h2, h3, h4, h5, h6⟩ := h
  exact ⟨mbs, ⟨cs, h1, h2, h3, h6⟩, h4, h5⟩
theorem SetsM.toO {W : World} {base bo n : Nat} {mbs : List Nat} {ss : List (List Lk)} (h : SetsM W bo n mbs ss) (h4 : mbs.Nodup) (h5 : ∀ m ∈ mbs, base ≤ m ∧ m < W.heap.size) : SetsO W base bo n ss := by
  obtain ⟨cs, h1, h2, h3, h6⟩ := h
  exact ⟨cs, mbs, h1, h2, h3, h4, h5, h6⟩
theorem SetsM.grown {W W' : World} {bo n : Nat} {mbs : List Nat} {ss : List (List Lk)} (h : SetsM W bo n mbs ss) {row : Option Nat} (hg : W.grownBy W' row) (h1 : row ≠ some bo) (h2 : ∀ m ∈ mbs, row ≠ some m) : SetsM W' bo n mbs ss := by
  obtain ⟨cs, a, b, c, d⟩ := h
  exact ⟨cs, a.grown hg (Ne.symm h1), b, c, fun i m s e f => ⟨(d i m s e f).1, (d i m s e f).2.grown hg (Ne.symm (h2 m (List.mem_of_getElem? e)))⟩⟩
theorem SetsM.step {W W' : World} {bo n : Nat} {mbs : List Nat} {ss : List (List Lk)} (h : SetsM W bo n mbs ss) (hb : Below W.heap.size W W') : SetsM W' bo n mbs ss := by
  obtain ⟨cs, a, b, c, d⟩ := h
  exact ⟨cs, a.step hb, b, c, fun i m s e f => ⟨(d i m s e f).1, (d i m s e f).2.step hb⟩⟩
theorem SetsM.get {W : World} {bo n : Nat} {mbs : List Nat} {ss : List (List Lk)} (h : SetsM W bo n mbs ss) {i : Nat} (hi : i < ss.length) : ∃ m, mbs[i]? = some m ∧ W.cell? ⟨bo, i, none⟩ = some (.map (some m)) ∧ MapK lookKey W m (ss.getD i []) ∧ m ≠ bo := by
  obtain ⟨cs, a, b, c, d⟩ := h
  have him : i < mbs.length := by omega
  obtain ⟨e, f⟩ := d i mbs[i] ss[i] (List.getElem?_eq_getElem him) (List.getElem?_eq_getElem hi)
  exact ⟨mbs[i], List.getElem?_eq_getElem him, by rw [a.cell]; exact e, by simpa [List.getD_eq_getElem?_getD, hi] using f, mapk_blk f a⟩
theorem SetsM.nodups {W : World} {bo n : Nat} {mbs : List Nat} {ss : List (List Lk)} (h : SetsM W bo n mbs ss) : ∀ s ∈ ss, s.Nodup := by
  obtain ⟨cs, a, b, c, d⟩ := h
  intro s hs
  obtain ⟨i, hi, rfl⟩ := List.getElem_of_mem hs
  have him : i < mbs.length := by omega
  obtain ⟨_, es, clock, _, _, _, _, hn, _⟩ := d i mbs[i] ss[i] (List.getElem?_eq_getElem him) (List.getElem?_eq_getElem hi)
  exact hn
theorem SetsM.put {W W' : World} {bo n : Nat} {mbs : List Nat} {ss : List (List Lk)} (h : SetsM W bo n mbs ss) (hnd : mbs.Nodup) {i m : Nat} {c : List Lk} (hi : i < ss.length) (hm : mbs[i]? = some m)
    (hg : ∀ b, b < W.heap.size → b ≠ m → (b = bo ∨ b ∈ mbs) → W'.heap[b]? = W.heap[b]?) (hM : MapK lookKey W' m c) : SetsM W' bo n mbs (ss.set i c) := by
  obtain ⟨cs, a, b, e, d⟩ := h
  have him : i < mbs.length := by omega
  have hmv : mbs[i] = m := by rw [List.getElem?_eq_getElem him] at hm; injection hm
  have hmbo : m ≠ bo := by
    have := (d i mbs[i] ss[i] (List.getElem?_eq_getElem him) (List.getElem?_eq_getElem hi)).2
    rw [hmv] at this
    exact mapk_blk this a
  refine ⟨cs, (hg bo a.lt (Ne.symm hmbo) (.inl rfl)).trans a, b, by simpa using e, ?_⟩
  intro j m' s hmj hsj
  by_cases hij : i = j
  · subst hij
    rw [hm] at hmj
    injection hmj with hmj
    subst hmj
    rw [List.getElem?_set_self hi] at hsj
    injection hsj with hsj
    subst hsj
    exact ⟨(d i m ss[i] hm (List.getElem?_eq_getElem hi)).1, hM⟩
  · rw [List.getElem?_set_ne hij] at hsj
    obtain ⟨a2, es, clock, b2, b3⟩ := d j m' s hmj hsj
    refine ⟨a2, es, clock, (hg m' (Array.getElem?_eq_some_iff.1 b2).1 ?_ (.inr (List.mem_of_getElem? hmj))).trans b2, b3⟩
    rintro rfl
    have hjm := (List.getElem?_eq_some_iff.1 hmj).1
    have e2 : mbs[j] = m' := by rw [List.getElem?_eq_getElem hjm] at hmj; injection hmj
    exact hij ((List.getElem_inj hnd).1 (by rw [e2, hmv]))
theorem SetsM.reads {W : World} {bo n : Nat} {mbs : List Nat} {ss : List (List Lk)} (h : SetsM W bo n mbs ss) (hn : ss.length = n) : SetsR W W.heap.size (some ⟨bo, 0, none⟩) n ss := by
  obtain ⟨cs, a, b, c, d⟩ := h
  refine ⟨hn, .inr ⟨bo, 0, rfl, a.lt, fun i s hs => ?_⟩⟩
  have hi := (List.getElem?_eq_some_iff.1 hs).1
  have him : i < mbs.length := by omega
  obtain ⟨e, f⟩ := d i mbs[i] s (List.getElem?_eq_getElem him) hs
  exact ⟨mbs[i], f.lt, by rw [Nat.zero_add, a.cell]; exact e, f⟩
theorem SetsM.marks {W W' : World} {bo n lo : Nat} {mbs Ds : List Nat} {ss : List (List Lk)} (h : SetsM W bo n mbs ss) (hm : MarksOk W lo Ds) (hj : ∀ j, j ∉ Ds → W'.heap[j]? = W.heap[j]?) : SetsM W' bo n mbs ss := by
  obtain ⟨cs, a, b, c, d⟩ := h
  refine ⟨cs, (hj bo fun hb => ?_).trans a, b, c, fun i m s e f => ?_⟩
  · have := (hm.2 bo hb).2
    unfold Blk at a
    rw [a] at this; cases this
  · obtain ⟨a2, es, clock, b2, b3⟩ := d i m s e f
    refine ⟨a2, es, clock, (hj m fun hb => ?_).trans b2, b3⟩
    have := (hm.2 m hb).2
    rw [b2] at this; cases this
theorem SetsR.mono {W : World} {B B' : Nat} {A : Option Addr} {n : Nat} {ss : List (List Lk)} (h : SetsR W B A n ss) (hb : B ≤ B') : SetsR W B' A n ss := by
  refine ⟨h.1, ?_⟩
  rcases h.2 with h0 | ⟨b, off, rfl, hlt, hc⟩
  · exact .inl h0
  · refine .inr ⟨b, off, rfl, by omega, fun i s hs => ?_⟩
    obtain ⟨mb, h1, h2⟩ := hc i s hs
    exact ⟨mb, by omega, h2⟩

theorem GB.low {w : World} {g : Gr} {a : GA} {W W' : World} {lo : Nat} (h : GB w g a W) (hlo : w.heap.size < lo) (hb : Below lo W W') : GB w g a W' :=
  ⟨h.1.below hb hlo, h.2.1.below (hb.mono (by omega)), h.2.2.trans (hb.mono (by omega))⟩
/-- what all has laid, and what lies below it -/
def AF (w : World) (g : Gr) (a : GA) (n bo fo : Nat) (ss : List (List Lk)) (W : World) : Prop :=
  GB w g a W ∧ Blk W (w.heap.size + 1) 63 #[.slice (some ⟨fo, 0, none⟩) n n] ∧ Blk W (w.heap.size + 2) 63 #[.slice (some ⟨bo, 0, none⟩) n n] ∧ SetsR W fo (some ⟨bo, 0, none⟩) n ss ∧ w.heap.size + 2 < fo ∧ fo ≤ W.heap.size
theorem AF.low {w : World} {g : Gr} {a : GA} {n bo fo : Nat} {ss : List (List Lk)} {W W' : World} (h : AF w g a n bo fo ss W) (hb : Below fo W W') : AF w g a n bo fo ss W' := by
  obtain ⟨h1, h2, h3, h4, h5, h6⟩ := h
  exact ⟨h1.low (by omega) hb, h2.below hb (by omega), h3.below hb (by omega), h4.below hb, h5, Nat.le_trans h6 hb.size⟩
theorem AF.step {w : World} {g : Gr} {a : GA} {n bo fo : Nat} {ss : List (List Lk)} {W W' : World} (h : AF w g a n bo fo ss W) (hb : Below W.heap.size W W') : AF w g a n bo fo ss W' := h.low (hb.mono h.2.2.2.2.2)
theorem below_of_grown {X Y : World} {row : Option Nat} {lo : Nat} (hg : X.grownBy Y row) (hr : ∀ r, row = some r → lo ≤ r) (hlo : lo ≤ X.heap.size) : Below lo X Y :=
  ⟨hg.os, hg.tape, hg.output, hg.size, fun k hk => hg.block k (by omega) (fun e => by have := hr k e.symm; omega)⟩

/-- the world W, but for the map mb and the block b5, and what was made since -/
structure KX (W : World) (mb b5 : Nat) (w' : World) : Prop where
  os : w'.os = W.os
  tape : w'.tape = W.tape
  output : w'.output = W.output
  size : W.heap.size ≤ w'.heap.size
  block : ∀ i, i < W.heap.size → i ≠ mb → i ≠ b5 → w'.heap[i]? = W.heap[i]?
theorem KX.refl (W : World) (mb b5 : Nat) : KX W mb b5 W := ⟨rfl, rfl, rfl, Nat.le_refl _, fun _ _ _ _ => rfl⟩
theorem KX.drew {W w1 : World} {mb b5 : Nat} (h : KX W mb b5 w1) : KX W mb b5 w1.drew := ⟨h.os, h.tape, h.output, h.size, h.block⟩
theorem KX.step {W w1 w2 : World} {mb b5 : Nat} (h : KX W mb b5 w1) (hb : Below w1.heap.size w1 w2) : KX W mb b5 w2 :=
  ⟨hb.os.trans h.os, hb.tape.trans h.tape, hb.output.trans h.output, Nat.le_trans h.size hb.size, fun i h1 h2 h3 => (hb.block i (Nat.lt_of_lt_of_le h1 h.size)).trans (h.block i h1 h2 h3)⟩
theorem KX.alloc {W w1 : World} {mb b5 : Nat} (h : KX W mb b5 w1) (o : Obj) : KX W mb b5 (w1.alloc o) := h.step (bAlc (Below.refl _ _) _)
theorem KX.grown {W w1 w2 : World} {mb b5 : Nat} (h : KX W mb b5 w1) (hg : w1.grownBy w2 (some mb)) : KX W mb b5 w2 :=
  ⟨hg.os.trans h.os, hg.tape.trans h.tape, hg.output.trans h.output, Nat.le_trans h.size hg.size, fun i h1 h2 h3 => (hg.block i (Nat.lt_of_lt_of_le h1 h.size) (fun e => h2 (by injection e))).trans (h.block i h1 h2 h3)⟩
theorem KX.put {W w1 : World} {mb b5 : Nat} (h : KX W mb b5 w1) (i : Nat) (v : Value) : KX W mb b5 (w1.setCell ⟨b5, i, none⟩ v) :=
  ⟨h.os, h.tape, h.output, Nat.le_trans h.size (by simp), fun j h1 h2 h3 => (Below.heap_setCell w1 ⟨b5, i, none⟩ v j h3).trans (h.block j h1 h2 h3)⟩
theorem KX.low {W w1 : World} {mb b5 lo : Nat} (h : KX W mb b5 w1) (h1 : lo ≤ mb) (h2 : lo ≤ b5) (h3 : lo ≤ W.heap.size) : Below lo W w1 := ⟨h.os, h.tape, h.output, h.size, fun k hk => h.block k (by omega) (by omega) (by omega)⟩
theorem KX.keeps {W w1 : World} {mb b5 B : Nat} (h : KX W mb b5 w1) (h1 : mb < B) (h2 : b5 < B) : KeepsFrom B W w1 := ⟨h.size, fun k o hB hk _ => (h.block k (Array.getElem?_eq_some_iff.1 hk).1 (by omega) (by omega)).trans hk⟩
theorem KX.cell {W w1 : World} {mb b5 : Nat} (h : KX W mb b5 w1) {b o : Nat} {v : Value} (hc : W.cell? ⟨b, o, none⟩ = some v) (h1 : b ≠ mb) (h2 : b ≠ b5) : w1.cell? ⟨b, o, none⟩ = some v :=
  (World.cell?_of_block (a := ⟨b, o, none⟩) (h.block b (block_lt_of_cell hc) h1 h2)).trans hc
theorem KX.blk {W w1 : World} {mb b5 : Nat} (h : KX W mb b5 w1) {b : Nat} {t : TypeId} {cs : Array Value} (hc : Blk W b t cs) (h1 : b ≠ mb) (h2 : b ≠ b5) : Blk w1 b t cs := (h.block b hc.lt h1 h2).trans hc
theorem cell_not_map {W : World} {b o mb : Nat} {v : Value} {s : List Lk} (hc : W.cell? ⟨b, o, none⟩ = some v) (hm : MapK lookKey W mb s) : b ≠ mb := by
  rintro rfl
  obtain ⟨es, clock, hb, _⟩ := hm
  simp [World.cell?, hb] at hc

/-- what the rounds keep between two worlds -/
def KpU (lo B1 B2 : Nat) (X Y : World) : Prop := Below lo X Y ∧ Y.heap[B1]? = X.heap[B1]? ∧ Y.heap[B2]? = X.heap[B2]?
theorem KpU.trans {lo B1 B2 : Nat} {X Y Z : World} (h : KpU lo B1 B2 X Y) (k : KpU lo B1 B2 Y Z) : KpU lo B1 B2 X Z := ⟨h.1.trans k.1, k.2.1.trans h.2.1, k.2.2.trans h.2.2⟩
theorem KpU.put {lo B1 B2 B : Nat} (W : World) (l : Nat) (o' : Obj) (hl : B ≤ l) (h0 : lo ≤ B) (h1 : B1 < B) (h2 : B2 < B) : KpU lo B1 B2 W (W.putObj l o') :=
  ⟨⟨rfl, rfl, rfl, by simp, fun k hk => World.putObj_heap_other (by omega)⟩, World.putObj_heap_other (by omega), World.putObj_heap_other (by omega)⟩
theorem USt.kept {n₀ B1 B2 : Nat} {A : Option Addr} {len cap : Nat} {vs : List PV} {fv : Value} {W W' : World} (h : USt n₀ B1 B2 A len cap vs fv W) (hb : KpU n₀ B1 B2 W W') : USt n₀ B1 B2 A len cap vs fv W' :=
  ⟨(World.cell?_of_block (a := ⟨B1, 5, none⟩) hb.2.1).trans h.1, (World.cell?_of_block (a := ⟨B2, 0, none⟩) hb.2.2).trans h.2.1, h.2.2.1.below hb.1, fun x hx => (h.2.2.2.1 x hx).below hb.1, Nat.le_trans h.2.2.2.2 hb.1.size⟩
end Go.Proofs.Ytnnkfgekiaaehaa
