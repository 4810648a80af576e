/- Walks and plain laws, part 5 of 10: follow.begins; The reference 16: of; The reference 15: of; The reference 16: firsts; The reference 15: sets; follow.uses: the places behind whose dot a wanted symbol stands; A drawn region that calls and lays blocks, inside a round of a range over a function. Conditions: none beyond those that each theorem states. -/
import Derived.Test.YtnnkfgekiaaehaaGreatC4
import Derived.Deep.RegionHeld3
import Derived.Deep.OwnRows
import Derived.WalkMore
import Derived.Deep.DeepCutAuto
/- follow.begins. -/
namespace Go.Proofs.YtnnkfgekiaaehaaGreat
open Go.ChangeShapes Go.WideShapes Go.ChangeAt Go.RowKit
set_option linter.unusedVariables false
theorem GOk.sym {g : Gr} {k : Nat} (h : GOk g k) {p : Pr} (hp : p ∈ g.prods) : ∀ s ∈ p.right, SymOk g.names.length s := fun s hs => by
  have := (h.pr p hp).2.2 s hs
  have := h.tk
  unfold SymOk; omega
def RetF (g : Gr) (k : Nat) (w : World) (e : Ending) (w' : World) : Prop :=
  ∃ b ss, e = .returned (.slice (some ⟨b, 0, none⟩) g.names.length g.names.length) ∧ SetsO w' w.heap.size b g.names.length ss ∧ ss.length = g.names.length ∧ w.heap.size ≤ b ∧ SetsFit k ss ∧ SoundF g.prods k ss ∧ ClosedF g.prods k ss ∧ Below w.heap.size w w'
theorem under63 : Tryz.prog.underlying 65 = some (.slice 69) := by kernel_rfl
theorem info67 : (Tryz.prog.info? 69).map (fun i => (i.zero, i.size, i.bytes)) = some (some (.map none), 1, 8) := by kernel_rfl
theorem SetsO.blk {W : World} {base bo n : Nat} {ss : List (List Lk)} (h : SetsO W base bo n ss) {i : Nat} (hi : i < n) : (∃ v, W.cell? ⟨bo, i, none⟩ = some v) ∧ W.frozen? ⟨bo, i, none⟩ = false ∧ bo < W.heap.size := by
  obtain ⟨cs, mbs, h1, h2, h3, h4, h5, h6⟩ := h
  refine ⟨⟨cs[i]'(by omega), ?_⟩, h1.frozen i, h1.lt⟩
  rw [h1.cell]; simp [h2, hi]
theorem SetsO.mono {W : World} {base b' bo n : Nat} {ss : List (List Lk)} (h : SetsO W base bo n ss) (hb : b' ≤ base) : SetsO W b' bo n ss := by
  obtain ⟨cs, mbs, h1, h2, h3, h4, h5, h6⟩ := h
  exact ⟨cs, mbs, h1, h2, h3, h4, fun m hm => ⟨by have := (h5 m hm).1; omega, (h5 m hm).2⟩, h6⟩
theorem SetsO.start {W : World} {base bo n : Nat} {cs : Array Value} (h : Blk W bo 69 cs) (hn : cs.size = n) : SetsO W base bo n [] :=
  ⟨cs, [], h, hn, rfl, List.nodup_nil, by simp, by simp⟩
theorem rdl_to {w1 W : World} {A : Option Addr} {n : Nat} {l : List Lk} (h : RdL w1 w1.heap.size A n l) (hb : Below w1.heap.size w1 W) : RdL W W.heap.size A n l := (h.below hb).mono hb.size
theorem rdl_lay (X W : World) (hb : Below (X.alloc (.cells #[.int .i64 0, .int .i64 0, .int .i64 0, .int .i64 0, .int .i64 0] 41)).heap.size (X.alloc (.cells #[.int .i64 0, .int .i64 0, .int .i64 0, .int .i64 0, .int .i64 0] 41)) W) :
    RdL W W.heap.size (some ⟨X.heap.size, 0, none⟩) 1 [Lk.of []] :=
  rdl_to ((rdL_one (x := Lk.of []) (Blk.new X 41 _)).mono (by simp)) hb
theorem bk_lt {Bk : Nat} {w2 W : World} (h : Bk < w2.heap.size) (hb : Below w2.heap.size w2 W) : Bk < W.heap.size := Nat.lt_of_lt_of_le h hb.size
def KW (W : World) (mb : Nat) (w' : World) : Prop := W.grownBy w' (some mb)
theorem KW.refl (W : World) (mb : Nat) : KW W mb W := ⟨rfl, rfl, rfl, Nat.le_refl _, fun _ _ _ => rfl⟩
theorem KW.drew {W w1 : World} {mb : Nat} (h : KW W mb w1) : KW W mb w1.drew := ⟨h.os, h.tape, h.output, h.size, h.block⟩
theorem KW.grown {W w1 w2 : World} {mb : Nat} (h : KW W mb w1) (hg : w1.grownBy w2 (some mb)) : KW W mb w2 := World.grownBy.andThen h hg (fun j hj => .inr hj)
theorem KW.step {W w1 w2 : World} {mb : Nat} (h : KW W mb w1) (hb : Below w1.heap.size w1 w2) : KW W mb w2 := World.grownBy.andThen h (grown_of_below hb) (fun j hj => by cases hj)
theorem KW.alloc {W w1 : World} {mb : Nat} (h : KW W mb w1) (o : Obj) : KW W mb (w1.alloc o) := h.step (bAlc (Below.refl _ _) _)
set_option maxRecDepth 100000 in
set_option maxHeartbeats 4000000 in
theorem begins_any (g : Gr) (a : GA) (k : Nat) (hok : GOk g k) (w : World) (hg : GrAt w w.heap.size g a) : Calls Tryz.prog 68 #[gval g a] w (RetF g k w) := by
  have hP := Lib.hid (fun (b : Nat) (ss : List (List Lk)) (w' : World) (h1 : SetsO w' w.heap.size b g.names.length ss) (h2 : ss.length = g.names.length) (h3 : w.heap.size ≤ b) (h4 : SetsFit k ss) (h5 : SoundF g.prods k ss) (h6 : ClosedF g.prods k ss) (h7 : Below w.heap.size w w') =>
    (show RetF g k w (.returned (.slice (some ⟨b, 0, none⟩) g.names.length g.names.length)) w' from ⟨b, ss, rfl, h1, h2, h3, h4, h5, h6, h7⟩))
  obtain ⟨ta, tc, na, nc, pa, pc⟩ := a
  have hok' := Lib.hid hok
  have hG0 := GB.start hg
  have hPl := Lib.hid (fun (w : World) => show Calls Tryz.prog 38 #[.int .i64 g.k] w (RetP w k) by rw [hok.hk]; exact mkplus_any k w)
  have hk := hok.k1
  have hk4 := hok.k4
  have hn8 := hok.nm
  have hp24 := hok.pl
  obtain ⟨i67, hi67, hq0, hq1, hq2⟩ := info_parts info67
  obtain ⟨n, hn⟩ : ∃ n, n = g.names.length := ⟨_, rfl⟩
  have hkk := Lib.hid hok.hk
  clear hg hok
  unfold gval at *
  unfold gcells at *
  dsimp only at *
  rw [← hn] at hn8
  have hz0 : (0 : Int) ≤ n := by omega
  replace hk := Lib.hid hk
  replace hk4 := Lib.hid hk4
  replace hp24 := Lib.hid hp24
  have hn8' := Lib.hid hn8
  clear hn8
  have hmm := @run_makeMap Tryz.prog
  rw [← hn] at hG0 hP ⊢
  replace hn := Lib.hid hn
  go_enter Tryz.func68, Tryz.ntmps68
  go_wp2_with fail
  go_step3
  go_upto_region 2 with (at_make; refine wpList_make_row _ rfl _ _ 65 rfl 69 i67 (.map none) under63 hi67 hq0 hq1 rfl _ _ n rfl rfl (by rw [hq2]; have := hn8'.out; omega) (by have := hn8'.out; omega) ?_)
  have q0 := Blk.newAt (w.alloc (.cells #[.int .i64 g.k, .slice ta g.toks.length tc, .string g.sep, .slice na n nc, .int .i64 g.start, .slice pa g.prods.length pc] 25)) 69 (madeCells #[.map none] n) (w.heap.size + 1) (by simp)
  have hS0 : SetsO _ (w.heap.size + 1) (w.heap.size + 1) n [] := SetsO.start q0 (by simp [madeCells])
  have hG1 := hG0.alloc (.cells (madeCells #[.map none] n) 69)
  clear q0 hG0
  generalize (w.alloc (.cells #[.int .i64 g.k, .slice ta g.toks.length tc, .string g.sep, .slice na n nc, .int .i64 g.start, .slice pa g.prods.length pc] 25)).alloc (.cells (madeCells #[.map none] n) 69) = W1 at *
  obtain ⟨bo, hbo⟩ : ∃ bo, bo = w.heap.size + 1 := ⟨_, rfl⟩
  rw [← hbo] at hS0 ⊢
  have hbo' := Lib.hid hbo
  clear hbo
  go_wp2_with fail
  go_loopg [14] n (fun gk s14 wr => ∃ i : Nat, s14 = .int .i64 i ∧ i + gk = n ∧ SetsO wr bo bo n (List.replicate i []) ∧ GB w g ⟨ta, tc, na, nc, pa, pc⟩ wr)
  case atStart => exact ⟨0, rfl, by omega, hS0, hG1⟩
  case round =>
    clear hS0 hG1
    obtain ⟨i, rfl, hi, hS, hG⟩ := hrel
    replace hi := Lib.hid hi
    by_cases hin : i < n
    · obtain ⟨⟨cv, hcv⟩, hfz, hlt⟩ := hS.blk hin
      have hfz' : (wr.alloc (.map #[] 0)).frozen? ⟨bo, i, none⟩ = false := by
        obtain ⟨cs, mbs, h1, _⟩ := hS
        exact (h1.alloc _).frozen i
      have hcv' : (wr.alloc (.map #[] 0)).cell? ⟨bo, i, none⟩ = some cv := cell_later (bAlc (Below.refl _ _) _) hcv
      have hzi : (0 : Int) ≤ i := by omega
      have hzn : (i : Int) < n := by omega
      have hn9 : n ≤ 8 := hn8'.out.2
      go_wp2_with fail
      go_roundg (n - (i + 1))
      case measure => have := hi.out; omega
      case rel =>
        rw [← World.setCell_alloc_past _ _ _ _ hlt]
        refine ⟨i + 1, by go_num, by have := hi.out; omega, ?_, (hG.alloc _).far _ _ (by have := hbo'.out; show w.heap.size < bo; omega)⟩
        have := hS.push (by simp; omega) (by omega)
        rwa [List.length_replicate, show List.replicate i ([] : List Lk) ++ [[]] = List.replicate (i + 1) [] by rw [List.replicate_succ']] at this
    · have hin' : i = n := by have := hi.out; omega
      subst hin'
      replace hi := Lib.hid hi
      have hfit0 : Hid (SetsFit k (List.replicate i ([] : List Lk))) := Lib.hid (by intro s hs x hx; rw [List.eq_of_mem_replicate hs] at hx; cases hx)
      have hsnd0 : Hid (SoundF g.prods k (List.replicate i ([] : List Lk))) := Lib.hid (by
        intro j y hy
        rw [List.getD_eq_getElem?_getD, List.getElem?_replicate] at hy
        split at hy <;> simp at hy)
      have hlen0 : (List.replicate i ([] : List Lk)).length = i := by simp
      have htot0 : tot (List.replicate i ([] : List Lk)) = 0 := by simp [tot]
      generalize List.replicate i ([] : List Lk) = ss0 at *
      replace hlen0 := Lib.hid hlen0
      replace htot0 := Lib.hid htot0
      go_wp2_with fail
      go_step3
      go_wp2_with fail
      go_loopg [5] (i * 4681) (fun gk s5 wr => ∃ ss : List (List Lk), Hid (tot ss + gk = i * 4681) ∧ Hid (ss.length = i) ∧ Hid (SetsFit k ss) ∧ Hid (SoundF g.prods k ss) ∧ SetsO wr bo bo i ss ∧ GB w g ⟨ta, tc, na, nc, pa, pc⟩ wr)
      case atStart => exact ⟨ss0, Lib.hid (by have := htot0.out; omega), hlen0, hfit0, hsnd0, hS, hG⟩
      case round =>
        clear hS hG htot0 hlen0 hfit0 hsnd0 ss0
        obtain ⟨ss, hgk, hlen, hfit, hsnd, hS, hG⟩ := hrel
        obtain ⟨c0, c1, c2, c3, c4, c5⟩ := hG.cells
        dsimp only at c1 c3 c5
        go_wp2_with fail
        clear c0 c1 c2 c3 c4 c5
        go_loopg [25, 5] g.prods.length (fun gk2 s25 s5 wr => ∃ (j : Nat) (ss' : List (List Lk)) (gr : Bool), s25 = .int .i64 j ∧ s5 = .bool gr ∧ Hid (j + gk2 = g.prods.length) ∧ Hid (ss'.length = i) ∧ Hid (SetsFit k ss') ∧ Hid (SoundF g.prods k ss') ∧ SetsO wr bo bo i ss' ∧ GB w g ⟨ta, tc, na, nc, pa, pc⟩ wr ∧
          Hid (if gr then tot ss < tot ss' else ss' = ss ∧ ∀ p ∈ g.prods.take j, ∀ y ∈ tailL k ss p.right, y ∈ ss.getD (p.left - 16).toNat []))
        case atStart => exact ⟨0, ss, false, rfl, rfl, Lib.hid (by omega), hlen, hfit, hsnd, hS, hG, Lib.hid (by simp)⟩
        case round =>
          clear hS hG hfit hsnd hlen
          obtain ⟨j, ss', gr, rfl, rfl, hj, hlen', hfit', hsnd', hS, hG, hgr⟩ := hrel
          obtain ⟨c0, c1, c2, c3, c4, c5⟩ := hG.cells
          dsimp only at c1 c3 c5
          by_cases hjn : j < g.prods.length
          · have hxi : g.prods[j]? = some g.prods[j] := List.getElem?_eq_getElem hjn
            obtain ⟨b, off, hA, hbt, x0, RA, rc, x1, hx2, hx3, hx4⟩ := hG.2.1.prods.get hxi
            dsimp only at hA
            subst hA
            have hmem := List.getElem_mem hjn
            have htk : g.prods.take (j + 1) = g.prods.take j ++ [g.prods[j]] := List.take_succ_eq_append_getElem hjn
            have hpr := hok'.out.pr _ hmem
            have hsy := hok'.out.sym hmem
            generalize g.prods[j] = p at *
            rw [← hn.out] at hpr hsy
            have hR := round_first hk.out hk4.out hlen'.out hfit'.out hsnd'.out hmem hpr.1 hsy
            have hTf := tail_fit hk.out hk4.out hfit'.out p.right hsy
            have hTl := fit_len (tail_nodup hk.out hk4.out hfit'.out p.right hsy) hTf
            have hpr2 : p.right.length ≤ 1000000 := by omega
            obtain ⟨ix, hix⟩ := Int.eq_ofNat_of_zero_le (show 0 ≤ p.left - 16 by omega)
            have hixn : (p.left - 16).toNat = ix := by omega
            have hixi : ix < i := by omega
            have hR1 := hR.fit
            have hR2 := hR.sound
            have hR3 := hR.grow
            have hR4 := hR.same
            have hR5 := hR.tot
            rw [hixn] at hR1 hR2 hR3 hR4 hR5
            have hJe : newS k ss' p = addAll (ss'.getD ix []) (sumsJ k (tailL k ss' p.right) [Lk.of []]) := by unfold newS; rw [hixn]
            generalize newS k ss' p = J at *
            replace hR1 := Lib.hid hR1
            replace hR2 := Lib.hid hR2
            replace hR3 := Lib.hid hR3
            replace hR4 := Lib.hid hR4
            replace hR5 := Lib.hid hR5
            clear hR
            have zw : IntKind.i64.wrap (ix : Int) = ix := IntWalk.i64_in _ (by have := hn8'.out; omega)
            have hzx : (0 : Int) ≤ ix := by omega
            have hzy : (ix : Int) < i := by omega
            have hzj : (0 : Int) ≤ j := by omega
            have hzk : (j : Int) < g.prods.length := by omega
            have hzl : g.prods.length ≤ 24 := hp24.out
            obtain ⟨mb, hm1, hm2, hm3, hm4, hput⟩ := hS.get ix (by rw [hlen'.out]; exact hixi)
            replace hxi := Lib.hid hxi
            replace htk := Lib.hid htk
            replace hmem := Lib.hid hmem
            replace hpr := Lib.hid hpr
            replace hsy := Lib.hid hsy
            replace hixn := Lib.hid hixn
            replace hm4 := Lib.hid hm4
            replace hput := Lib.hid hput
            have hSr := hS.reads hlen'.out
            have hNd := hS.nodup
            have hb0 : Below wr.heap.size wr (wr.alloc (.cells #[.int .i64 p.left, .slice RA p.right.length rc] 47)) := bAlc (Below.refl _ _) _
            have q7 := Blk.new wr 47 #[.int .i64 p.left, .slice RA p.right.length rc]
            have hG1 := hG.step hb0
            have hS1 := hS.step hb0
            have hx2' := hx2.below (hb0.mono hG.2.2.size)
            have hm5 := Lib.hid (hm4.out.step hb0)
            have hSr1 := (hSr.below hb0)
            have hlw := hG.lt
            have hszw := hb0.size
            have hm3' := cell_later hb0 hm3
            replace hSr1 := Lib.hid hSr1
            replace hNd := Lib.hid hNd
            replace hJe := Lib.hid hJe
            replace hTf := Lib.hid hTf
            replace hTl := Lib.hid hTl
            go_upto_region 11 with (fail)
            clear c0 c1 c2 c3 c4 c5 x0 x1 hx2 hS hG hSr hm3 hm4
            generalize wr.alloc (.cells #[.int .i64 p.left, .slice RA p.right.length rc] 47) = W at *
            generalize wr.heap.size = g7 at *
            have hput2 : ∀ W' (cur : List Lk), KW W mb W' → MapK lookKey W' mb cur → SetsO W' bo bo i (ss'.set ix cur) := by
              intro W' cur hg hm
              obtain ⟨m2, k1, k2, k3, k4, k5⟩ := hS1.get ix (by rw [hlen'.out]; exact hixi)
              rw [hm3'] at k3
              injection k3 with k3
              injection k3 with k3
              injection k3 with k3
              subst k3
              exact k5 W W' cur (Below.refl _ _) hg hm
            have hGK : ∀ W', KW W mb W' → GB w g ⟨ta, tc, na, nc, some ⟨b, off, none⟩, pc⟩ W' := fun W' hg => hG1.grown hg (fun j hj => by cases hj; have := hbo'.out; omega)
            obtain ⟨c0, c1, c2, c3, c4, c5⟩ := hG1.cells
            dsimp only at c1 c3 c5
            have p0 := q7.cell 0
            have p1 := q7.cell 1
            simp only [List.getElem?_toArray, List.getElem?_cons_zero, List.getElem?_cons_succ] at p0 p1
            have hAll : Hid (∀ w', KW W mb w' → w'.cell? ⟨w.heap.size, 0, none⟩ = some (.int .i64 g.k) ∧ w'.cell? ⟨w.heap.size, 1, none⟩ = some (.slice ta g.toks.length tc) ∧ w'.cell? ⟨w.heap.size, 2, none⟩ = some (.string g.sep) ∧ w'.cell? ⟨w.heap.size, 3, none⟩ = some (.slice na i nc) ∧ w'.cell? ⟨w.heap.size, 4, none⟩ = some (.int .i64 g.start) ∧ w'.cell? ⟨w.heap.size, 5, none⟩ = some (.slice (some ⟨b, off, none⟩) g.prods.length pc) ∧
                w'.cell? ⟨g7, 0, none⟩ = some (.int .i64 p.left) ∧ w'.cell? ⟨g7, 1, none⟩ = some (.slice RA p.right.length rc) ∧ w'.cell? ⟨bo, ix, none⟩ = some (.map (some mb)) ∧ KW W mb w') :=
              Lib.hid fun w' h => ⟨cell_map c0 hm5.out h, cell_map c1 hm5.out h, cell_map c2 hm5.out h, by rw [hn.out]; exact cell_map c3 hm5.out h, cell_map c4 hm5.out h, cell_map c5 hm5.out h, cell_map p0 hm5.out h, cell_map p1 hm5.out h, cell_map hm3' hm5.out h, h⟩
            have hT : Hid (∀ W', Below W.heap.size W W' → Calls Tryz.prog 36 #[.agg #[.int .i64 g.k, .slice ta g.toks.length tc, .string g.sep, .slice na i nc, .int .i64 g.start, .slice (some ⟨b, off, none⟩) g.prods.length pc], .slice (some ⟨bo, 0, none⟩) i i, .slice RA p.right.length rc] W' (RetL W' (tailL k ss' p.right))) :=
              Lib.hid fun W' hb => by
                have := tail_any g ⟨ta, tc, na, nc, some ⟨b, off, none⟩, pc⟩ k hkk.out hk.out hk4.out (some ⟨bo, 0, none⟩) i i ss' RA p.right.length rc p.right W' (((hG1.step hb).2.1).mono (by have := hb.size; omega)) ((hS1.step hb).reads hlen'.out) hfit'.out hNd.out (by have := hn8'.out; omega) ((hx2'.mono (by omega)).below hb |>.mono hb.size) hpr2 hsy.out
                rw [hn.out]
                rw [hn.out] at this
                exact this
            have hJ : Hid (∀ A1 c1 B0 Bk W', Below W.heap.size W W' → RdL W' W'.heap.size A1 (tailL k ss' p.right).length (tailL k ss' p.right) → RdL W' W'.heap.size (some ⟨B0, 0, none⟩) 1 [Lk.of []] → W'.cell? ⟨Bk, 0, none⟩ = some (.int .i64 k) → Bk < W'.heap.size →
                Calls Tryz.prog 35 #[.map (some mb), .slice A1 (tailL k ss' p.right).length c1, .slice (some ⟨B0, 0, none⟩) 1 1, .func (.func 75) #[] #[.pointer (some ⟨Bk, 0, none⟩)]] W' (RetJ W' mb (ss'.getD ix []) J)) :=
              Lib.hid fun A1 c1 B0 Bk W' hb r1 r2 hc hBk => by
                rw [hJe.out]
                exact joined_any k A1 (some ⟨B0, 0, none⟩) _ 1 c1 1 _ [Lk.of []] _ mb Bk W' hk4.out r1 r2 (fun x hx => (hTf.out x hx).1) (fun x hx => by simp at hx; subst hx; exact (nil_fit k).1) (fun x hx => (hTf.out x hx).2) (by have := hTl.out; omega) (by omega) (hm5.out.step hb) hc hBk
            obtain ⟨gb, hgb⟩ : ∃ gb, gb = decide (J.length ≠ (ss'.getD ix []).length) := ⟨_, rfl⟩
            unfold RetJ at hJ
            rw [← hgb] at hJ
            replace hgb := Lib.hid hgb
            have hEndT : Hid (J.length ≠ (ss'.getD ix []).length → tot ss < tot (ss'.set ix J)) := Lib.hid fun h => by
              have h5 := hR5.out
              have h3 := hR3.out
              have h6 : tot ss ≤ tot ss' := by
                have := hgr.out
                cases gr
                · simp only [Bool.false_eq_true, if_false] at this; rw [this.1]; exact Nat.le_refl _
                · simp only [if_true] at this; omega
              omega
            have hEndF : Hid (J.length = (ss'.getD ix []).length → ss'.set ix J = ss' ∧ (if gr then tot ss < tot ss' else ss' = ss ∧ ∀ q ∈ g.prods.take (j + 1), ∀ y ∈ tailL k ss q.right, y ∈ ss.getD (q.left - 16).toNat [])) := Lib.hid fun h => by
              obtain ⟨h1, h2⟩ := hR4.out h
              refine ⟨h1, ?_⟩
              have := hgr.out
              cases gr
              · simp only [Bool.false_eq_true, if_false] at this ⊢
                obtain ⟨rfl, h4⟩ := this
                refine ⟨rfl, fun q hq y hy => ?_⟩
                rw [htk.out] at hq
                rcases List.mem_append.1 hq with hq | hq
                · exact h4 q hq y hy
                · simp at hq; subst hq
                  rw [hixn.out]; exact h2 y hy
              · simpa using this
            replace hput2 := Lib.hid hput2
            replace hGK := Lib.hid hGK
            clear c0 c1 c2 c3 c4 c5 p0 p1 q7 hS1 hG1
            generalize tailL k ss' p.right = T at *
            generalize ss'.getD ix [] = cur at *
            cases gb with
            | true =>
              have hgn := of_decide_eq_true hgb.out.symm
              refine wp_region_held_drew (S := (fun w' => w'.cell? ⟨w.heap.size, 0, none⟩ = some (.int .i64 g.k) ∧ w'.cell? ⟨w.heap.size, 1, none⟩ = some (.slice ta g.toks.length tc) ∧ w'.cell? ⟨w.heap.size, 2, none⟩ = some (.string g.sep) ∧ w'.cell? ⟨w.heap.size, 3, none⟩ = some (.slice na i nc) ∧ w'.cell? ⟨w.heap.size, 4, none⟩ = some (.int .i64 g.start) ∧ w'.cell? ⟨w.heap.size, 5, none⟩ = some (.slice (some ⟨b, off, none⟩) g.prods.length pc) ∧
                w'.cell? ⟨g7, 0, none⟩ = some (.int .i64 p.left) ∧ w'.cell? ⟨g7, 1, none⟩ = some (.slice RA p.right.length rc) ∧ w'.cell? ⟨bo, ix, none⟩ = some (.map (some mb)) ∧ KW W mb w')) (by kernel_rfl) (hAll.out _ (KW.refl _ _).drew) (fun hHeld => ?_)
              refine wpAnyH_take (i := 0) (oi := ⟨some 29, _, _, _, _, _⟩) (v := ?v1) rfl (by kernel_rfl) (by kernel_rfl) (by kernel_rfl) (fun _ _ _ h => h) (Or.inl ⟨by rfl, ?hy1⟩) (by assumption) ?rest1
              case hy1 => (intro w hSw; (try dsimp only at hSw); go_simp <;> with_reducible rfl)
              try simp only [Act.put, List.setIfInBounds_toArray, List.set_cons_zero, List.set_cons_succ]
              refine wpAnyH_take (i := 1) (oi := ⟨some 30, _, _, _, _, _⟩) (v := ?v2) rfl (by kernel_rfl) (by kernel_rfl) (by kernel_rfl) (fun _ _ _ h => h) (Or.inl ⟨by rfl, ?hy2⟩) (by assumption) ?rest2
              case hy2 => (intro w hSw; (try dsimp only at hSw); go_simp <;> with_reducible rfl)
              try simp only [Act.put, List.setIfInBounds_toArray, List.set_cons_zero, List.set_cons_succ]
              refine wpAnyH_take (i := 2) (oi := ⟨some 31, _, _, _, _, _⟩) (v := ?v3) rfl (by kernel_rfl) (by kernel_rfl) (by kernel_rfl) (fun _ _ _ h => h) (Or.inl ⟨by rfl, ?hy3⟩) (by assumption) ?rest3
              case hy3 => (intro w hSw; (try dsimp only at hSw); go_simp <;> with_reducible rfl)
              try simp only [Act.put, List.setIfInBounds_toArray, List.set_cons_zero, List.set_cons_succ]
              refine wpAnyH_take (i := 3) (oi := ⟨some 32, _, _, _, _, _⟩) (v := ?v4) rfl (by kernel_rfl) (by kernel_rfl) (by kernel_rfl) (fun _ _ _ h => h) (Or.inl ⟨by rfl, ?hy4⟩) (by assumption) ?rest4
              case hy4 => (intro w hSw; (try dsimp only at hSw); go_simp <;> with_reducible rfl)
              try simp only [Act.put, List.setIfInBounds_toArray, List.set_cons_zero, List.set_cons_succ]
              refine wpAnyH_take (i := 4) (oi := ⟨some 33, _, _, _, _, _⟩) (v := ?v5) rfl (by kernel_rfl) (by kernel_rfl) (by kernel_rfl) (fun _ _ _ h => h) (Or.inl ⟨by rfl, ?hy5⟩) (by assumption) ?rest5
              case hy5 => (intro w hSw; (try dsimp only at hSw); go_simp <;> with_reducible rfl)
              try simp only [Act.put, List.setIfInBounds_toArray, List.set_cons_zero, List.set_cons_succ]
              refine wpAnyH_take (i := 5) (oi := ⟨some 34, _, _, _, _, _⟩) (v := ?v6) rfl (by kernel_rfl) (by kernel_rfl) (by kernel_rfl) (fun _ _ _ h => h) (Or.inl ⟨by rfl, ?hy6⟩) (by assumption) ?rest6
              case hy6 => (intro w hSw; (try dsimp only at hSw); go_simp <;> with_reducible rfl)
              try simp only [Act.put, List.setIfInBounds_toArray, List.set_cons_zero, List.set_cons_succ]
              refine wpAnyH_take (i := 6) (oi := ⟨some 35, _, _, _, _, _⟩) (v := ?v7) rfl (by kernel_rfl) (by kernel_rfl) (by kernel_rfl) (fun _ _ _ h => h) (Or.inl ⟨by rfl, ?hy7⟩) (by assumption) ?rest7
              case hy7 => (intro w hSw; (try dsimp only at hSw); go_simp <;> with_reducible rfl)
              try simp only [Act.put, List.setIfInBounds_toArray, List.set_cons_zero, List.set_cons_succ]
              refine wpAnyH_take (i := 7) (oi := ⟨some 36, _, _, _, _, _⟩) (v := ?v8) rfl (by kernel_rfl) (by kernel_rfl) (by kernel_rfl) (fun _ _ _ h => h) (Or.inl ⟨by rfl, ?hy8⟩) (by assumption) ?rest8
              case hy8 => (intro w hSw; (try dsimp only at hSw); go_simp <;> with_reducible rfl)
              try simp only [Act.put, List.setIfInBounds_toArray, List.set_cons_zero, List.set_cons_succ]
              refine wpAnyH_take (i := 8) (oi := ⟨some 37, _, _, _, _, _⟩) (v := ?v9) rfl (by kernel_rfl) (by kernel_rfl) (by kernel_rfl) (fun _ _ _ h => h) (Or.inl ⟨by rfl, ?hy9⟩) (by assumption) ?rest9
              case hy9 => (intro w hSw; (try dsimp only at hSw); go_simp <;> with_reducible rfl)
              try simp only [Act.put, List.setIfInBounds_toArray, List.set_cons_zero, List.set_cons_succ]
              refine wpAnyH_take (i := 9) (oi := ⟨some 38, _, _, _, _, _⟩) (v := ?v10) rfl (by kernel_rfl) (by kernel_rfl) (by kernel_rfl) (fun _ _ _ h => h) (Or.inl ⟨by rfl, ?hy10⟩) (by assumption) ?rest10
              case hy10 => (intro w hSw; (try dsimp only at hSw); go_simp <;> with_reducible rfl)
              try simp only [Act.put, List.setIfInBounds_toArray, List.set_cons_zero, List.set_cons_succ]
              refine wpAnyH_take (i := 11) (oi := ⟨some 40, _, _, _, _, _⟩) (v := ?v11) rfl (by kernel_rfl) (by kernel_rfl) (by kernel_rfl) (fun _ _ _ h => h) (Or.inl ⟨by rfl, ?hy11⟩) (by assumption) ?rest11
              case hy11 => (intro w hSw; (try dsimp only at hSw); go_simp <;> with_reducible rfl)
              try simp only [Act.put, List.setIfInBounds_toArray, List.set_cons_zero, List.set_cons_succ]
              refine wpAnyH_take (i := 13) (oi := ⟨some 42, _, _, _, _, _⟩) (v := ?v12) rfl (by kernel_rfl) (by kernel_rfl) (by kernel_rfl) (fun _ _ _ h => h) (Or.inl ⟨by rfl, ?hy12⟩) (by assumption) ?rest12
              case hy12 => (intro w hSw; (try dsimp only at hSw); go_simp <;> with_reducible rfl)
              try simp only [Act.put, List.setIfInBounds_toArray, List.set_cons_zero, List.set_cons_succ]
              refine wpAnyH_take (i := 14) (oi := ⟨some 43, _, _, _, _, _⟩) (v := ?v13) rfl (by kernel_rfl) (by kernel_rfl) (by kernel_rfl) (fun _ _ _ h => h) (Or.inl ⟨by rfl, ?hy13⟩) (by assumption) ?rest13
              case hy13 => (intro w hSw; (try dsimp only at hSw); go_simp <;> with_reducible rfl)
              try simp only [Act.put, List.setIfInBounds_toArray, List.set_cons_zero, List.set_cons_succ]
              refine wpAnyH_ready (rs := [10, 12]) (by kernel_rfl) (by simp) ?_
              refine AllReadyH.cons (o := ⟨some 39, _, _, _, _, _⟩) rfl (fun K hK => ?_) ?_
              · go_simp
                go_at_call 36
                refine (hT.out _ (by repeat (first | assumption | exact Below.refl _ _ | (refine bStep ?_ (by assumption)) | (with_reducible refine bAlc ?_ _) | (with_reducible refine bDrw ?_)))).mono ?_
                rintro e w1 ⟨v1, rfl, ho1, hb1⟩
                obtain ⟨A1, k1, rfl, hd1, hk1, hmm1, hg1⟩ := ho1.reads
                go_wp2_with fail
                refine hK.out _ _ ?_ (fun hHeld => ?_)
                · (refine hAll.out _ ?_; repeat (first | exact KW.refl _ _ | (refine KW.grown ?_ (by assumption)) | (refine KW.step ?_ (by assumption)) | (with_reducible refine KW.alloc ?_ _) | (with_reducible refine KW.drew ?_)))
                clear hK K
                try simp only [Act.put, List.setIfInBounds_toArray, List.set_cons_zero, List.set_cons_succ]
                refine wpAnyH_ready (rs := [12, 15]) (by kernel_rfl) (by simp) ?_
                refine AllReadyH.cons (o := ⟨some 41, _, _, _, _, _⟩) rfl (fun K hK => ?_) ?_
                · go_simp
                  refine hK.out _ _ ?_ (fun hHeld => ?_)
                  · (refine hAll.out _ ?_; repeat (first | exact KW.refl _ _ | (refine KW.grown ?_ (by assumption)) | (refine KW.step ?_ (by assumption)) | (with_reducible refine KW.alloc ?_ _) | (with_reducible refine KW.drew ?_)))
                  clear hK K
                  try simp only [Act.put, List.setIfInBounds_toArray, List.set_cons_zero, List.set_cons_succ]
                  refine wpAnyH_ready (rs := [15]) (by kernel_rfl) (by simp) ?_
                  refine AllReadyH.cons (o := ⟨some 44, _, _, _, _, _⟩) rfl (fun K hK => ?_) ?_
                  · go_simp
                    go_at_call 38
                    refine (hPl.out _).mono ?_
                    rintro e w2 ⟨Bk, rfl, p1, p2, p3, p4⟩
                    go_wp2_with fail
                    refine hK.out _ _ ?_ (fun hHeld => ?_)
                    · (refine hAll.out _ ?_; repeat (first | exact KW.refl _ _ | (refine KW.grown ?_ (by assumption)) | (refine KW.step ?_ (by assumption)) | (with_reducible refine KW.alloc ?_ _) | (with_reducible refine KW.drew ?_)))
                    clear hK K
                    try simp only [Act.put, List.setIfInBounds_toArray, List.set_cons_zero, List.set_cons_succ]
                    refine wpAnyH_ready (rs := [16]) (by kernel_rfl) (by simp) ?_
                    refine AllReadyH.cons (o := ⟨some 45, _, _, _, _, _⟩) rfl (fun K hK => ?_) ?_
                    · go_simp
                      go_at_call 35
                      refine (hJ.out A1 k1 _ Bk _ (by repeat (first | assumption | exact Below.refl _ _ | (refine bStep ?_ (by assumption)) | (with_reducible refine bAlc ?_ _) | (with_reducible refine bDrw ?_))) (rdl_to hd1 (by repeat (first | assumption | exact Below.refl _ _ | (refine bStep ?_ (by assumption)) | (with_reducible refine bAlc ?_ _) | (with_reducible refine bDrw ?_)))) (rdl_lay _ _ (by repeat (first | assumption | exact Below.refl _ _ | (refine bStep ?_ (by assumption)) | (with_reducible refine bAlc ?_ _) | (with_reducible refine bDrw ?_)))) (cell_later (by repeat (first | assumption | exact Below.refl _ _ | (refine bStep ?_ (by assumption)) | (with_reducible refine bAlc ?_ _) | (with_reducible refine bDrw ?_))) p1) (bk_lt p3 (by repeat (first | assumption | exact Below.refl _ _ | (refine bStep ?_ (by assumption)) | (with_reducible refine bAlc ?_ _) | (with_reducible refine bDrw ?_))))).mono ?_
                      rintro e w3 ⟨rfl, hM3, hg3⟩
                      go_wp2_with fail
                      refine hK.out _ _ ?_ (fun hHeld => ?_)
                      · (refine hAll.out _ ?_; repeat (first | exact KW.refl _ _ | (refine KW.grown ?_ (by assumption)) | (refine KW.step ?_ (by assumption)) | (with_reducible refine KW.alloc ?_ _) | (with_reducible refine KW.drew ?_)))
                      clear hK K
                      try simp only [Act.put, List.setIfInBounds_toArray, List.set_cons_zero, List.set_cons_succ]
                      refine wpAnyH_take (i := 17) (oi := ⟨some 46, _, _, _, _, _⟩) (v := ?v14) rfl (by kernel_rfl) (by kernel_rfl) (by kernel_rfl) (fun _ _ _ h => h) (Or.inl ⟨by rfl, ?hy14⟩) (by assumption) ?rest14
                      case hy14 => (intro w hSw; (try dsimp only at hSw); go_simp <;> with_reducible rfl)
                      try simp only [Act.put, List.setIfInBounds_toArray, List.set_cons_zero, List.set_cons_succ]
                      refine wpAnyH_take (i := 18) (oi := ⟨some 47, _, _, _, _, _⟩) (v := undef) rfl (by kernel_rfl) (by kernel_rfl) (by kernel_rfl) (fun _ _ _ h => h) (Or.inr ⟨by rfl, rfl⟩) (by assumption) ?_
                      try simp only [Act.put, List.setIfInBounds_toArray, List.set_cons_zero, List.set_cons_succ]
                      refine wpAnyH_take (i := 19) (oi := ⟨some 48, _, _, _, _, _⟩) (v := ?v16) rfl (by kernel_rfl) (by kernel_rfl) (by kernel_rfl) (fun _ _ _ h => h) (Or.inl ⟨by rfl, ?hy16⟩) (by assumption) ?rest16
                      case hy16 => (intro w hSw; (try dsimp only at hSw); go_simp <;> with_reducible rfl)
                      try simp only [Act.put, List.setIfInBounds_toArray, List.set_cons_zero, List.set_cons_succ]
                      refine wpAnyH_take (i := 20) (oi := ⟨some 5, _, _, _, _, _⟩) (v := ?v17) rfl (by kernel_rfl) (by kernel_rfl) (by kernel_rfl) (fun _ _ _ h => h) (Or.inl ⟨by rfl, ?hy17⟩) (by assumption) ?rest17
                      case hy17 => (intro w hSw; (try dsimp only at hSw); go_simp <;> with_reducible rfl)
                      try simp only [Act.put, List.setIfInBounds_toArray, List.set_cons_zero, List.set_cons_succ]
                      refine wpAnyH_done (by kernel_rfl) ?_ _
                      go_wp2_with fail
                      go_roundg (g.prods.length - (j + 1))
                      case measure => have := hj.out; omega
                      case rel => exact ⟨j + 1, ss'.set ix J, true, by go_num, rfl, Lib.hid (by have := hj.out; omega), Lib.hid (by simpa using hlen'.out), hR1, hR2, hput2.out _ _ (by repeat (first | exact KW.refl _ _ | (refine KW.grown ?_ (by assumption)) | (refine KW.step ?_ (by assumption)) | (with_reducible refine KW.alloc ?_ _) | (with_reducible refine KW.drew ?_))) hM3, hGK.out _ (by repeat (first | exact KW.refl _ _ | (refine KW.grown ?_ (by assumption)) | (refine KW.step ?_ (by assumption)) | (with_reducible refine KW.alloc ?_ _) | (with_reducible refine KW.drew ?_))), Lib.hid (hEndT.out hgn)⟩
                    exact AllReadyH.nil
                  exact AllReadyH.nil
                refine AllReadyH.cons (o := ⟨some 44, _, _, _, _, _⟩) rfl (fun K hK => ?_) ?_
                · go_simp
                  go_at_call 38
                  refine (hPl.out _).mono ?_
                  rintro e w2 ⟨Bk, rfl, p1, p2, p3, p4⟩
                  go_wp2_with fail
                  refine hK.out _ _ ?_ (fun hHeld => ?_)
                  · (refine hAll.out _ ?_; repeat (first | exact KW.refl _ _ | (refine KW.grown ?_ (by assumption)) | (refine KW.step ?_ (by assumption)) | (with_reducible refine KW.alloc ?_ _) | (with_reducible refine KW.drew ?_)))
                  clear hK K
                  try simp only [Act.put, List.setIfInBounds_toArray, List.set_cons_zero, List.set_cons_succ]
                  refine wpAnyH_ready (rs := [12]) (by kernel_rfl) (by simp) ?_
                  refine AllReadyH.cons (o := ⟨some 41, _, _, _, _, _⟩) rfl (fun K hK => ?_) ?_
                  · go_simp
                    refine hK.out _ _ ?_ (fun hHeld => ?_)
                    · (refine hAll.out _ ?_; repeat (first | exact KW.refl _ _ | (refine KW.grown ?_ (by assumption)) | (refine KW.step ?_ (by assumption)) | (with_reducible refine KW.alloc ?_ _) | (with_reducible refine KW.drew ?_)))
                    clear hK K
                    try simp only [Act.put, List.setIfInBounds_toArray, List.set_cons_zero, List.set_cons_succ]
                    refine wpAnyH_ready (rs := [16]) (by kernel_rfl) (by simp) ?_
                    refine AllReadyH.cons (o := ⟨some 45, _, _, _, _, _⟩) rfl (fun K hK => ?_) ?_
                    · go_simp
                      go_at_call 35
                      refine (hJ.out A1 k1 _ Bk _ (by repeat (first | assumption | exact Below.refl _ _ | (refine bStep ?_ (by assumption)) | (with_reducible refine bAlc ?_ _) | (with_reducible refine bDrw ?_))) (rdl_to hd1 (by repeat (first | assumption | exact Below.refl _ _ | (refine bStep ?_ (by assumption)) | (with_reducible refine bAlc ?_ _) | (with_reducible refine bDrw ?_)))) (rdl_lay _ _ (by repeat (first | assumption | exact Below.refl _ _ | (refine bStep ?_ (by assumption)) | (with_reducible refine bAlc ?_ _) | (with_reducible refine bDrw ?_)))) (cell_later (by repeat (first | assumption | exact Below.refl _ _ | (refine bStep ?_ (by assumption)) | (with_reducible refine bAlc ?_ _) | (with_reducible refine bDrw ?_))) p1) (bk_lt p3 (by repeat (first | assumption | exact Below.refl _ _ | (refine bStep ?_ (by assumption)) | (with_reducible refine bAlc ?_ _) | (with_reducible refine bDrw ?_))))).mono ?_
                      rintro e w3 ⟨rfl, hM3, hg3⟩
                      go_wp2_with fail
                      refine hK.out _ _ ?_ (fun hHeld => ?_)
                      · (refine hAll.out _ ?_; repeat (first | exact KW.refl _ _ | (refine KW.grown ?_ (by assumption)) | (refine KW.step ?_ (by assumption)) | (with_reducible refine KW.alloc ?_ _) | (with_reducible refine KW.drew ?_)))
                      clear hK K
                      try simp only [Act.put, List.setIfInBounds_toArray, List.set_cons_zero, List.set_cons_succ]
                      refine wpAnyH_take (i := 17) (oi := ⟨some 46, _, _, _, _, _⟩) (v := ?v18) rfl (by kernel_rfl) (by kernel_rfl) (by kernel_rfl) (fun _ _ _ h => h) (Or.inl ⟨by rfl, ?hy18⟩) (by assumption) ?rest18
                      case hy18 => (intro w hSw; (try dsimp only at hSw); go_simp <;> with_reducible rfl)
                      try simp only [Act.put, List.setIfInBounds_toArray, List.set_cons_zero, List.set_cons_succ]
                      refine wpAnyH_take (i := 18) (oi := ⟨some 47, _, _, _, _, _⟩) (v := undef) rfl (by kernel_rfl) (by kernel_rfl) (by kernel_rfl) (fun _ _ _ h => h) (Or.inr ⟨by rfl, rfl⟩) (by assumption) ?_
                      try simp only [Act.put, List.setIfInBounds_toArray, List.set_cons_zero, List.set_cons_succ]
                      refine wpAnyH_take (i := 19) (oi := ⟨some 48, _, _, _, _, _⟩) (v := ?v20) rfl (by kernel_rfl) (by kernel_rfl) (by kernel_rfl) (fun _ _ _ h => h) (Or.inl ⟨by rfl, ?hy20⟩) (by assumption) ?rest20
                      case hy20 => (intro w hSw; (try dsimp only at hSw); go_simp <;> with_reducible rfl)
                      try simp only [Act.put, List.setIfInBounds_toArray, List.set_cons_zero, List.set_cons_succ]
                      refine wpAnyH_take (i := 20) (oi := ⟨some 5, _, _, _, _, _⟩) (v := ?v21) rfl (by kernel_rfl) (by kernel_rfl) (by kernel_rfl) (fun _ _ _ h => h) (Or.inl ⟨by rfl, ?hy21⟩) (by assumption) ?rest21
                      case hy21 => (intro w hSw; (try dsimp only at hSw); go_simp <;> with_reducible rfl)
                      try simp only [Act.put, List.setIfInBounds_toArray, List.set_cons_zero, List.set_cons_succ]
                      refine wpAnyH_done (by kernel_rfl) ?_ _
                      go_wp2_with fail
                      go_roundg (g.prods.length - (j + 1))
                      case measure => have := hj.out; omega
                      case rel => exact ⟨j + 1, ss'.set ix J, true, by go_num, rfl, Lib.hid (by have := hj.out; omega), Lib.hid (by simpa using hlen'.out), hR1, hR2, hput2.out _ _ (by repeat (first | exact KW.refl _ _ | (refine KW.grown ?_ (by assumption)) | (refine KW.step ?_ (by assumption)) | (with_reducible refine KW.alloc ?_ _) | (with_reducible refine KW.drew ?_))) hM3, hGK.out _ (by repeat (first | exact KW.refl _ _ | (refine KW.grown ?_ (by assumption)) | (refine KW.step ?_ (by assumption)) | (with_reducible refine KW.alloc ?_ _) | (with_reducible refine KW.drew ?_))), Lib.hid (hEndT.out hgn)⟩
                    exact AllReadyH.nil
                  exact AllReadyH.nil
                exact AllReadyH.nil
              refine AllReadyH.cons (o := ⟨some 41, _, _, _, _, _⟩) rfl (fun K hK => ?_) ?_
              · go_simp
                refine hK.out _ _ ?_ (fun hHeld => ?_)
                · (refine hAll.out _ ?_; repeat (first | exact KW.refl _ _ | (refine KW.grown ?_ (by assumption)) | (refine KW.step ?_ (by assumption)) | (with_reducible refine KW.alloc ?_ _) | (with_reducible refine KW.drew ?_)))
                clear hK K
                try simp only [Act.put, List.setIfInBounds_toArray, List.set_cons_zero, List.set_cons_succ]
                refine wpAnyH_ready (rs := [10]) (by kernel_rfl) (by simp) ?_
                refine AllReadyH.cons (o := ⟨some 39, _, _, _, _, _⟩) rfl (fun K hK => ?_) ?_
                · go_simp
                  go_at_call 36
                  refine (hT.out _ (by repeat (first | assumption | exact Below.refl _ _ | (refine bStep ?_ (by assumption)) | (with_reducible refine bAlc ?_ _) | (with_reducible refine bDrw ?_)))).mono ?_
                  rintro e w1 ⟨v1, rfl, ho1, hb1⟩
                  obtain ⟨A1, k1, rfl, hd1, hk1, hmm1, hg1⟩ := ho1.reads
                  go_wp2_with fail
                  refine hK.out _ _ ?_ (fun hHeld => ?_)
                  · (refine hAll.out _ ?_; repeat (first | exact KW.refl _ _ | (refine KW.grown ?_ (by assumption)) | (refine KW.step ?_ (by assumption)) | (with_reducible refine KW.alloc ?_ _) | (with_reducible refine KW.drew ?_)))
                  clear hK K
                  try simp only [Act.put, List.setIfInBounds_toArray, List.set_cons_zero, List.set_cons_succ]
                  refine wpAnyH_ready (rs := [15]) (by kernel_rfl) (by simp) ?_
                  refine AllReadyH.cons (o := ⟨some 44, _, _, _, _, _⟩) rfl (fun K hK => ?_) ?_
                  · go_simp
                    go_at_call 38
                    refine (hPl.out _).mono ?_
                    rintro e w2 ⟨Bk, rfl, p1, p2, p3, p4⟩
                    go_wp2_with fail
                    refine hK.out _ _ ?_ (fun hHeld => ?_)
                    · (refine hAll.out _ ?_; repeat (first | exact KW.refl _ _ | (refine KW.grown ?_ (by assumption)) | (refine KW.step ?_ (by assumption)) | (with_reducible refine KW.alloc ?_ _) | (with_reducible refine KW.drew ?_)))
                    clear hK K
                    try simp only [Act.put, List.setIfInBounds_toArray, List.set_cons_zero, List.set_cons_succ]
                    refine wpAnyH_ready (rs := [16]) (by kernel_rfl) (by simp) ?_
                    refine AllReadyH.cons (o := ⟨some 45, _, _, _, _, _⟩) rfl (fun K hK => ?_) ?_
                    · go_simp
                      go_at_call 35
                      refine (hJ.out A1 k1 _ Bk _ (by repeat (first | assumption | exact Below.refl _ _ | (refine bStep ?_ (by assumption)) | (with_reducible refine bAlc ?_ _) | (with_reducible refine bDrw ?_))) (rdl_to hd1 (by repeat (first | assumption | exact Below.refl _ _ | (refine bStep ?_ (by assumption)) | (with_reducible refine bAlc ?_ _) | (with_reducible refine bDrw ?_)))) (rdl_lay _ _ (by repeat (first | assumption | exact Below.refl _ _ | (refine bStep ?_ (by assumption)) | (with_reducible refine bAlc ?_ _) | (with_reducible refine bDrw ?_)))) (cell_later (by repeat (first | assumption | exact Below.refl _ _ | (refine bStep ?_ (by assumption)) | (with_reducible refine bAlc ?_ _) | (with_reducible refine bDrw ?_))) p1) (bk_lt p3 (by repeat (first | assumption | exact Below.refl _ _ | (refine bStep ?_ (by assumption)) | (with_reducible refine bAlc ?_ _) | (with_reducible refine bDrw ?_))))).mono ?_
                      rintro e w3 ⟨rfl, hM3, hg3⟩
                      go_wp2_with fail
                      refine hK.out _ _ ?_ (fun hHeld => ?_)
                      · (refine hAll.out _ ?_; repeat (first | exact KW.refl _ _ | (refine KW.grown ?_ (by assumption)) | (refine KW.step ?_ (by assumption)) | (with_reducible refine KW.alloc ?_ _) | (with_reducible refine KW.drew ?_)))
                      clear hK K
                      try simp only [Act.put, List.setIfInBounds_toArray, List.set_cons_zero, List.set_cons_succ]
                      refine wpAnyH_take (i := 17) (oi := ⟨some 46, _, _, _, _, _⟩) (v := ?v22) rfl (by kernel_rfl) (by kernel_rfl) (by kernel_rfl) (fun _ _ _ h => h) (Or.inl ⟨by rfl, ?hy22⟩) (by assumption) ?rest22
                      case hy22 => (intro w hSw; (try dsimp only at hSw); go_simp <;> with_reducible rfl)
                      try simp only [Act.put, List.setIfInBounds_toArray, List.set_cons_zero, List.set_cons_succ]
                      refine wpAnyH_take (i := 18) (oi := ⟨some 47, _, _, _, _, _⟩) (v := undef) rfl (by kernel_rfl) (by kernel_rfl) (by kernel_rfl) (fun _ _ _ h => h) (Or.inr ⟨by rfl, rfl⟩) (by assumption) ?_
                      try simp only [Act.put, List.setIfInBounds_toArray, List.set_cons_zero, List.set_cons_succ]
                      refine wpAnyH_take (i := 19) (oi := ⟨some 48, _, _, _, _, _⟩) (v := ?v24) rfl (by kernel_rfl) (by kernel_rfl) (by kernel_rfl) (fun _ _ _ h => h) (Or.inl ⟨by rfl, ?hy24⟩) (by assumption) ?rest24
                      case hy24 => (intro w hSw; (try dsimp only at hSw); go_simp <;> with_reducible rfl)
                      try simp only [Act.put, List.setIfInBounds_toArray, List.set_cons_zero, List.set_cons_succ]
                      refine wpAnyH_take (i := 20) (oi := ⟨some 5, _, _, _, _, _⟩) (v := ?v25) rfl (by kernel_rfl) (by kernel_rfl) (by kernel_rfl) (fun _ _ _ h => h) (Or.inl ⟨by rfl, ?hy25⟩) (by assumption) ?rest25
                      case hy25 => (intro w hSw; (try dsimp only at hSw); go_simp <;> with_reducible rfl)
                      try simp only [Act.put, List.setIfInBounds_toArray, List.set_cons_zero, List.set_cons_succ]
                      refine wpAnyH_done (by kernel_rfl) ?_ _
                      go_wp2_with fail
                      go_roundg (g.prods.length - (j + 1))
                      case measure => have := hj.out; omega
                      case rel => exact ⟨j + 1, ss'.set ix J, true, by go_num, rfl, Lib.hid (by have := hj.out; omega), Lib.hid (by simpa using hlen'.out), hR1, hR2, hput2.out _ _ (by repeat (first | exact KW.refl _ _ | (refine KW.grown ?_ (by assumption)) | (refine KW.step ?_ (by assumption)) | (with_reducible refine KW.alloc ?_ _) | (with_reducible refine KW.drew ?_))) hM3, hGK.out _ (by repeat (first | exact KW.refl _ _ | (refine KW.grown ?_ (by assumption)) | (refine KW.step ?_ (by assumption)) | (with_reducible refine KW.alloc ?_ _) | (with_reducible refine KW.drew ?_))), Lib.hid (hEndT.out hgn)⟩
                    exact AllReadyH.nil
                  exact AllReadyH.nil
                exact AllReadyH.nil
              exact AllReadyH.nil
            | false =>
              have hgn := Decidable.of_not_not (of_decide_eq_false hgb.out.symm)
              refine wp_region_held_drew (S := (fun w' => w'.cell? ⟨w.heap.size, 0, none⟩ = some (.int .i64 g.k) ∧ w'.cell? ⟨w.heap.size, 1, none⟩ = some (.slice ta g.toks.length tc) ∧ w'.cell? ⟨w.heap.size, 2, none⟩ = some (.string g.sep) ∧ w'.cell? ⟨w.heap.size, 3, none⟩ = some (.slice na i nc) ∧ w'.cell? ⟨w.heap.size, 4, none⟩ = some (.int .i64 g.start) ∧ w'.cell? ⟨w.heap.size, 5, none⟩ = some (.slice (some ⟨b, off, none⟩) g.prods.length pc) ∧
                w'.cell? ⟨g7, 0, none⟩ = some (.int .i64 p.left) ∧ w'.cell? ⟨g7, 1, none⟩ = some (.slice RA p.right.length rc) ∧ w'.cell? ⟨bo, ix, none⟩ = some (.map (some mb)) ∧ KW W mb w')) (by kernel_rfl) (hAll.out _ (KW.refl _ _).drew) (fun hHeld => ?_)
              refine wpAnyH_take (i := 0) (oi := ⟨some 29, _, _, _, _, _⟩) (v := ?vf1) rfl (by kernel_rfl) (by kernel_rfl) (by kernel_rfl) (fun _ _ _ h => h) (Or.inl ⟨by rfl, ?hyf1⟩) (by assumption) ?restf1
              case hyf1 => (intro w hSw; (try dsimp only at hSw); go_simp <;> with_reducible rfl)
              try simp only [Act.put, List.setIfInBounds_toArray, List.set_cons_zero, List.set_cons_succ]
              refine wpAnyH_take (i := 1) (oi := ⟨some 30, _, _, _, _, _⟩) (v := ?vf2) rfl (by kernel_rfl) (by kernel_rfl) (by kernel_rfl) (fun _ _ _ h => h) (Or.inl ⟨by rfl, ?hyf2⟩) (by assumption) ?restf2
              case hyf2 => (intro w hSw; (try dsimp only at hSw); go_simp <;> with_reducible rfl)
              try simp only [Act.put, List.setIfInBounds_toArray, List.set_cons_zero, List.set_cons_succ]
              refine wpAnyH_take (i := 2) (oi := ⟨some 31, _, _, _, _, _⟩) (v := ?vf3) rfl (by kernel_rfl) (by kernel_rfl) (by kernel_rfl) (fun _ _ _ h => h) (Or.inl ⟨by rfl, ?hyf3⟩) (by assumption) ?restf3
              case hyf3 => (intro w hSw; (try dsimp only at hSw); go_simp <;> with_reducible rfl)
              try simp only [Act.put, List.setIfInBounds_toArray, List.set_cons_zero, List.set_cons_succ]
              refine wpAnyH_take (i := 3) (oi := ⟨some 32, _, _, _, _, _⟩) (v := ?vf4) rfl (by kernel_rfl) (by kernel_rfl) (by kernel_rfl) (fun _ _ _ h => h) (Or.inl ⟨by rfl, ?hyf4⟩) (by assumption) ?restf4
              case hyf4 => (intro w hSw; (try dsimp only at hSw); go_simp <;> with_reducible rfl)
              try simp only [Act.put, List.setIfInBounds_toArray, List.set_cons_zero, List.set_cons_succ]
              refine wpAnyH_take (i := 4) (oi := ⟨some 33, _, _, _, _, _⟩) (v := ?vf5) rfl (by kernel_rfl) (by kernel_rfl) (by kernel_rfl) (fun _ _ _ h => h) (Or.inl ⟨by rfl, ?hyf5⟩) (by assumption) ?restf5
              case hyf5 => (intro w hSw; (try dsimp only at hSw); go_simp <;> with_reducible rfl)
              try simp only [Act.put, List.setIfInBounds_toArray, List.set_cons_zero, List.set_cons_succ]
              refine wpAnyH_take (i := 5) (oi := ⟨some 34, _, _, _, _, _⟩) (v := ?vf6) rfl (by kernel_rfl) (by kernel_rfl) (by kernel_rfl) (fun _ _ _ h => h) (Or.inl ⟨by rfl, ?hyf6⟩) (by assumption) ?restf6
              case hyf6 => (intro w hSw; (try dsimp only at hSw); go_simp <;> with_reducible rfl)
              try simp only [Act.put, List.setIfInBounds_toArray, List.set_cons_zero, List.set_cons_succ]
              refine wpAnyH_take (i := 6) (oi := ⟨some 35, _, _, _, _, _⟩) (v := ?vf7) rfl (by kernel_rfl) (by kernel_rfl) (by kernel_rfl) (fun _ _ _ h => h) (Or.inl ⟨by rfl, ?hyf7⟩) (by assumption) ?restf7
              case hyf7 => (intro w hSw; (try dsimp only at hSw); go_simp <;> with_reducible rfl)
              try simp only [Act.put, List.setIfInBounds_toArray, List.set_cons_zero, List.set_cons_succ]
              refine wpAnyH_take (i := 7) (oi := ⟨some 36, _, _, _, _, _⟩) (v := ?vf8) rfl (by kernel_rfl) (by kernel_rfl) (by kernel_rfl) (fun _ _ _ h => h) (Or.inl ⟨by rfl, ?hyf8⟩) (by assumption) ?restf8
              case hyf8 => (intro w hSw; (try dsimp only at hSw); go_simp <;> with_reducible rfl)
              try simp only [Act.put, List.setIfInBounds_toArray, List.set_cons_zero, List.set_cons_succ]
              refine wpAnyH_take (i := 8) (oi := ⟨some 37, _, _, _, _, _⟩) (v := ?vf9) rfl (by kernel_rfl) (by kernel_rfl) (by kernel_rfl) (fun _ _ _ h => h) (Or.inl ⟨by rfl, ?hyf9⟩) (by assumption) ?restf9
              case hyf9 => (intro w hSw; (try dsimp only at hSw); go_simp <;> with_reducible rfl)
              try simp only [Act.put, List.setIfInBounds_toArray, List.set_cons_zero, List.set_cons_succ]
              refine wpAnyH_take (i := 9) (oi := ⟨some 38, _, _, _, _, _⟩) (v := ?vf10) rfl (by kernel_rfl) (by kernel_rfl) (by kernel_rfl) (fun _ _ _ h => h) (Or.inl ⟨by rfl, ?hyf10⟩) (by assumption) ?restf10
              case hyf10 => (intro w hSw; (try dsimp only at hSw); go_simp <;> with_reducible rfl)
              try simp only [Act.put, List.setIfInBounds_toArray, List.set_cons_zero, List.set_cons_succ]
              refine wpAnyH_take (i := 11) (oi := ⟨some 40, _, _, _, _, _⟩) (v := ?vf11) rfl (by kernel_rfl) (by kernel_rfl) (by kernel_rfl) (fun _ _ _ h => h) (Or.inl ⟨by rfl, ?hyf11⟩) (by assumption) ?restf11
              case hyf11 => (intro w hSw; (try dsimp only at hSw); go_simp <;> with_reducible rfl)
              try simp only [Act.put, List.setIfInBounds_toArray, List.set_cons_zero, List.set_cons_succ]
              refine wpAnyH_take (i := 13) (oi := ⟨some 42, _, _, _, _, _⟩) (v := ?vf12) rfl (by kernel_rfl) (by kernel_rfl) (by kernel_rfl) (fun _ _ _ h => h) (Or.inl ⟨by rfl, ?hyf12⟩) (by assumption) ?restf12
              case hyf12 => (intro w hSw; (try dsimp only at hSw); go_simp <;> with_reducible rfl)
              try simp only [Act.put, List.setIfInBounds_toArray, List.set_cons_zero, List.set_cons_succ]
              refine wpAnyH_take (i := 14) (oi := ⟨some 43, _, _, _, _, _⟩) (v := ?vf13) rfl (by kernel_rfl) (by kernel_rfl) (by kernel_rfl) (fun _ _ _ h => h) (Or.inl ⟨by rfl, ?hyf13⟩) (by assumption) ?restf13
              case hyf13 => (intro w hSw; (try dsimp only at hSw); go_simp <;> with_reducible rfl)
              try simp only [Act.put, List.setIfInBounds_toArray, List.set_cons_zero, List.set_cons_succ]
              refine wpAnyH_ready (rs := [10, 12]) (by kernel_rfl) (by simp) ?_
              refine AllReadyH.cons (o := ⟨some 39, _, _, _, _, _⟩) rfl (fun K hK => ?_) ?_
              · go_simp
                go_at_call 36
                refine (hT.out _ (by repeat (first | assumption | exact Below.refl _ _ | (refine bStep ?_ (by assumption)) | (with_reducible refine bAlc ?_ _) | (with_reducible refine bDrw ?_)))).mono ?_
                rintro e w1 ⟨v1, rfl, ho1, hb1⟩
                obtain ⟨A1, k1, rfl, hd1, hk1, hmm1, hg1⟩ := ho1.reads
                go_wp2_with fail
                refine hK.out _ _ ?_ (fun hHeld => ?_)
                · (refine hAll.out _ ?_; repeat (first | exact KW.refl _ _ | (refine KW.grown ?_ (by assumption)) | (refine KW.step ?_ (by assumption)) | (with_reducible refine KW.alloc ?_ _) | (with_reducible refine KW.drew ?_)))
                clear hK K
                try simp only [Act.put, List.setIfInBounds_toArray, List.set_cons_zero, List.set_cons_succ]
                refine wpAnyH_ready (rs := [12, 15]) (by kernel_rfl) (by simp) ?_
                refine AllReadyH.cons (o := ⟨some 41, _, _, _, _, _⟩) rfl (fun K hK => ?_) ?_
                · go_simp
                  refine hK.out _ _ ?_ (fun hHeld => ?_)
                  · (refine hAll.out _ ?_; repeat (first | exact KW.refl _ _ | (refine KW.grown ?_ (by assumption)) | (refine KW.step ?_ (by assumption)) | (with_reducible refine KW.alloc ?_ _) | (with_reducible refine KW.drew ?_)))
                  clear hK K
                  try simp only [Act.put, List.setIfInBounds_toArray, List.set_cons_zero, List.set_cons_succ]
                  refine wpAnyH_ready (rs := [15]) (by kernel_rfl) (by simp) ?_
                  refine AllReadyH.cons (o := ⟨some 44, _, _, _, _, _⟩) rfl (fun K hK => ?_) ?_
                  · go_simp
                    go_at_call 38
                    refine (hPl.out _).mono ?_
                    rintro e w2 ⟨Bk, rfl, p1, p2, p3, p4⟩
                    go_wp2_with fail
                    refine hK.out _ _ ?_ (fun hHeld => ?_)
                    · (refine hAll.out _ ?_; repeat (first | exact KW.refl _ _ | (refine KW.grown ?_ (by assumption)) | (refine KW.step ?_ (by assumption)) | (with_reducible refine KW.alloc ?_ _) | (with_reducible refine KW.drew ?_)))
                    clear hK K
                    try simp only [Act.put, List.setIfInBounds_toArray, List.set_cons_zero, List.set_cons_succ]
                    refine wpAnyH_ready (rs := [16]) (by kernel_rfl) (by simp) ?_
                    refine AllReadyH.cons (o := ⟨some 45, _, _, _, _, _⟩) rfl (fun K hK => ?_) ?_
                    · go_simp
                      go_at_call 35
                      refine (hJ.out A1 k1 _ Bk _ (by repeat (first | assumption | exact Below.refl _ _ | (refine bStep ?_ (by assumption)) | (with_reducible refine bAlc ?_ _) | (with_reducible refine bDrw ?_))) (rdl_to hd1 (by repeat (first | assumption | exact Below.refl _ _ | (refine bStep ?_ (by assumption)) | (with_reducible refine bAlc ?_ _) | (with_reducible refine bDrw ?_)))) (rdl_lay _ _ (by repeat (first | assumption | exact Below.refl _ _ | (refine bStep ?_ (by assumption)) | (with_reducible refine bAlc ?_ _) | (with_reducible refine bDrw ?_)))) (cell_later (by repeat (first | assumption | exact Below.refl _ _ | (refine bStep ?_ (by assumption)) | (with_reducible refine bAlc ?_ _) | (with_reducible refine bDrw ?_))) p1) (bk_lt p3 (by repeat (first | assumption | exact Below.refl _ _ | (refine bStep ?_ (by assumption)) | (with_reducible refine bAlc ?_ _) | (with_reducible refine bDrw ?_))))).mono ?_
                      rintro e w3 ⟨rfl, hM3, hg3⟩
                      go_wp2_with fail
                      refine hK.out _ _ ?_ (fun hHeld => ?_)
                      · (refine hAll.out _ ?_; repeat (first | exact KW.refl _ _ | (refine KW.grown ?_ (by assumption)) | (refine KW.step ?_ (by assumption)) | (with_reducible refine KW.alloc ?_ _) | (with_reducible refine KW.drew ?_)))
                      clear hK K
                      try simp only [Act.put, List.setIfInBounds_toArray, List.set_cons_zero, List.set_cons_succ]
                      refine wpAnyH_take (i := 17) (oi := ⟨some 46, _, _, _, _, _⟩) (v := ?vf14) rfl (by kernel_rfl) (by kernel_rfl) (by kernel_rfl) (fun _ _ _ h => h) (Or.inl ⟨by rfl, ?hyf14⟩) (by assumption) ?restf14
                      case hyf14 => (intro w hSw; (try dsimp only at hSw); go_simp <;> with_reducible rfl)
                      try simp only [Act.put, List.setIfInBounds_toArray, List.set_cons_zero, List.set_cons_succ]
                      refine wpAnyH_take (i := 18) (oi := ⟨some 47, _, _, _, _, _⟩) (v := ?vf15) rfl (by kernel_rfl) (by kernel_rfl) (by kernel_rfl) (fun _ _ _ h => h) (Or.inl ⟨by rfl, ?hyf15⟩) (by assumption) ?restf15
                      case hyf15 => (intro w hSw; (try dsimp only at hSw); go_simp <;> with_reducible rfl)
                      try simp only [Act.put, List.setIfInBounds_toArray, List.set_cons_zero, List.set_cons_succ]
                      refine wpAnyH_take (i := 19) (oi := ⟨some 48, _, _, _, _, _⟩) (v := ?vf16) rfl (by kernel_rfl) (by kernel_rfl) (by kernel_rfl) (fun _ _ _ h => h) (Or.inl ⟨by rfl, ?hyf16⟩) (by assumption) ?restf16
                      case hyf16 => (intro w hSw; (try dsimp only at hSw); go_simp <;> with_reducible rfl)
                      try simp only [Act.put, List.setIfInBounds_toArray, List.set_cons_zero, List.set_cons_succ]
                      refine wpAnyH_take (i := 20) (oi := ⟨some 5, _, _, _, _, _⟩) (v := ?vf17) rfl (by kernel_rfl) (by kernel_rfl) (by kernel_rfl) (fun _ _ _ h => h) (Or.inl ⟨by rfl, ?hyf17⟩) (by assumption) ?restf17
                      case hyf17 => (intro w hSw; (try dsimp only at hSw); go_simp <;> with_reducible rfl)
                      try simp only [Act.put, List.setIfInBounds_toArray, List.set_cons_zero, List.set_cons_succ]
                      refine wpAnyH_done (by kernel_rfl) ?_ _
                      go_wp2_with fail
                      go_roundg (g.prods.length - (j + 1))
                      case measure => have := hj.out; omega
                      case rel => exact ⟨j + 1, ss', gr, by go_num, rfl, Lib.hid (by have := hj.out; omega), hlen', hfit', hsnd', by have h9 := hput2.out _ _ (by repeat (first | exact KW.refl _ _ | (refine KW.grown ?_ (by assumption)) | (refine KW.step ?_ (by assumption)) | (with_reducible refine KW.alloc ?_ _) | (with_reducible refine KW.drew ?_))) hM3; rw [(hEndF.out hgn).1] at h9; exact h9, hGK.out _ (by repeat (first | exact KW.refl _ _ | (refine KW.grown ?_ (by assumption)) | (refine KW.step ?_ (by assumption)) | (with_reducible refine KW.alloc ?_ _) | (with_reducible refine KW.drew ?_))), Lib.hid (hEndF.out hgn).2⟩
                    exact AllReadyH.nil
                  exact AllReadyH.nil
                refine AllReadyH.cons (o := ⟨some 44, _, _, _, _, _⟩) rfl (fun K hK => ?_) ?_
                · go_simp
                  go_at_call 38
                  refine (hPl.out _).mono ?_
                  rintro e w2 ⟨Bk, rfl, p1, p2, p3, p4⟩
                  go_wp2_with fail
                  refine hK.out _ _ ?_ (fun hHeld => ?_)
                  · (refine hAll.out _ ?_; repeat (first | exact KW.refl _ _ | (refine KW.grown ?_ (by assumption)) | (refine KW.step ?_ (by assumption)) | (with_reducible refine KW.alloc ?_ _) | (with_reducible refine KW.drew ?_)))
                  clear hK K
                  try simp only [Act.put, List.setIfInBounds_toArray, List.set_cons_zero, List.set_cons_succ]
                  refine wpAnyH_ready (rs := [12]) (by kernel_rfl) (by simp) ?_
                  refine AllReadyH.cons (o := ⟨some 41, _, _, _, _, _⟩) rfl (fun K hK => ?_) ?_
                  · go_simp
                    refine hK.out _ _ ?_ (fun hHeld => ?_)
                    · (refine hAll.out _ ?_; repeat (first | exact KW.refl _ _ | (refine KW.grown ?_ (by assumption)) | (refine KW.step ?_ (by assumption)) | (with_reducible refine KW.alloc ?_ _) | (with_reducible refine KW.drew ?_)))
                    clear hK K
                    try simp only [Act.put, List.setIfInBounds_toArray, List.set_cons_zero, List.set_cons_succ]
                    refine wpAnyH_ready (rs := [16]) (by kernel_rfl) (by simp) ?_
                    refine AllReadyH.cons (o := ⟨some 45, _, _, _, _, _⟩) rfl (fun K hK => ?_) ?_
                    · go_simp
                      go_at_call 35
                      refine (hJ.out A1 k1 _ Bk _ (by repeat (first | assumption | exact Below.refl _ _ | (refine bStep ?_ (by assumption)) | (with_reducible refine bAlc ?_ _) | (with_reducible refine bDrw ?_))) (rdl_to hd1 (by repeat (first | assumption | exact Below.refl _ _ | (refine bStep ?_ (by assumption)) | (with_reducible refine bAlc ?_ _) | (with_reducible refine bDrw ?_)))) (rdl_lay _ _ (by repeat (first | assumption | exact Below.refl _ _ | (refine bStep ?_ (by assumption)) | (with_reducible refine bAlc ?_ _) | (with_reducible refine bDrw ?_)))) (cell_later (by repeat (first | assumption | exact Below.refl _ _ | (refine bStep ?_ (by assumption)) | (with_reducible refine bAlc ?_ _) | (with_reducible refine bDrw ?_))) p1) (bk_lt p3 (by repeat (first | assumption | exact Below.refl _ _ | (refine bStep ?_ (by assumption)) | (with_reducible refine bAlc ?_ _) | (with_reducible refine bDrw ?_))))).mono ?_
                      rintro e w3 ⟨rfl, hM3, hg3⟩
                      go_wp2_with fail
                      refine hK.out _ _ ?_ (fun hHeld => ?_)
                      · (refine hAll.out _ ?_; repeat (first | exact KW.refl _ _ | (refine KW.grown ?_ (by assumption)) | (refine KW.step ?_ (by assumption)) | (with_reducible refine KW.alloc ?_ _) | (with_reducible refine KW.drew ?_)))
                      clear hK K
                      try simp only [Act.put, List.setIfInBounds_toArray, List.set_cons_zero, List.set_cons_succ]
                      refine wpAnyH_take (i := 17) (oi := ⟨some 46, _, _, _, _, _⟩) (v := ?vf18) rfl (by kernel_rfl) (by kernel_rfl) (by kernel_rfl) (fun _ _ _ h => h) (Or.inl ⟨by rfl, ?hyf18⟩) (by assumption) ?restf18
                      case hyf18 => (intro w hSw; (try dsimp only at hSw); go_simp <;> with_reducible rfl)
                      try simp only [Act.put, List.setIfInBounds_toArray, List.set_cons_zero, List.set_cons_succ]
                      refine wpAnyH_take (i := 18) (oi := ⟨some 47, _, _, _, _, _⟩) (v := ?vf19) rfl (by kernel_rfl) (by kernel_rfl) (by kernel_rfl) (fun _ _ _ h => h) (Or.inl ⟨by rfl, ?hyf19⟩) (by assumption) ?restf19
                      case hyf19 => (intro w hSw; (try dsimp only at hSw); go_simp <;> with_reducible rfl)
                      try simp only [Act.put, List.setIfInBounds_toArray, List.set_cons_zero, List.set_cons_succ]
                      refine wpAnyH_take (i := 19) (oi := ⟨some 48, _, _, _, _, _⟩) (v := ?vf20) rfl (by kernel_rfl) (by kernel_rfl) (by kernel_rfl) (fun _ _ _ h => h) (Or.inl ⟨by rfl, ?hyf20⟩) (by assumption) ?restf20
                      case hyf20 => (intro w hSw; (try dsimp only at hSw); go_simp <;> with_reducible rfl)
                      try simp only [Act.put, List.setIfInBounds_toArray, List.set_cons_zero, List.set_cons_succ]
                      refine wpAnyH_take (i := 20) (oi := ⟨some 5, _, _, _, _, _⟩) (v := ?vf21) rfl (by kernel_rfl) (by kernel_rfl) (by kernel_rfl) (fun _ _ _ h => h) (Or.inl ⟨by rfl, ?hyf21⟩) (by assumption) ?restf21
                      case hyf21 => (intro w hSw; (try dsimp only at hSw); go_simp <;> with_reducible rfl)
                      try simp only [Act.put, List.setIfInBounds_toArray, List.set_cons_zero, List.set_cons_succ]
                      refine wpAnyH_done (by kernel_rfl) ?_ _
                      go_wp2_with fail
                      go_roundg (g.prods.length - (j + 1))
                      case measure => have := hj.out; omega
                      case rel => exact ⟨j + 1, ss', gr, by go_num, rfl, Lib.hid (by have := hj.out; omega), hlen', hfit', hsnd', by have h9 := hput2.out _ _ (by repeat (first | exact KW.refl _ _ | (refine KW.grown ?_ (by assumption)) | (refine KW.step ?_ (by assumption)) | (with_reducible refine KW.alloc ?_ _) | (with_reducible refine KW.drew ?_))) hM3; rw [(hEndF.out hgn).1] at h9; exact h9, hGK.out _ (by repeat (first | exact KW.refl _ _ | (refine KW.grown ?_ (by assumption)) | (refine KW.step ?_ (by assumption)) | (with_reducible refine KW.alloc ?_ _) | (with_reducible refine KW.drew ?_))), Lib.hid (hEndF.out hgn).2⟩
                    exact AllReadyH.nil
                  exact AllReadyH.nil
                exact AllReadyH.nil
              refine AllReadyH.cons (o := ⟨some 41, _, _, _, _, _⟩) rfl (fun K hK => ?_) ?_
              · go_simp
                refine hK.out _ _ ?_ (fun hHeld => ?_)
                · (refine hAll.out _ ?_; repeat (first | exact KW.refl _ _ | (refine KW.grown ?_ (by assumption)) | (refine KW.step ?_ (by assumption)) | (with_reducible refine KW.alloc ?_ _) | (with_reducible refine KW.drew ?_)))
                clear hK K
                try simp only [Act.put, List.setIfInBounds_toArray, List.set_cons_zero, List.set_cons_succ]
                refine wpAnyH_ready (rs := [10]) (by kernel_rfl) (by simp) ?_
                refine AllReadyH.cons (o := ⟨some 39, _, _, _, _, _⟩) rfl (fun K hK => ?_) ?_
                · go_simp
                  go_at_call 36
                  refine (hT.out _ (by repeat (first | assumption | exact Below.refl _ _ | (refine bStep ?_ (by assumption)) | (with_reducible refine bAlc ?_ _) | (with_reducible refine bDrw ?_)))).mono ?_
                  rintro e w1 ⟨v1, rfl, ho1, hb1⟩
                  obtain ⟨A1, k1, rfl, hd1, hk1, hmm1, hg1⟩ := ho1.reads
                  go_wp2_with fail
                  refine hK.out _ _ ?_ (fun hHeld => ?_)
                  · (refine hAll.out _ ?_; repeat (first | exact KW.refl _ _ | (refine KW.grown ?_ (by assumption)) | (refine KW.step ?_ (by assumption)) | (with_reducible refine KW.alloc ?_ _) | (with_reducible refine KW.drew ?_)))
                  clear hK K
                  try simp only [Act.put, List.setIfInBounds_toArray, List.set_cons_zero, List.set_cons_succ]
                  refine wpAnyH_ready (rs := [15]) (by kernel_rfl) (by simp) ?_
                  refine AllReadyH.cons (o := ⟨some 44, _, _, _, _, _⟩) rfl (fun K hK => ?_) ?_
                  · go_simp
                    go_at_call 38
                    refine (hPl.out _).mono ?_
                    rintro e w2 ⟨Bk, rfl, p1, p2, p3, p4⟩
                    go_wp2_with fail
                    refine hK.out _ _ ?_ (fun hHeld => ?_)
                    · (refine hAll.out _ ?_; repeat (first | exact KW.refl _ _ | (refine KW.grown ?_ (by assumption)) | (refine KW.step ?_ (by assumption)) | (with_reducible refine KW.alloc ?_ _) | (with_reducible refine KW.drew ?_)))
                    clear hK K
                    try simp only [Act.put, List.setIfInBounds_toArray, List.set_cons_zero, List.set_cons_succ]
                    refine wpAnyH_ready (rs := [16]) (by kernel_rfl) (by simp) ?_
                    refine AllReadyH.cons (o := ⟨some 45, _, _, _, _, _⟩) rfl (fun K hK => ?_) ?_
                    · go_simp
                      go_at_call 35
                      refine (hJ.out A1 k1 _ Bk _ (by repeat (first | assumption | exact Below.refl _ _ | (refine bStep ?_ (by assumption)) | (with_reducible refine bAlc ?_ _) | (with_reducible refine bDrw ?_))) (rdl_to hd1 (by repeat (first | assumption | exact Below.refl _ _ | (refine bStep ?_ (by assumption)) | (with_reducible refine bAlc ?_ _) | (with_reducible refine bDrw ?_)))) (rdl_lay _ _ (by repeat (first | assumption | exact Below.refl _ _ | (refine bStep ?_ (by assumption)) | (with_reducible refine bAlc ?_ _) | (with_reducible refine bDrw ?_)))) (cell_later (by repeat (first | assumption | exact Below.refl _ _ | (refine bStep ?_ (by assumption)) | (with_reducible refine bAlc ?_ _) | (with_reducible refine bDrw ?_))) p1) (bk_lt p3 (by repeat (first | assumption | exact Below.refl _ _ | (refine bStep ?_ (by assumption)) | (with_reducible refine bAlc ?_ _) | (with_reducible refine bDrw ?_))))).mono ?_
                      rintro e w3 ⟨rfl, hM3, hg3⟩
                      go_wp2_with fail
                      refine hK.out _ _ ?_ (fun hHeld => ?_)
                      · (refine hAll.out _ ?_; repeat (first | exact KW.refl _ _ | (refine KW.grown ?_ (by assumption)) | (refine KW.step ?_ (by assumption)) | (with_reducible refine KW.alloc ?_ _) | (with_reducible refine KW.drew ?_)))
                      clear hK K
                      try simp only [Act.put, List.setIfInBounds_toArray, List.set_cons_zero, List.set_cons_succ]
                      refine wpAnyH_take (i := 17) (oi := ⟨some 46, _, _, _, _, _⟩) (v := ?vf22) rfl (by kernel_rfl) (by kernel_rfl) (by kernel_rfl) (fun _ _ _ h => h) (Or.inl ⟨by rfl, ?hyf22⟩) (by assumption) ?restf22
                      case hyf22 => (intro w hSw; (try dsimp only at hSw); go_simp <;> with_reducible rfl)
                      try simp only [Act.put, List.setIfInBounds_toArray, List.set_cons_zero, List.set_cons_succ]
                      refine wpAnyH_take (i := 18) (oi := ⟨some 47, _, _, _, _, _⟩) (v := ?vf23) rfl (by kernel_rfl) (by kernel_rfl) (by kernel_rfl) (fun _ _ _ h => h) (Or.inl ⟨by rfl, ?hyf23⟩) (by assumption) ?restf23
                      case hyf23 => (intro w hSw; (try dsimp only at hSw); go_simp <;> with_reducible rfl)
                      try simp only [Act.put, List.setIfInBounds_toArray, List.set_cons_zero, List.set_cons_succ]
                      refine wpAnyH_take (i := 19) (oi := ⟨some 48, _, _, _, _, _⟩) (v := ?vf24) rfl (by kernel_rfl) (by kernel_rfl) (by kernel_rfl) (fun _ _ _ h => h) (Or.inl ⟨by rfl, ?hyf24⟩) (by assumption) ?restf24
                      case hyf24 => (intro w hSw; (try dsimp only at hSw); go_simp <;> with_reducible rfl)
                      try simp only [Act.put, List.setIfInBounds_toArray, List.set_cons_zero, List.set_cons_succ]
                      refine wpAnyH_take (i := 20) (oi := ⟨some 5, _, _, _, _, _⟩) (v := ?vf25) rfl (by kernel_rfl) (by kernel_rfl) (by kernel_rfl) (fun _ _ _ h => h) (Or.inl ⟨by rfl, ?hyf25⟩) (by assumption) ?restf25
                      case hyf25 => (intro w hSw; (try dsimp only at hSw); go_simp <;> with_reducible rfl)
                      try simp only [Act.put, List.setIfInBounds_toArray, List.set_cons_zero, List.set_cons_succ]
                      refine wpAnyH_done (by kernel_rfl) ?_ _
                      go_wp2_with fail
                      go_roundg (g.prods.length - (j + 1))
                      case measure => have := hj.out; omega
                      case rel => exact ⟨j + 1, ss', gr, by go_num, rfl, Lib.hid (by have := hj.out; omega), hlen', hfit', hsnd', by have h9 := hput2.out _ _ (by repeat (first | exact KW.refl _ _ | (refine KW.grown ?_ (by assumption)) | (refine KW.step ?_ (by assumption)) | (with_reducible refine KW.alloc ?_ _) | (with_reducible refine KW.drew ?_))) hM3; rw [(hEndF.out hgn).1] at h9; exact h9, hGK.out _ (by repeat (first | exact KW.refl _ _ | (refine KW.grown ?_ (by assumption)) | (refine KW.step ?_ (by assumption)) | (with_reducible refine KW.alloc ?_ _) | (with_reducible refine KW.drew ?_))), Lib.hid (hEndF.out hgn).2⟩
                    exact AllReadyH.nil
                  exact AllReadyH.nil
                exact AllReadyH.nil
              exact AllReadyH.nil
          · have hje : j = g.prods.length := by have := hj.out; omega
            subst hje
            cases gr with
            | false =>
              have hgr2 := hgr.out
              simp only [Bool.false_eq_true, if_false] at hgr2
              obtain ⟨hse, hcl⟩ := hgr2
              subst hse
              have hclo : Hid (ClosedF g.prods k ss') := Lib.hid fun p hp y hy => hcl p (by rw [List.take_length]; exact hp) y hy
              replace hcl := Lib.hid hcl
              go_wp2_with fail
              go_ret
              have hb9 := hbo'.out
              exact hP.out bo ss' _ (hS.mono (by omega)) hlen'.out (by omega) hfit'.out hsnd'.out hclo.out hG.2.2
            | true =>
              have hgr2 := hgr.out
              simp only [if_true] at hgr2
              have htl := tot_le ss' (fun s hs => fit_len (hS.nodup s hs) (hfit'.out s hs))
              have hlt9 := Lib.hid (And.intro hgr2 (And.intro (show tot ss' ≤ i * 4681 by rw [← hlen'.out]; exact htl) hgk.out))
              clear hgr2 htl
              go_wp2_with fail
              go_roundg (i * 4681 - tot ss')
              case measure => have := hlt9.out; omega
              case rel => exact ⟨ss', Lib.hid (by have := hlt9.out; omega), hlen', hfit', hsnd', hS, hG⟩
end Go.Proofs.YtnnkfgekiaaehaaGreat

/- The reference 16: of. -/
namespace Go.Proofs.YtnnkfgekiaaehaaGreat
open Go.ChangeShapes Go.WideShapes Go.ChangeAt Go.RowKit
set_option linter.unusedVariables false
def RetSt (m : Int) (l : List Lk) (w : World) (e : Ending) (w' : World) : Prop := ∃ A c, e = .returned (.slice A l.length c) ∧ SetAt w' m A l.length c l ∧ Below w.heap.size w w'
end Go.Proofs.YtnnkfgekiaaehaaGreat

/- The reference 15: of. -/
namespace Go.Proofs.YtnnkfgekiaaehaaGreat
open Go.ChangeShapes Go.WideShapes Go.ChangeAt Go.RowKit
set_option linter.unusedVariables false
set_option maxRecDepth 100000 in
set_option maxHeartbeats 2000000 in
theorem refof15_ok (g : Gr) (a : GA) (k : Nat) (hok : GOk g k) (l : List Int) (hl : ∀ s ∈ l, (0 ≤ s ∧ s < g.toks.length) ∨ (16 ≤ s ∧ s < 16 + (g.names.length : Int))) (bo : Nat) (ss : List (List Lk)) (RA : Option Addr) (rc : Nat) (w : World)
    (hg : GrAt w w.heap.size g a) (hS : SetsA w bo g.names.length g.toks.length ss) (hf : SetsFit k ss) (hR : Rd1 w w.heap.size RA l.length (ints l)) (hln : l.length ≤ 1000000) :
    Calls Tryz.prog 94 #[gval g a, .slice RA l.length rc, .slice (some ⟨bo, 0, none⟩) g.names.length g.names.length] w (RetSt g.toks.length (tailL k ss l) w) := by
  have hP := Lib.hid (fun (A : Option Addr) (c : Nat) (w' : World) (h1 : SetAt w' g.toks.length A (tailL k ss l).length c (tailL k ss l)) (h2 : Below w.heap.size w w') => (show RetSt g.toks.length (tailL k ss l) w (.returned (.slice A (tailL k ss l).length c)) w' from ⟨A, c, rfl, h1, h2⟩))
  have hk1 := hok.k1
  have hk4 := hok.k4
  have hm := hok.tk
  have hn8 := hok.nm
  have hkk := Lib.hid hok.hk
  have hSy : ∀ s ∈ l, SymOk g.names.length s := fun s hs => by have := hl s hs; unfold SymOk; omega
  have hTf : ∀ i, ∀ x ∈ tailL k ss (l.take i), Fit k x := fun i => tail_fit hk1 hk4 hf _ fun s hs => hSy s (List.mem_of_mem_take hs)
  have hStep : ∀ i s, l[i]? = some s → ∀ one, (∀ x, x ∈ one ↔ x ∈ oneL ss s) → sumR k (tailL k ss (l.take i)) one = tailL k ss (l.take (i + 1)) := fun i s hs one h1 => by
    have hi := (List.getElem?_eq_some_iff.1 hs).1
    rw [List.take_succ_eq_append_getElem hi, (List.getElem?_eq_some_iff.1 hs).2, tailL_snoc]
    exact sum_step hk1 hk4 hf (hTf i) (hSy s (List.mem_of_getElem? hs)) h1
  have hOf : ∀ s ∈ l, ∀ x ∈ oneL ss s, Fit k x := fun s hs => one_fit hk1 hf (hSy s hs)
  have hAsc := Lib.hid hS.asc
  replace hSy := Lib.hid hSy
  replace hTf := Lib.hid hTf
  replace hStep := Lib.hid hStep
  replace hOf := Lib.hid hOf
  have hf' := Lib.hid hf
  have hl' := Lib.hid hl
  clear hf hl
  obtain ⟨ta, tc, na, nc, pa, pc⟩ := a
  have hG0 := GB.start hg
  clear hg
  have hSlt := hS.lt
  unfold gval at *
  unfold gcells at *
  dsimp only at *
  go_enter Tryz.func94, Tryz.ntmps94
  go_upto_region 1 with (fail)
  have hb0 : Below w.heap.size w (w.alloc (.cells #[.int .i64 g.k, .slice ta g.toks.length tc, .string g.sep, .slice na g.names.length nc, .int .i64 g.start, .slice pa g.prods.length pc] 25)) := bAlc (Below.refl _ _) _
  generalize w.alloc (.cells #[.int .i64 g.k, .slice ta g.toks.length tc, .string g.sep, .slice na g.names.length nc, .int .i64 g.start, .slice pa g.prods.length pc] 25) = W at *
  obtain ⟨c0, c1, c2, c3, c4, c5⟩ := hG0.cells
  dsimp only at c1 c3 c5
  go_wp2_with fail
  go_loopg [7, 8] l.length (fun gk s7 s8 wr => ∃ (i : Nat) (A : Option Addr) (c : Nat), s7 = .slice A (tailL k ss (l.take i)).length c ∧ s8 = .int .i64 i ∧ i + gk = l.length ∧ SetAt wr g.toks.length A (tailL k ss (l.take i)).length c (tailL k ss (l.take i)) ∧ GB w g ⟨ta, tc, na, nc, pa, pc⟩ wr)
  case atStart =>
    refine ⟨0, _, _, rfl, rfl, by omega, ?_, hG0.alloc _⟩
    rw [List.take_zero]
    exact ⟨(rdL_one (x := Lk.of []) (Blk.new W 41 _)).mono (by simp), fun x hx => by simp [tailL] at hx; subst hx; exact nil_right _ (by omega), asc_one _, by simp [tailL], by simp [tailL], by simp [maxLen]⟩
  case round =>
    clear c0 c1 c2 c3 c4 c5 hG0 hb0
    obtain ⟨i, A, c, rfl, rfl, hi, hT, hG⟩ := hrel
    replace hi := Lib.hid hi
    obtain ⟨c0, c1, c2, c3, c4, c5⟩ := hG.cells
    dsimp only at c1 c3 c5
    rw [hkk.out] at c0
    by_cases hin : i < l.length
    · have hs : l[i]? = some l[i] := List.getElem?_eq_getElem hin
      have hst := hStep.out i _ hs
      have hmem := List.getElem_mem hin
      have hsy := hl'.out _ hmem
      have hof := hOf.out _ hmem
      have htf := hTf.out i
      obtain ⟨b, off, hRA, hbt, x0⟩ := hR.get (show (ints l)[i]? = some (.int .i64 l[i]) by rw [ints, List.getElem?_map, hs]; rfl)
      have x0' := (hG.2.2.cell (p := ⟨b, off + i, none⟩) hbt).trans x0
      generalize l[i] = s at *
      replace hs := Lib.hid hs
      have hz0 : (0 : Int) ≤ i := by omega
      have hz1 : (i : Int) < l.length := by omega
      subst hRA
      generalize tailL k ss (l.take i) = T at *
      have hSr := hS.step hG.2.2
      clear x0
      by_cases h16 : 16 ≤ s
      · obtain ⟨ix, hix⟩ := Int.eq_ofNat_of_zero_le (show 0 ≤ s - 16 by omega)
        have hixn : (s - 16).toNat = ix := by omega
        have hsN : s < 16 + (g.names.length : Int) := by omega
        have hixi : ix < g.names.length := by omega
        obtain ⟨X, xc, hcx, _, hX⟩ := hSr.get ix hixi
        have hone : oneL ss s = lset (ss.getD ix []) := by unfold oneL; rw [if_pos h16, hixn]
        have hset : ∀ x, x ∈ ss.getD ix [] ↔ x ∈ oneL ss s := fun x => by rw [hone, lset_mem (k := 8) (fun y hy => (setsFit_get hf'.out ix y hy).1)]
        have hst' := hst _ hset
        have hXf : ∀ x ∈ ss.getD ix [], Fit k x := fun x hx => setsFit_get hf'.out ix x hx
        have zw : IntKind.i64.wrap (s - 16) = (ix : Int) := by rw [hix]; exact IntWalk.i64_in _ (by omega)
        have hzx : (0 : Int) ≤ ix := by omega
        have hzy : (ix : Int) < g.names.length := by omega
        have hge : decide ((16 : Int) ≤ s) = true := decide_eq_true h16
        have hb1 : Below wr.heap.size wr (wr.alloc (.cells #[.int .i64 1, .int .i64 s, .int .i64 0, .int .i64 0, .int .i64 0] 41)) := bAlc (Below.refl _ _) _
        have hT1 := hT.step hb1
        have hX1 := hX.step hb1
        have hG1 := hG.step hb1
        have c0' := cell_later hb1 c0
        have c1' := cell_later hb1 c1
        have x0'' := cell_later hb1 x0'
        have hcx' := cell_later hb1 hcx
        have hbx : bo ≠ wr.heap.size := by have := hG.lt; omega
        generalize ss.getD ix [] = D at *
        replace hst' := Lib.hid hst'
        replace hix := Lib.hid hix
        replace hixn := Lib.hid hixn
        clear hone hset
        go_wp2_with fail
        refine (sum_ok g.toks.length k A X T.length D.length c xc T D _ (by omega) (by omega) hk1 hk4 hT1 hX1 htf hXf).mono ?_
        rintro e w2 ⟨v, rfl, ho, hb2⟩
        rw [hst'.out] at ho
        have hTr : ∀ x ∈ tailL k ss (l.take (i + 1)), x.right g.toks.length := fun x hx => by
          rw [← hst'.out] at hx
          obtain ⟨x1, h1, x2, h2, rfl⟩ := (sumR_mem hk4 htf hXf x).1 hx
          exact lplus_right hk4 (hT.right x1 h1) (hX.right x2 h2)
        obtain ⟨A', c', rfl, hT'⟩ := SetAt.of_own ho hTr (by omega) (by rw [← hst'.out]; exact sumR_asc hk4 htf hXf)
        go_wp2_with fail
        go_roundg (l.length - (i + 1))
        case measure => have := hi.out; omega
        case rel => exact ⟨i + 1, A', c', rfl, by go_num, by have := hi.out; omega, hT', hG1.step hb2⟩
      · have hsr : 0 ≤ s ∧ s < g.toks.length := by omega
        have hone : oneL ss s = [Lk.of [s]] := by unfold oneL; rw [if_neg h16]
        have hst' := hst [Lk.of [s]] (fun x => by rw [hone])
        rw [hone] at hof
        have hge : decide ((16 : Int) ≤ s) = false := decide_eq_false h16
        have hb1 : Below wr.heap.size wr (wr.alloc (.cells #[.int .i64 1, .int .i64 s, .int .i64 0, .int .i64 0, .int .i64 0] 41)) := bAlc (Below.refl _ _) _
        have hT1 := hT.step hb1
        have hG1 := hG.step hb1
        have c0' := cell_later hb1 c0
        have c1' := cell_later hb1 c1
        have x0'' := cell_later hb1 x0'
        have hX1 : SetAt (wr.alloc (.cells #[.int .i64 1, .int .i64 s, .int .i64 0, .int .i64 0, .int .i64 0] 41)) g.toks.length (some ⟨wr.heap.size, 0, none⟩) 1 1 [Lk.of [s]] :=
          ⟨(rdL_one (x := Lk.of [s]) (Blk.new wr 41 _)).mono (by simp), fun x hx => by simp at hx; subst hx; exact of_right (by omega) (by simp) (by simpa using hsr), asc_one _, by omega, by omega, by simp [maxLen]⟩
        replace hst' := Lib.hid hst'
        clear hone
        go_wp2_with fail
        refine (sum_ok g.toks.length k A _ T.length 1 c 1 T [Lk.of [s]] _ (by omega) (by omega) hk1 hk4 hT1 hX1 htf hof).mono ?_
        rintro e w2 ⟨v, rfl, ho, hb2⟩
        rw [hst'.out] at ho
        have hTr : ∀ x ∈ tailL k ss (l.take (i + 1)), x.right g.toks.length := fun x hx => by
          rw [← hst'.out] at hx
          obtain ⟨x1, h1, x2, h2, rfl⟩ := (sumR_mem hk4 htf hof x).1 hx
          exact lplus_right hk4 (hT.right x1 h1) (hX1.right x2 h2)
        obtain ⟨A', c', rfl, hT'⟩ := SetAt.of_own ho hTr (by omega) (by rw [← hst'.out]; exact sumR_asc hk4 htf hof)
        go_wp2_with fail
        go_roundg (l.length - (i + 1))
        case measure => have := hi.out; omega
        case rel => exact ⟨i + 1, A', c', rfl, by go_num, by have := hi.out; omega, hT', hG1.step hb2⟩
    · have he : l.take i = l := List.take_of_length_le (by have := hi.out; omega)
      rw [he] at hT ⊢
      clear he
      go_wp2_with fail
      go_ret
      exact hP.out _ _ _ hT hG.2.2
end Go.Proofs.YtnnkfgekiaaehaaGreat

/- The reference 16: firsts. -/
namespace Go.Proofs.YtnnkfgekiaaehaaGreat
open Go.ChangeShapes Go.WideShapes Go.ChangeAt Go.RowKit
set_option linter.unusedVariables false
def RetFs (g : Gr) (k : Nat) (w : World) (e : Ending) (w' : World) : Prop :=
  ∃ b ss, e = .returned (.slice (some ⟨b, 0, none⟩) g.names.length g.names.length) ∧ SetsA w' b g.names.length g.toks.length ss ∧ w.heap.size ≤ b ∧ SetsFit k ss ∧ SoundF g.prods k ss ∧ ClosedF g.prods k ss ∧ Below w.heap.size w w'
theorem under50 : Tryz.prog.underlying 50 = some (.slice 28) := by kernel_rfl
theorem info28 : (Tryz.prog.info? 28).map (fun i => (i.zero, i.size, i.bytes)) = some (some (.slice none 0 0), 1, 24) := by kernel_rfl
theorem fl_rightG {g : Gr} {k : Nat} (hok : GOk g k) {l : List Int} (hl : ∀ s ∈ l, s < 16 → 0 ≤ s ∧ s < g.toks.length) {x : Lk} (h : FL g.prods k l x) : x.right g.toks.length :=
  (fl_right hok.k1 hok.k4 (by have := hok.tk; omega) (fun p hp s hs h16 => by have := (hok.pr p hp).2.2 s hs; omega) h hl).1
theorem first_sound {g : Gr} {k : Nat} (hok : GOk g k) {ss : List (List Lk)} (hn : ss.length = g.names.length) (hf : SetsFit k ss) (hs : SoundF g.prods k ss) {p : Pr} (hp : p ∈ g.prods) (J : List Lk) (hJ : ∀ x, x ∈ J ↔ x ∈ ss.getD (p.left - 16).toNat [] ∨ x ∈ tailL k ss p.right) :
    SoundF g.prods k (ss.set (p.left - 16).toNat J) := by
  have hpr := hok.pr p hp
  have hi : (p.left - 16).toNat < ss.length := by omega
  intro i y hy
  rw [getD_set ss _ _ _ hi] at hy
  split at hy
  · rename_i e
    subst e
    rcases (hJ y).1 hy with h | h
    · exact hs _ y h
    · exact ⟨p, hp, by omega, tail_sound hok.k1 hok.k4 hf hs _ (hok.sym hp) y h⟩
  · exact hs i y hy
end Go.Proofs.YtnnkfgekiaaehaaGreat

/- The reference 15: sets. -/
namespace Go.Proofs.YtnnkfgekiaaehaaGreat
open Go.ChangeShapes Go.WideShapes Go.ChangeAt Go.RowKit
set_option linter.unusedVariables false
set_option maxRecDepth 100000 in
set_option maxHeartbeats 4000000 in
theorem sets15_any (g : Gr) (a : GA) (k : Nat) (hok : GOk g k) (w : World) (hg : GrAt w w.heap.size g a) : Calls Tryz.prog 95 #[gval g a] w (RetFs g k w) := by
  have hP := Lib.hid (fun (b : Nat) (ss : List (List Lk)) (w' : World) (h1 : SetsA w' b g.names.length g.toks.length ss) (h3 : w.heap.size ≤ b) (h4 : SetsFit k ss) (h5 : SoundF g.prods k ss) (h6 : ClosedF g.prods k ss) (h7 : Below w.heap.size w w') =>
    (show RetFs g k w (.returned (.slice (some ⟨b, 0, none⟩) g.names.length g.names.length)) w' from ⟨b, ss, rfl, h1, h3, h4, h5, h6, h7⟩))
  obtain ⟨ta, tc, na, nc, pa, pc⟩ := a
  have hok' := Lib.hid hok
  have hG0 := GB.start hg
  have hOfA := Lib.hid (fun (l : List Int) hl (bo : Nat) (ss : List (List Lk)) (RA : Option Addr) (rc : Nat) (W : World) hg hS hf hR hln => refof15_ok g ⟨ta, tc, na, nc, pa, pc⟩ k hok l hl bo ss RA rc W hg hS hf hR hln)
  have hk := Lib.hid hok.k1
  have hk4 := Lib.hid hok.k4
  have hn8' := Lib.hid hok.nm
  have hm := Lib.hid hok.tk
  have hp24 := Lib.hid hok.pl
  obtain ⟨i28, hi28, hq0, hq1, hq2⟩ := info_parts info28
  clear hg hok
  unfold gval at *
  unfold gcells at *
  dsimp only at *
  go_enter Tryz.func95, Tryz.ntmps95
  go_upto_region 2 with (at_make; refine wpList_make_row _ rfl _ _ 50 rfl 28 i28 (.slice none 0 0) under50 hi28 hq0 hq1 rfl _ _ g.names.length rfl rfl (by rw [hq2]; have := hn8'.out; omega) (by have := hn8'.out; omega) ?_)
  have q0 := Blk.newAt (w.alloc (.cells #[.int .i64 g.k, .slice ta g.toks.length tc, .string g.sep, .slice na g.names.length nc, .int .i64 g.start, .slice pa g.prods.length pc] 25)) 28 (madeCells #[.slice none 0 0] g.names.length) (w.heap.size + 1) (by simp)
  have hS0 := SetsA.new (m := g.toks.length) q0
  have hG1 := hG0.alloc (.cells (madeCells #[.slice none 0 0] g.names.length) 28)
  clear q0 hG0
  generalize (w.alloc (.cells #[.int .i64 g.k, .slice ta g.toks.length tc, .string g.sep, .slice na g.names.length nc, .int .i64 g.start, .slice pa g.prods.length pc] 25)).alloc (.cells (madeCells #[.slice none 0 0] g.names.length) 28) = W1 at *
  obtain ⟨bo, hbo⟩ : ∃ bo, bo = w.heap.size + 1 := ⟨_, rfl⟩
  rw [← hbo] at hS0 ⊢
  have hbo' := Lib.hid hbo
  clear hbo
  have hfit0 : Hid (SetsFit k (List.replicate g.names.length ([] : List Lk))) := Lib.hid (by intro s hs x hx; rw [List.eq_of_mem_replicate hs] at hx; cases hx)
  have hsnd0 : Hid (SoundF g.prods k (List.replicate g.names.length ([] : List Lk))) := Lib.hid (by
    intro j y hy
    rw [List.getD_eq_getElem?_getD, List.getElem?_replicate] at hy
    split at hy <;> simp at hy)
  have htot0 : Hid (tot (List.replicate g.names.length ([] : List Lk)) = 0) := Lib.hid (by simp [tot])
  generalize List.replicate g.names.length ([] : List Lk) = ss0 at *
  go_wp2_with fail
  go_loopg [4] (2 * (g.names.length * 4681) + 1) (fun gk s4 wr => ∃ (ss : List (List Lk)) (gr : Bool), s4 = .bool gr ∧ Hid (2 * tot ss + gk = 2 * (g.names.length * 4681) + (if gr then 1 else 0)) ∧ Hid (gr = false → ClosedF g.prods k ss) ∧ Hid (SetsFit k ss) ∧ Hid (SoundF g.prods k ss) ∧ SetsA wr bo g.names.length g.toks.length ss ∧ GB w g ⟨ta, tc, na, nc, pa, pc⟩ wr)
  case atStart => exact ⟨ss0, true, rfl, Lib.hid (by have := htot0.out; simp; omega), Lib.hid (by simp), hfit0, hsnd0, hS0, hG1⟩
  case round =>
    clear hS0 hG1 htot0 hfit0 hsnd0 ss0
    obtain ⟨ss, gr0, rfl, hgk, hcl0, hfit, hsnd, hS, hG⟩ := hrel
    cases gr0 with
    | false =>
      have hclo := Lib.hid (hcl0.out rfl)
      replace hcl0 := Lib.hid hcl0
      go_wp2_with fail
      go_ret
      exact hP.out bo ss _ hS (by have := hbo'.out; omega) hfit.out hsnd.out hclo.out hG.2.2
    | true =>
      clear hcl0
      obtain ⟨c0, c1, c2, c3, c4, c5⟩ := hG.cells
      dsimp only at c1 c3 c5
      go_wp2_with fail
      clear c0 c1 c2 c3 c4 c5
      go_loopg [4, 5] g.prods.length (fun gk2 s4 s5 wr => ∃ (j : Nat) (ss' : List (List Lk)) (gr : Bool), s5 = .int .i64 j ∧ s4 = .bool gr ∧ Hid (j + gk2 = g.prods.length) ∧ Hid (SetsFit k ss') ∧ Hid (SoundF g.prods k ss') ∧ SetsA wr bo g.names.length g.toks.length ss' ∧ GB w g ⟨ta, tc, na, nc, pa, pc⟩ wr ∧
        Hid (if gr then tot ss < tot ss' else ss' = ss ∧ ∀ p ∈ g.prods.take j, ∀ y ∈ tailL k ss p.right, y ∈ ss.getD (p.left - 16).toNat []))
      case atStart => exact ⟨0, ss, false, rfl, rfl, Lib.hid (by omega), hfit, hsnd, hS, hG, Lib.hid (by simp)⟩
      case round =>
        clear hS hG hfit hsnd
        obtain ⟨j, ss', gr, rfl, rfl, hj, hfit', hsnd', hS, hG, hgr⟩ := hrel
        obtain ⟨c0, c1, c2, c3, c4, c5⟩ := hG.cells
        dsimp only at c1 c3 c5
        have hlen' := hS.1
        by_cases hjn : j < g.prods.length
        · have hxi : g.prods[j]? = some g.prods[j] := List.getElem?_eq_getElem hjn
          obtain ⟨b, off, hA, hbt, x0, RA, rc, x1, hx2, hx3, hx4⟩ := hG.2.1.prods.get hxi
          dsimp only at hA
          subst hA
          have hmem := List.getElem_mem hjn
          have htk : g.prods.take (j + 1) = g.prods.take j ++ [g.prods[j]] := List.take_succ_eq_append_getElem hjn
          have hpr := hok'.out.pr _ hmem
          have hsy := hok'.out.sym hmem
          have hsnF := first_sound hok'.out hlen' hfit'.out hsnd'.out hmem
          generalize g.prods[j] = p at *
          have hTf := tail_fit hk.out hk4.out hfit'.out p.right hsy
          have hTa := tail_asc hk.out hk4.out hfit'.out p.right hsy
          have hTs := tail_sound hk.out hk4.out hfit'.out hsnd'.out p.right hsy
          have hTr : ∀ x ∈ tailL k ss' p.right, x.right g.toks.length := fun x hx => fl_rightG hok'.out (fun s hs h16 => by have := hpr.2.2 s hs; omega) (hTs x hx)
          obtain ⟨ix, hix⟩ := Int.eq_ofNat_of_zero_le (show 0 ≤ p.left - 16 by omega)
          have hixn : (p.left - 16).toNat = ix := by omega
          rw [hixn] at hsnF
          have hixi : ix < g.names.length := by omega
          obtain ⟨hA0, hR0⟩ := hS.asc (ss'.getD ix []) (by rw [List.getD_eq_getElem?_getD, List.getElem?_eq_getElem (by omega)]; exact List.getElem_mem (by omega))
          have hR := round_merge (ps := g.prods) (k := k) (m := g.toks.length) (P := SoundF g.prods k) (by have := hm.out; omega) (by have := hm.out; omega) (show ix < ss'.length by omega) hfit'.out hA0 hR0 hTf hTa hTr hsnF
          have zw : IntKind.i64.wrap (p.left - 16) = (ix : Int) := by rw [hix]; exact IntWalk.i64_in _ (by have := hn8'.out; omega)
          have hzx : (0 : Int) ≤ ix := by omega
          have hzy : (ix : Int) < g.names.length := by omega
          have hzj : (0 : Int) ≤ j := by omega
          have hzk : (j : Int) < g.prods.length := by omega
          have hzl : g.prods.length ≤ 24 := hp24.out
          obtain ⟨X, xc, hcx, hfx, hX⟩ := hS.get ix hixi
          have hb0 : Below w.heap.size w wr := hG.2.2
          have hOf : Hid (∀ W', Below wr.heap.size wr W' → Calls Tryz.prog 94 #[.agg #[.int .i64 g.k, .slice ta g.toks.length tc, .string g.sep, .slice na g.names.length nc, .int .i64 g.start, .slice (some ⟨b, off, none⟩) g.prods.length pc], .slice RA p.right.length rc, .slice (some ⟨bo, 0, none⟩) g.names.length g.names.length] W' (RetSt g.toks.length (tailL k ss' p.right) W')) :=
            Lib.hid fun W' hb => hOfA.out p.right hpr.2.2 bo ss' RA rc W' (((hG.step hb).2.1).mono (by have := hG.lt; have := hb.size; omega)) (hS.step hb) hfit'.out ((hx2.mono (by have := hG.lt; omega)).below hb |>.mono hb.size) (by omega)
          have hUn : Hid (∀ A1 k1 gq W', Below wr.heap.size wr W' → SetAt W' g.toks.length A1 (tailL k ss' p.right).length k1 (tailL k ss' p.right) → Blk W' gq 28 #[.slice X (ss'.getD ix []).length xc, .slice A1 (tailL k ss' p.right).length k1] →
              Calls Tryz.prog 85 #[.int .i64 g.toks.length, .slice (some ⟨gq, 0, none⟩) 2 2] W' (RetL0 W' (lmerge (ss'.getD ix []) (tailL k ss' p.right)))) :=
            Lib.hid fun A1 k1 gq W' hb h1 q => union_ok g.toks.length gq X A1 _ _ xc k1 _ _ W' (by have := hm.out; omega) (by have := hm.out; omega) (hX.step hb) h1 q
          have hOwn : Hid (∀ (W' : World) (base : Nat) (v : Value), OwnL W' base v (lmerge (ss'.getD ix []) (tailL k ss' p.right)) → ∃ A c, v = .slice A (lmerge (ss'.getD ix []) (tailL k ss' p.right)).length c ∧ SetAt W' g.toks.length A (lmerge (ss'.getD ix []) (tailL k ss' p.right)).length c (lmerge (ss'.getD ix []) (tailL k ss' p.right))) :=
            Lib.hid fun W' base v h => SetAt.of_own h hR.right (by have := hm.out; omega) hR.asc
          have hR1 := Lib.hid hR.fit
          have hR2 := Lib.hid hR.sound
          have hR3 := Lib.hid hR.grow
          have hR4 := Lib.hid hR.same
          have hR5 := Lib.hid hR.tot
          clear hR hTf hTa hTs hTr hsnF hA0 hR0
          replace hxi := Lib.hid hxi
          replace htk := Lib.hid htk
          replace hmem := Lib.hid hmem
          replace hpr := Lib.hid hpr
          replace hsy := Lib.hid hsy
          replace hixn := Lib.hid hixn
          replace hix := Lib.hid hix
          generalize lmerge (ss'.getD ix []) (tailL k ss' p.right) = J at *
          generalize hT : tailL k ss' p.right = T at *
          replace hT := Lib.hid hT
          have hEndT : Hid ((ss'.getD ix []).length < J.length → tot ss < tot (ss'.set ix J)) := Lib.hid fun h => by
            have h5 := hR5.out
            have h6 : tot ss ≤ tot ss' := by
              have := hgr.out
              cases gr
              · simp only [Bool.false_eq_true, if_false] at this; rw [this.1]; exact Nat.le_refl _
              · simp only [if_true] at this; omega
            omega
          have hEndF : Hid (¬ (ss'.getD ix []).length < J.length → ss'.set ix J = ss' ∧ (if gr then tot ss < tot ss' else ss' = ss ∧ ∀ q ∈ g.prods.take (j + 1), ∀ y ∈ tailL k ss q.right, y ∈ ss.getD (q.left - 16).toNat [])) := Lib.hid fun h => by
            obtain ⟨h1, h2⟩ := hR4.out (by have := hR3.out; omega)
            refine ⟨h1, ?_⟩
            have := hgr.out
            cases gr
            · simp only [Bool.false_eq_true, if_false] at this ⊢
              obtain ⟨rfl, h4⟩ := this
              refine ⟨rfl, fun q hq y hy => ?_⟩
              rw [htk.out] at hq
              rcases List.mem_append.1 hq with hq | hq
              · exact h4 q hq y hy
              · simp at hq; subst hq
                rw [hixn.out]; rw [hT.out] at hy; exact h2 y hy
            · simpa using this
          generalize ss'.getD ix [] = D at *
          go_upto_region 9 with (fail)
          have hAll : Hid (∀ w', Below wr.heap.size wr w' → w'.cell? ⟨w.heap.size, 0, none⟩ = some (.int .i64 g.k) ∧ w'.cell? ⟨w.heap.size, 1, none⟩ = some (.slice ta g.toks.length tc) ∧ w'.cell? ⟨w.heap.size, 2, none⟩ = some (.string g.sep) ∧ w'.cell? ⟨w.heap.size, 3, none⟩ = some (.slice na g.names.length nc) ∧ w'.cell? ⟨w.heap.size, 4, none⟩ = some (.int .i64 g.start) ∧ w'.cell? ⟨w.heap.size, 5, none⟩ = some (.slice (some ⟨b, off, none⟩) g.prods.length pc) ∧
              w'.cell? ⟨b, off + j * 2 + 1, none⟩ = some (.slice RA p.right.length rc) ∧ w'.cell? ⟨bo, ix, none⟩ = some (.slice X D.length xc) ∧ Below wr.heap.size wr w') :=
            Lib.hid fun w' h => ⟨cell_later h c0, cell_later h c1, cell_later h c2, cell_later h c3, cell_later h c4, cell_later h c5, cell_later h x1, cell_later h hcx, h⟩
          go_cut [7] (fun s7 wx => ∃ A2 c2, s7 = .slice A2 J.length c2 ∧ SetAt wx g.toks.length A2 J.length c2 J ∧ Below wr.heap.size wr wx)
          case first =>
            refine wp_region_held_drew (S := (fun w' => w'.cell? ⟨w.heap.size, 0, none⟩ = some (.int .i64 g.k) ∧ w'.cell? ⟨w.heap.size, 1, none⟩ = some (.slice ta g.toks.length tc) ∧ w'.cell? ⟨w.heap.size, 2, none⟩ = some (.string g.sep) ∧ w'.cell? ⟨w.heap.size, 3, none⟩ = some (.slice na g.names.length nc) ∧ w'.cell? ⟨w.heap.size, 4, none⟩ = some (.int .i64 g.start) ∧ w'.cell? ⟨w.heap.size, 5, none⟩ = some (.slice (some ⟨b, off, none⟩) g.prods.length pc) ∧
              w'.cell? ⟨b, off + j * 2 + 1, none⟩ = some (.slice RA p.right.length rc) ∧ w'.cell? ⟨bo, ix, none⟩ = some (.slice X D.length xc) ∧ Below wr.heap.size wr w')) (by kernel_rfl) (hAll.out _ (bDrw (Below.refl _ _))) (fun hHeld => ?_)
            refine wpAnyH_take (i := 0) (oi := ⟨some 29, _, _, _, _, _⟩) (v := ?vr1) rfl (by kernel_rfl) (by kernel_rfl) (by kernel_rfl) (fun _ _ _ h => h) (Or.inl ⟨by rfl, ?hyr1⟩) (by assumption) ?restr1
            case hyr1 => (intro w hSw; (try dsimp only at hSw); go_simp <;> with_reducible rfl)
            try simp only [Act.put, List.setIfInBounds_toArray, List.set_cons_zero, List.set_cons_succ]
            refine wpAnyH_take (i := 1) (oi := ⟨some 30, _, _, _, _, _⟩) (v := ?vr2) rfl (by kernel_rfl) (by kernel_rfl) (by kernel_rfl) (fun _ _ _ h => h) (Or.inl ⟨by rfl, ?hyr2⟩) (by assumption) ?restr2
            case hyr2 => (intro w hSw; (try dsimp only at hSw); go_simp <;> with_reducible rfl)
            try simp only [Act.put, List.setIfInBounds_toArray, List.set_cons_zero, List.set_cons_succ]
            refine wpAnyH_take (i := 3) (oi := ⟨some 32, _, _, _, _, _⟩) (v := ?vr3) rfl (by kernel_rfl) (by kernel_rfl) (by kernel_rfl) (fun _ _ _ h => h) (Or.inl ⟨by rfl, ?hyr3⟩) (by assumption) ?restr3
            case hyr3 => (intro w hSw; (try dsimp only at hSw); go_simp <;> with_reducible rfl)
            try simp only [Act.put, List.setIfInBounds_toArray, List.set_cons_zero, List.set_cons_succ]
            refine wpAnyH_take (i := 4) (oi := ⟨some 33, _, _, _, _, _⟩) (v := ?vr4) rfl (by kernel_rfl) (by kernel_rfl) (by kernel_rfl) (fun _ _ _ h => h) (Or.inl ⟨by rfl, ?hyr4⟩) (by assumption) ?restr4
            case hyr4 => (intro w hSw; (try dsimp only at hSw); go_simp <;> with_reducible rfl)
            try simp only [Act.put, List.setIfInBounds_toArray, List.set_cons_zero, List.set_cons_succ]
            refine wpAnyH_take (i := 5) (oi := ⟨some 34, _, _, _, _, _⟩) (v := ?vr5) rfl (by kernel_rfl) (by kernel_rfl) (by kernel_rfl) (fun _ _ _ h => h) (Or.inl ⟨by rfl, ?hyr5⟩) (by assumption) ?restr5
            case hyr5 => (intro w hSw; (try dsimp only at hSw); go_simp <;> with_reducible rfl)
            try simp only [Act.put, List.setIfInBounds_toArray, List.set_cons_zero, List.set_cons_succ]
            refine wpAnyH_take (i := 6) (oi := ⟨some 35, _, _, _, _, _⟩) (v := ?vr6) rfl (by kernel_rfl) (by kernel_rfl) (by kernel_rfl) (fun _ _ _ h => h) (Or.inl ⟨by rfl, ?hyr6⟩) (by assumption) ?restr6
            case hyr6 => (intro w hSw; (try dsimp only at hSw); go_simp <;> with_reducible rfl)
            try simp only [Act.put, List.setIfInBounds_toArray, List.set_cons_zero, List.set_cons_succ]
            refine wpAnyH_take (i := 7) (oi := ⟨some 36, _, _, _, _, _⟩) (v := ?vr7) rfl (by kernel_rfl) (by kernel_rfl) (by kernel_rfl) (fun _ _ _ h => h) (Or.inl ⟨by rfl, ?hyr7⟩) (by assumption) ?restr7
            case hyr7 => (intro w hSw; (try dsimp only at hSw); go_simp <;> with_reducible rfl)
            try simp only [Act.put, List.setIfInBounds_toArray, List.set_cons_zero, List.set_cons_succ]
            refine wpAnyH_take (i := 8) (oi := ⟨some 37, _, _, _, _, _⟩) (v := ?vr8) rfl (by kernel_rfl) (by kernel_rfl) (by kernel_rfl) (fun _ _ _ h => h) (Or.inl ⟨by rfl, ?hyr8⟩) (by assumption) ?restr8
            case hyr8 => (intro w hSw; (try dsimp only at hSw); go_simp <;> with_reducible rfl)
            try simp only [Act.put, List.setIfInBounds_toArray, List.set_cons_zero, List.set_cons_succ]
            refine wpAnyH_take (i := 9) (oi := ⟨some 38, _, _, _, _, _⟩) (v := ?vr9) rfl (by kernel_rfl) (by kernel_rfl) (by kernel_rfl) (fun _ _ _ h => h) (Or.inl ⟨by rfl, ?hyr9⟩) (by assumption) ?restr9
            case hyr9 => (intro w hSw; (try dsimp only at hSw); go_simp <;> with_reducible rfl)
            try simp only [Act.put, List.setIfInBounds_toArray, List.set_cons_zero, List.set_cons_succ]
            refine wpAnyH_take (i := 10) (oi := ⟨some 39, _, _, _, _, _⟩) (v := ?vr10) rfl (by kernel_rfl) (by kernel_rfl) (by kernel_rfl) (fun _ _ _ h => h) (Or.inl ⟨by rfl, ?hyr10⟩) (by assumption) ?restr10
            case hyr10 => (intro w hSw; (try dsimp only at hSw); go_simp <;> with_reducible rfl)
            try simp only [Act.put, List.setIfInBounds_toArray, List.set_cons_zero, List.set_cons_succ]
            refine wpAnyH_take (i := 11) (oi := ⟨some 40, _, _, _, _, _⟩) (v := ?vr11) rfl (by kernel_rfl) (by kernel_rfl) (by kernel_rfl) (fun _ _ _ h => h) (Or.inl ⟨by rfl, ?hyr11⟩) (by assumption) ?restr11
            case hyr11 => (intro w hSw; (try dsimp only at hSw); go_simp <;> with_reducible rfl)
            try simp only [Act.put, List.setIfInBounds_toArray, List.set_cons_zero, List.set_cons_succ]
            refine wpAnyH_take (i := 12) (oi := ⟨some 41, _, _, _, _, _⟩) (v := ?vr12) rfl (by kernel_rfl) (by kernel_rfl) (by kernel_rfl) (fun _ _ _ h => h) (Or.inl ⟨by rfl, ?hyr12⟩) (by assumption) ?restr12
            case hyr12 => (intro w hSw; (try dsimp only at hSw); go_simp <;> with_reducible rfl)
            try simp only [Act.put, List.setIfInBounds_toArray, List.set_cons_zero, List.set_cons_succ]
            refine wpAnyH_take (i := 13) (oi := ⟨some 42, _, _, _, _, _⟩) (v := ?vr13) rfl (by kernel_rfl) (by kernel_rfl) (by kernel_rfl) (fun _ _ _ h => h) (Or.inl ⟨by rfl, ?hyr13⟩) (by assumption) ?restr13
            case hyr13 => (intro w hSw; (try dsimp only at hSw); go_simp <;> with_reducible rfl)
            try simp only [Act.put, List.setIfInBounds_toArray, List.set_cons_zero, List.set_cons_succ]
            refine wpAnyH_take (i := 14) (oi := ⟨some 43, _, _, _, _, _⟩) (v := ?vr14) rfl (by kernel_rfl) (by kernel_rfl) (by kernel_rfl) (fun _ _ _ h => h) (Or.inl ⟨by rfl, ?hyr14⟩) (by assumption) ?restr14
            case hyr14 => (intro w hSw; (try dsimp only at hSw); go_simp <;> with_reducible rfl)
            try simp only [Act.put, List.setIfInBounds_toArray, List.set_cons_zero, List.set_cons_succ]
            refine wpAnyH_ready (rs := [2, 15]) (by kernel_rfl) (by simp) ?_
            refine AllReadyH.cons (o := ⟨some 31, _, _, _, _, _⟩) rfl (fun K hK => ?_) ?_
            · go_simp
              refine hK.out _ _ ?_ (fun hHeld => ?_)
              · (exact hAll.out _ (by repeat (first | assumption | exact Below.refl _ _ | (refine bStep ?_ (by assumption)) | (with_reducible refine bAlc ?_ _) | (with_reducible refine bDrw ?_))))
              clear hK K
              try simp only [Act.put, List.setIfInBounds_toArray, List.set_cons_zero, List.set_cons_succ]
              refine wpAnyH_ready (rs := [15]) (by kernel_rfl) (by simp) ?_
              refine AllReadyH.cons (o := ⟨some 44, _, _, _, _, _⟩) rfl (fun K hK => ?_) ?_
              · go_simp
                go_at_call 94
                refine (hOf.out _ (by repeat (first | assumption | exact Below.refl _ _ | (refine bStep ?_ (by assumption)) | (with_reducible refine bAlc ?_ _) | (with_reducible refine bDrw ?_)))).mono ?_
                rintro e w1 ⟨A1, k1, rfl, hs1, hb1⟩
                go_wp2_with fail
                refine hK.out _ _ ?_ (fun hHeld => ?_)
                · (exact hAll.out _ (by repeat (first | assumption | exact Below.refl _ _ | (refine bStep ?_ (by assumption)) | (with_reducible refine bAlc ?_ _) | (with_reducible refine bDrw ?_))))
                clear hK K
                try simp only [Act.put, List.setIfInBounds_toArray, List.set_cons_zero, List.set_cons_succ]
                refine wpAnyH_ready (rs := [16]) (by kernel_rfl) (by simp) ?_
                refine AllReadyH.cons (o := ⟨some 45, _, _, _, _, _⟩) rfl (fun K hK => ?_) ?_
                · go_simp
                  refine hK.out _ _ ?_ (fun hHeld => ?_)
                  · (exact hAll.out _ (by repeat (first | assumption | exact Below.refl _ _ | (refine bStep ?_ (by assumption)) | (with_reducible refine bAlc ?_ _) | (with_reducible refine bDrw ?_))))
                  clear hK K
                  try simp only [Act.put, List.setIfInBounds_toArray, List.set_cons_zero, List.set_cons_succ]
                  refine wpAnyH_ready (rs := [17]) (by kernel_rfl) (by simp) ?_
                  refine AllReadyH.cons (o := ⟨some 46, _, _, _, _, _⟩) rfl (fun K hK => ?_) ?_
                  · go_simp
                    go_at_call 85
                    refine (hUn.out A1 k1 _ _ (by repeat (first | assumption | exact Below.refl _ _ | (refine bStep ?_ (by assumption)) | (with_reducible refine bAlc ?_ _) | (with_reducible refine bDrw ?_))) (hs1.step (by repeat (first | assumption | exact Below.refl _ _ | (refine bStep ?_ (by assumption)) | (with_reducible refine bAlc ?_ _) | (with_reducible refine bDrw ?_)))) (Blk.new _ _ _)).mono ?_
                    rintro e w2 ⟨v2, rfl, ho2, hb2⟩
                    obtain ⟨A2, k2, rfl, hs2⟩ := hOwn.out _ _ _ ho2
                    go_wp2_with fail
                    refine hK.out _ _ ?_ (fun hHeld => ?_)
                    · (exact hAll.out _ (by repeat (first | assumption | exact Below.refl _ _ | (refine bStep ?_ (by assumption)) | (with_reducible refine bAlc ?_ _) | (with_reducible refine bDrw ?_))))
                    clear hK K
                    try simp only [Act.put, List.setIfInBounds_toArray, List.set_cons_zero, List.set_cons_succ]
                    refine wpAnyH_take (i := 18) (oi := ⟨some 28, _, _, _, _, _⟩) (v := ?vr15) rfl (by kernel_rfl) (by kernel_rfl) (by kernel_rfl) (fun _ _ _ h => h) (Or.inl ⟨by rfl, ?hyr15⟩) (by assumption) ?restr15
                    case hyr15 => (intro w hSw; (try dsimp only at hSw); go_simp <;> with_reducible rfl)
                    try simp only [Act.put, List.setIfInBounds_toArray, List.set_cons_zero, List.set_cons_succ]
                    refine wpAnyH_take (i := 19) (oi := ⟨some 47, _, _, _, _, _⟩) (v := ?vr16) rfl (by kernel_rfl) (by kernel_rfl) (by kernel_rfl) (fun _ _ _ h => h) (Or.inl ⟨by rfl, ?hyr16⟩) (by assumption) ?restr16
                    case hyr16 => (intro w hSw; (try dsimp only at hSw); go_simp <;> with_reducible rfl)
                    try simp only [Act.put, List.setIfInBounds_toArray, List.set_cons_zero, List.set_cons_succ]
                    refine wpAnyH_take (i := 20) (oi := ⟨some 48, _, _, _, _, _⟩) (v := ?vr17) rfl (by kernel_rfl) (by kernel_rfl) (by kernel_rfl) (fun _ _ _ h => h) (Or.inl ⟨by rfl, ?hyr17⟩) (by assumption) ?restr17
                    case hyr17 => (intro w hSw; (try dsimp only at hSw); go_simp <;> with_reducible rfl)
                    try simp only [Act.put, List.setIfInBounds_toArray, List.set_cons_zero, List.set_cons_succ]
                    refine wpAnyH_take (i := 21) (oi := ⟨some 7, _, _, _, _, _⟩) (v := ?vr18) rfl (by kernel_rfl) (by kernel_rfl) (by kernel_rfl) (fun _ _ _ h => h) (Or.inl ⟨by rfl, ?hyr18⟩) (by assumption) ?restr18
                    case hyr18 => (intro w hSw; (try dsimp only at hSw); go_simp <;> with_reducible rfl)
                    try simp only [Act.put, List.setIfInBounds_toArray, List.set_cons_zero, List.set_cons_succ]
                    refine wpAnyH_take (i := 22) (oi := ⟨some 8, _, _, _, _, _⟩) (v := ?vr19) rfl (by kernel_rfl) (by kernel_rfl) (by kernel_rfl) (fun _ _ _ h => h) (Or.inl ⟨by rfl, ?hyr19⟩) (by assumption) ?restr19
                    case hyr19 => (intro w hSw; (try dsimp only at hSw); go_simp <;> with_reducible rfl)
                    try simp only [Act.put, List.setIfInBounds_toArray, List.set_cons_zero, List.set_cons_succ]
                    refine wpAnyH_done (by kernel_rfl) ?_ _
                    go_wp2_with fail
                    go_meet
                    exact ⟨A2, k2, rfl, hs2, (by repeat (first | assumption | exact Below.refl _ _ | (refine bStep ?_ (by assumption)) | (with_reducible refine bAlc ?_ _) | (with_reducible refine bDrw ?_)))⟩
                  exact AllReadyH.nil
                exact AllReadyH.nil
              exact AllReadyH.nil
            refine AllReadyH.cons (o := ⟨some 44, _, _, _, _, _⟩) rfl (fun K hK => ?_) ?_
            · go_simp
              go_at_call 94
              refine (hOf.out _ (by repeat (first | assumption | exact Below.refl _ _ | (refine bStep ?_ (by assumption)) | (with_reducible refine bAlc ?_ _) | (with_reducible refine bDrw ?_)))).mono ?_
              rintro e w1 ⟨A1, k1, rfl, hs1, hb1⟩
              go_wp2_with fail
              refine hK.out _ _ ?_ (fun hHeld => ?_)
              · (exact hAll.out _ (by repeat (first | assumption | exact Below.refl _ _ | (refine bStep ?_ (by assumption)) | (with_reducible refine bAlc ?_ _) | (with_reducible refine bDrw ?_))))
              clear hK K
              try simp only [Act.put, List.setIfInBounds_toArray, List.set_cons_zero, List.set_cons_succ]
              refine wpAnyH_ready (rs := [2, 16]) (by kernel_rfl) (by simp) ?_
              refine AllReadyH.cons (o := ⟨some 31, _, _, _, _, _⟩) rfl (fun K hK => ?_) ?_
              · go_simp
                refine hK.out _ _ ?_ (fun hHeld => ?_)
                · (exact hAll.out _ (by repeat (first | assumption | exact Below.refl _ _ | (refine bStep ?_ (by assumption)) | (with_reducible refine bAlc ?_ _) | (with_reducible refine bDrw ?_))))
                clear hK K
                try simp only [Act.put, List.setIfInBounds_toArray, List.set_cons_zero, List.set_cons_succ]
                refine wpAnyH_ready (rs := [16]) (by kernel_rfl) (by simp) ?_
                refine AllReadyH.cons (o := ⟨some 45, _, _, _, _, _⟩) rfl (fun K hK => ?_) ?_
                · go_simp
                  refine hK.out _ _ ?_ (fun hHeld => ?_)
                  · (exact hAll.out _ (by repeat (first | assumption | exact Below.refl _ _ | (refine bStep ?_ (by assumption)) | (with_reducible refine bAlc ?_ _) | (with_reducible refine bDrw ?_))))
                  clear hK K
                  try simp only [Act.put, List.setIfInBounds_toArray, List.set_cons_zero, List.set_cons_succ]
                  refine wpAnyH_ready (rs := [17]) (by kernel_rfl) (by simp) ?_
                  refine AllReadyH.cons (o := ⟨some 46, _, _, _, _, _⟩) rfl (fun K hK => ?_) ?_
                  · go_simp
                    go_at_call 85
                    refine (hUn.out A1 k1 _ _ (by repeat (first | assumption | exact Below.refl _ _ | (refine bStep ?_ (by assumption)) | (with_reducible refine bAlc ?_ _) | (with_reducible refine bDrw ?_))) (hs1.step (by repeat (first | assumption | exact Below.refl _ _ | (refine bStep ?_ (by assumption)) | (with_reducible refine bAlc ?_ _) | (with_reducible refine bDrw ?_)))) (Blk.new _ _ _)).mono ?_
                    rintro e w2 ⟨v2, rfl, ho2, hb2⟩
                    obtain ⟨A2, k2, rfl, hs2⟩ := hOwn.out _ _ _ ho2
                    go_wp2_with fail
                    refine hK.out _ _ ?_ (fun hHeld => ?_)
                    · (exact hAll.out _ (by repeat (first | assumption | exact Below.refl _ _ | (refine bStep ?_ (by assumption)) | (with_reducible refine bAlc ?_ _) | (with_reducible refine bDrw ?_))))
                    clear hK K
                    try simp only [Act.put, List.setIfInBounds_toArray, List.set_cons_zero, List.set_cons_succ]
                    refine wpAnyH_take (i := 18) (oi := ⟨some 28, _, _, _, _, _⟩) (v := ?vr20) rfl (by kernel_rfl) (by kernel_rfl) (by kernel_rfl) (fun _ _ _ h => h) (Or.inl ⟨by rfl, ?hyr20⟩) (by assumption) ?restr20
                    case hyr20 => (intro w hSw; (try dsimp only at hSw); go_simp <;> with_reducible rfl)
                    try simp only [Act.put, List.setIfInBounds_toArray, List.set_cons_zero, List.set_cons_succ]
                    refine wpAnyH_take (i := 19) (oi := ⟨some 47, _, _, _, _, _⟩) (v := ?vr21) rfl (by kernel_rfl) (by kernel_rfl) (by kernel_rfl) (fun _ _ _ h => h) (Or.inl ⟨by rfl, ?hyr21⟩) (by assumption) ?restr21
                    case hyr21 => (intro w hSw; (try dsimp only at hSw); go_simp <;> with_reducible rfl)
                    try simp only [Act.put, List.setIfInBounds_toArray, List.set_cons_zero, List.set_cons_succ]
                    refine wpAnyH_take (i := 20) (oi := ⟨some 48, _, _, _, _, _⟩) (v := ?vr22) rfl (by kernel_rfl) (by kernel_rfl) (by kernel_rfl) (fun _ _ _ h => h) (Or.inl ⟨by rfl, ?hyr22⟩) (by assumption) ?restr22
                    case hyr22 => (intro w hSw; (try dsimp only at hSw); go_simp <;> with_reducible rfl)
                    try simp only [Act.put, List.setIfInBounds_toArray, List.set_cons_zero, List.set_cons_succ]
                    refine wpAnyH_take (i := 21) (oi := ⟨some 7, _, _, _, _, _⟩) (v := ?vr23) rfl (by kernel_rfl) (by kernel_rfl) (by kernel_rfl) (fun _ _ _ h => h) (Or.inl ⟨by rfl, ?hyr23⟩) (by assumption) ?restr23
                    case hyr23 => (intro w hSw; (try dsimp only at hSw); go_simp <;> with_reducible rfl)
                    try simp only [Act.put, List.setIfInBounds_toArray, List.set_cons_zero, List.set_cons_succ]
                    refine wpAnyH_take (i := 22) (oi := ⟨some 8, _, _, _, _, _⟩) (v := ?vr24) rfl (by kernel_rfl) (by kernel_rfl) (by kernel_rfl) (fun _ _ _ h => h) (Or.inl ⟨by rfl, ?hyr24⟩) (by assumption) ?restr24
                    case hyr24 => (intro w hSw; (try dsimp only at hSw); go_simp <;> with_reducible rfl)
                    try simp only [Act.put, List.setIfInBounds_toArray, List.set_cons_zero, List.set_cons_succ]
                    refine wpAnyH_done (by kernel_rfl) ?_ _
                    go_wp2_with fail
                    go_meet
                    exact ⟨A2, k2, rfl, hs2, (by repeat (first | assumption | exact Below.refl _ _ | (refine bStep ?_ (by assumption)) | (with_reducible refine bAlc ?_ _) | (with_reducible refine bDrw ?_)))⟩
                  exact AllReadyH.nil
                exact AllReadyH.nil
              refine AllReadyH.cons (o := ⟨some 45, _, _, _, _, _⟩) rfl (fun K hK => ?_) ?_
              · go_simp
                refine hK.out _ _ ?_ (fun hHeld => ?_)
                · (exact hAll.out _ (by repeat (first | assumption | exact Below.refl _ _ | (refine bStep ?_ (by assumption)) | (with_reducible refine bAlc ?_ _) | (with_reducible refine bDrw ?_))))
                clear hK K
                try simp only [Act.put, List.setIfInBounds_toArray, List.set_cons_zero, List.set_cons_succ]
                refine wpAnyH_ready (rs := [2]) (by kernel_rfl) (by simp) ?_
                refine AllReadyH.cons (o := ⟨some 31, _, _, _, _, _⟩) rfl (fun K hK => ?_) ?_
                · go_simp
                  refine hK.out _ _ ?_ (fun hHeld => ?_)
                  · (exact hAll.out _ (by repeat (first | assumption | exact Below.refl _ _ | (refine bStep ?_ (by assumption)) | (with_reducible refine bAlc ?_ _) | (with_reducible refine bDrw ?_))))
                  clear hK K
                  try simp only [Act.put, List.setIfInBounds_toArray, List.set_cons_zero, List.set_cons_succ]
                  refine wpAnyH_ready (rs := [17]) (by kernel_rfl) (by simp) ?_
                  refine AllReadyH.cons (o := ⟨some 46, _, _, _, _, _⟩) rfl (fun K hK => ?_) ?_
                  · go_simp
                    go_at_call 85
                    refine (hUn.out A1 k1 _ _ (by repeat (first | assumption | exact Below.refl _ _ | (refine bStep ?_ (by assumption)) | (with_reducible refine bAlc ?_ _) | (with_reducible refine bDrw ?_))) (hs1.step (by repeat (first | assumption | exact Below.refl _ _ | (refine bStep ?_ (by assumption)) | (with_reducible refine bAlc ?_ _) | (with_reducible refine bDrw ?_)))) (Blk.new _ _ _)).mono ?_
                    rintro e w2 ⟨v2, rfl, ho2, hb2⟩
                    obtain ⟨A2, k2, rfl, hs2⟩ := hOwn.out _ _ _ ho2
                    go_wp2_with fail
                    refine hK.out _ _ ?_ (fun hHeld => ?_)
                    · (exact hAll.out _ (by repeat (first | assumption | exact Below.refl _ _ | (refine bStep ?_ (by assumption)) | (with_reducible refine bAlc ?_ _) | (with_reducible refine bDrw ?_))))
                    clear hK K
                    try simp only [Act.put, List.setIfInBounds_toArray, List.set_cons_zero, List.set_cons_succ]
                    refine wpAnyH_take (i := 18) (oi := ⟨some 28, _, _, _, _, _⟩) (v := ?vr25) rfl (by kernel_rfl) (by kernel_rfl) (by kernel_rfl) (fun _ _ _ h => h) (Or.inl ⟨by rfl, ?hyr25⟩) (by assumption) ?restr25
                    case hyr25 => (intro w hSw; (try dsimp only at hSw); go_simp <;> with_reducible rfl)
                    try simp only [Act.put, List.setIfInBounds_toArray, List.set_cons_zero, List.set_cons_succ]
                    refine wpAnyH_take (i := 19) (oi := ⟨some 47, _, _, _, _, _⟩) (v := ?vr26) rfl (by kernel_rfl) (by kernel_rfl) (by kernel_rfl) (fun _ _ _ h => h) (Or.inl ⟨by rfl, ?hyr26⟩) (by assumption) ?restr26
                    case hyr26 => (intro w hSw; (try dsimp only at hSw); go_simp <;> with_reducible rfl)
                    try simp only [Act.put, List.setIfInBounds_toArray, List.set_cons_zero, List.set_cons_succ]
                    refine wpAnyH_take (i := 20) (oi := ⟨some 48, _, _, _, _, _⟩) (v := ?vr27) rfl (by kernel_rfl) (by kernel_rfl) (by kernel_rfl) (fun _ _ _ h => h) (Or.inl ⟨by rfl, ?hyr27⟩) (by assumption) ?restr27
                    case hyr27 => (intro w hSw; (try dsimp only at hSw); go_simp <;> with_reducible rfl)
                    try simp only [Act.put, List.setIfInBounds_toArray, List.set_cons_zero, List.set_cons_succ]
                    refine wpAnyH_take (i := 21) (oi := ⟨some 7, _, _, _, _, _⟩) (v := ?vr28) rfl (by kernel_rfl) (by kernel_rfl) (by kernel_rfl) (fun _ _ _ h => h) (Or.inl ⟨by rfl, ?hyr28⟩) (by assumption) ?restr28
                    case hyr28 => (intro w hSw; (try dsimp only at hSw); go_simp <;> with_reducible rfl)
                    try simp only [Act.put, List.setIfInBounds_toArray, List.set_cons_zero, List.set_cons_succ]
                    refine wpAnyH_take (i := 22) (oi := ⟨some 8, _, _, _, _, _⟩) (v := ?vr29) rfl (by kernel_rfl) (by kernel_rfl) (by kernel_rfl) (fun _ _ _ h => h) (Or.inl ⟨by rfl, ?hyr29⟩) (by assumption) ?restr29
                    case hyr29 => (intro w hSw; (try dsimp only at hSw); go_simp <;> with_reducible rfl)
                    try simp only [Act.put, List.setIfInBounds_toArray, List.set_cons_zero, List.set_cons_succ]
                    refine wpAnyH_done (by kernel_rfl) ?_ _
                    go_wp2_with fail
                    go_meet
                    exact ⟨A2, k2, rfl, hs2, (by repeat (first | assumption | exact Below.refl _ _ | (refine bStep ?_ (by assumption)) | (with_reducible refine bAlc ?_ _) | (with_reducible refine bDrw ?_)))⟩
                  exact AllReadyH.nil
                exact AllReadyH.nil
              exact AllReadyH.nil
            exact AllReadyH.nil
          case rest =>
            clear c0 c1 c2 c3 c4 c5 x0 x1 hAll hOf hUn hOwn hfx
            obtain ⟨A2, c2, rfl, hJs, hbx⟩ := hcut
            have hS2 := hS.step hbx
            have hG2 := hG.step hbx
            have hcx2 := cell_later hbx hcx
            have hfx2 : wc.frozen? ⟨bo, ix, none⟩ = false := by obtain ⟨_, _, _, h, _⟩ := hS2.get ix hixi; exact h
            have hS3 := hS2.put ix hJs
            have hG3 := hG2.far ⟨bo, ix, none⟩ (.slice A2 J.length c2) (by have := hbo'.out; show w.heap.size < bo; omega)
            obtain ⟨c0, c1, c2', c3, c4, c5⟩ := hG2.cells
            dsimp only at c1 c3 c5
            clear hcx hS hG hS2 hG2 hbx
            cases gr with
            | true =>
              have hEnd1 : Hid (tot ss < tot (ss'.set ix J)) := Lib.hid (by
                have h1 := hgr.out
                simp only [if_true] at h1
                have := hR5.out; have := hR3.out; omega)
              go_wp2_with fail
              go_roundg (g.prods.length - (j + 1))
              case measure => have := hj.out; omega
              case rel => exact ⟨j + 1, ss'.set ix J, true, by go_num, rfl, Lib.hid (by have := hj.out; omega), hR1, hR2, hS3, hG3, Lib.hid (by simpa using hEnd1.out)⟩
            | false =>
              by_cases hgn : D.length < J.length
              · have hEnd1 := Lib.hid (hEndT.out hgn)
                have hz : (D.length : Int) < J.length := by omega
                go_wp2_with fail
                go_roundg (g.prods.length - (j + 1))
                case measure => have := hj.out; omega
                case rel => exact ⟨j + 1, ss'.set ix J, true, by go_num, rfl, Lib.hid (by have := hj.out; omega), hR1, hR2, hS3, hG3, Lib.hid (by simpa using hEnd1.out)⟩
              · have hEnd1 := Lib.hid (hEndF.out hgn)
                have hz : ¬ (D.length : Int) < J.length := by omega
                rw [hEnd1.out.1] at hS3
                go_wp2_with fail
                go_roundg (g.prods.length - (j + 1))
                case measure => have := hj.out; omega
                case rel => exact ⟨j + 1, ss', false, by go_num, rfl, Lib.hid (by have := hj.out; omega), hfit', hsnd', hS3, hG3, Lib.hid hEnd1.out.2⟩
        · have hje : j = g.prods.length := by have := hj.out; omega
          subst hje
          have htl := Lib.hid (tot_le ss' (fun s hs => fit_len (asc_nodup (hS.asc s hs).1) (hfit'.out s hs)))
          cases gr with
          | false =>
            have hgr2 := hgr.out
            simp only [Bool.false_eq_true, if_false] at hgr2
            obtain ⟨hse, hcl⟩ := hgr2
            subst hse
            have hclo : Hid (ClosedF g.prods k ss') := Lib.hid fun p hp y hy => hcl p (by rw [List.take_length]; exact hp) y hy
            replace hcl := Lib.hid hcl
            go_wp2_with fail
            go_roundg (2 * (g.names.length * 4681 - tot ss'))
            case measure => have h1 := hgk.out; have h2 := htl.out; simp only [if_true] at h1; rw [hlen'] at h2; omega
            case rel => exact ⟨ss', false, rfl, Lib.hid (by have h2 := htl.out; rw [hlen'] at h2; simp; omega), Lib.hid (fun _ => hclo.out), hfit', hsnd', hS, hG⟩
          | true =>
            have hgr2 := hgr.out
            simp only [if_true] at hgr2
            replace hgr2 := Lib.hid hgr2
            go_wp2_with fail
            go_roundg (2 * (g.names.length * 4681 - tot ss') + 1)
            case measure => have h1 := hgk.out; have h2 := htl.out; have h3 := hgr2.out; simp only [if_true] at h1; rw [hlen'] at h2; omega
            case rel => exact ⟨ss', true, rfl, Lib.hid (by have h2 := htl.out; rw [hlen'] at h2; simp; omega), Lib.hid (by simp), hfit', hsnd', hS, hG⟩
end Go.Proofs.YtnnkfgekiaaehaaGreat

/- follow.uses: the places behind whose dot a wanted symbol stands. -/
namespace Go.Proofs.YtnnkfgekiaaehaaGreat
open Go.RowKit Go.Shelf
set_option linter.unusedVariables false
attribute [local go_sem] Oper.semAt_some
def rowU (k d : Nat) : List Int → List (Nat × Nat × Int)
  | [] => []
  | s :: l => (k, d, s) :: rowU k (d + 1) l
def prsU (k : Nat) : List PV → List (Nat × Nat × Int)
  | [] => []
  | p :: ps => rowU k 0 p.p.right ++ prsU (k + 1) ps
def usF (q : Int → Bool) (l : List (Nat × Nat × Int)) : List (Nat × Nat × Int) := l.filter fun u => q u.2.2
def usAll (q : Int → Bool) (vs : List PV) : List (Nat × Nat × Int) := usF q (prsU 0 vs)
theorem rowU_drop (k : Nat) (l : List Int) (d : Nat) (h : d < l.length) : rowU k d (l.drop d) = (k, d, l[d]) :: rowU k (d + 1) (l.drop (d + 1)) := by
  rw [List.drop_eq_getElem_cons h]; rfl
theorem prsU_drop (vs : List PV) (k : Nat) (h : k < vs.length) : prsU k (vs.drop k) = rowU k 0 vs[k].p.right ++ prsU (k + 1) (vs.drop (k + 1)) := by
  rw [List.drop_eq_getElem_cons h]; rfl
theorem rowU_mem {k : Nat} : ∀ {l : List Int} {d : Nat} {u : Nat × Nat × Int}, u ∈ rowU k d l ↔ u.1 = k ∧ d ≤ u.2.1 ∧ l[u.2.1 - d]? = some u.2.2
  | [], d, u => by simp [rowU]
  | s :: l, d, u => by
    rw [rowU, List.mem_cons, rowU_mem]
    obtain ⟨a, b, c⟩ := u
    constructor
    · rintro (h | ⟨h1, h2, h3⟩)
      · injection h with h1 h2; injection h2 with h2 h3; subst h1; subst h2; subst h3; simp
      · refine ⟨h1, by simp at *; omega, ?_⟩
        simp only at *
        rw [show b - d = (b - (d + 1)) + 1 by omega]
        simpa using h3
    · rintro ⟨h1, h2, h3⟩
      simp only at *
      by_cases e : b = d
      · left; subst e; simp at h3; rw [h1, h3]
      · right
        refine ⟨h1, by omega, ?_⟩
        rw [show b - d = (b - (d + 1)) + 1 by omega] at h3
        simpa using h3
theorem prsU_mem : ∀ {vs : List PV} {k : Nat} {u : Nat × Nat × Int}, u ∈ prsU k vs ↔ ∃ x, k ≤ u.1 ∧ vs[u.1 - k]? = some x ∧ x.p.right[u.2.1]? = some u.2.2
  | [], k, u => by simp [prsU]
  | p :: vs, k, u => by
    rw [prsU, List.mem_append, rowU_mem, prsU_mem]
    obtain ⟨a, b, c⟩ := u
    constructor
    · rintro (⟨h1, h2, h3⟩ | ⟨x, h1, h2, h3⟩)
      · simp only at *; subst h1; exact ⟨p, by omega, by simp, by simpa using h3⟩
      · simp only at *
        refine ⟨x, by omega, ?_, h3⟩
        rw [show a - k = (a - (k + 1)) + 1 by omega]; simpa using h2
    · rintro ⟨x, h1, h2, h3⟩
      simp only at *
      by_cases e : a = k
      · left; subst e; simp at h2; subst h2; exact ⟨rfl, by omega, by simpa using h3⟩
      · right
        refine ⟨x, by omega, ?_, h3⟩
        rw [show a - k = (a - (k + 1)) + 1 by omega] at h2; simpa using h2
def UseT (q : Int → Bool) (vs : List PV) : Type := { u : Nat × Nat × Int // u ∈ usAll q vs }
def encU {q : Int → Bool} {vs : List PV} (x : UseT q vs) : Array Value := #[.agg #[.int .i64 (x.1.1 : Int), .int .i64 (x.1.2.1 : Int)], .int .i64 x.1.2.2]
def mkUse {q : Int → Bool} {vs : List PV} (u : Nat × Nat × Int) (h : u ∈ usAll q vs) : UseT q vs := ⟨u, h⟩
def USt (n₀ B1 B2 : Nat) (A : Option Addr) (len cap : Nat) (vs : List PV) (fv : Value) (W : World) : Prop :=
  W.cell? ⟨B1, 5, none⟩ = some (.slice A len cap) ∧ W.cell? ⟨B2, 0, none⟩ = some fv ∧ RdV W n₀ A len vs ∧ (∀ x ∈ vs, PVok W n₀ x) ∧ n₀ ≤ W.heap.size
theorem USt.step {n₀ B1 B2 : Nat} {A : Option Addr} {len cap : Nat} {vs : List PV} {fv : Value} {W W' : World} (h : USt n₀ B1 B2 A len cap vs fv W) (hb : Below W.heap.size W W') : USt n₀ B1 B2 A len cap vs fv W' :=
  ⟨cell_later hb h.1, cell_later hb h.2.1, h.2.2.1.below (hb.mono h.2.2.2.2), fun x hx => (h.2.2.2.1 x hx).below (hb.mono h.2.2.2.2), Nat.le_trans h.2.2.2.2 hb.size⟩
set_option maxRecDepth 100000 in
set_option maxHeartbeats 4000000 in
theorem uses1_in (q : Int → Bool) (fg : Nat) (fb : Array Value) (Kp : World → World → Prop) (E : World → Prop) (n : Nat) (hn : 1 ≤ n) (l B1 B2 n₀ : Nat) (A : Option Addr) (len cap : Nat) (vs : List PV) (hlen : len ≤ 1000000) (hrl : ∀ x ∈ vs, x.p.right.length ≤ 1000000)
    (hKS : ∀ X Y, Kp X Y → USt n₀ B1 B2 A len cap vs (.func (.func fg) #[] fb) X → USt n₀ B1 B2 A len cap vs (.func (.func fg) #[] fb) Y) (hKE : ∀ X Y, Kp X Y → E X → E Y) (hEb : ∀ X Y, Below X.heap.size X Y → E X → E Y) (hKz : ∀ X Y, Kp X Y → X.heap.size ≤ Y.heap.size)
    (eg : ∀ args w, (callFunc fg args).run Tryz.prog w = .ok (.enter fg args) w)
    (hF : ∀ s W, E W → CallsIn Fence.wide (n - 1) Tryz.prog fg (#[.int .i64 s] ++ fb) W fun e W' => e = .returned (.bool (q s)) ∧ W = W')
    (J Jx : List (UseT q vs) → World → Prop)
    (hY : ∀ pre x W, J pre W → pre.length < (usAll q vs).length → YieldAt Fence.wide (n - 1) Tryz.prog l (encU x) W fun e W' =>
      (e = .returned (.bool true) ∧ J (pre ++ [x]) W' ∧ Kp W W') ∨ (e = .returned (.bool false) ∧ Jx (pre ++ [x]) W'))
    (W : World) (hJ : AbidesFrom W.heap.size J) (hSt : USt n₀ B1 B2 A len cap vs (.func (.func fg) #[] fb) W) (hE : E W) (h0 : J [] W) :
    CallsIn Fence.wide n Tryz.prog 99 #[.func (.yield l) #[] #[], .pointer (some ⟨B1, 0, none⟩), .pointer (some ⟨B2, 0, none⟩)] W fun e W' => (∃ v, e = .returned v) ∧
      ((∃ ys : List (UseT q vs), ys.map (·.1) = usAll q vs ∧ J ys W') ∨ (∃ pre : List (UseT q vs), (∃ rest, usAll q vs = pre.map (·.1) ++ rest) ∧ Jx pre W')) := by
  have hvl : vs.length = len := hSt.2.2.1.1
  have hJ' := Lib.hid hJ
  have hrl' := Lib.hid hrl
  have c5 := hSt.1
  clear hrl hJ
  refine callsIn_of_wp Tryz.func99 rfl trivial ?_ rfl
  simp only [Tryz.ntmps99, List.size_toArray, List.length_cons, List.length_nil, Nat.reduceAdd, Nat.reduceSub, Array.replicate_succ, Array.replicate_zero, List.push_toArray, List.append_toArray, List.nil_append, List.cons_append]
  gi_wp2
  gi_loopw [11] (fun i wr => ∃ (k : Nat) (done : List (Nat × Nat × Int)) (pre : List (UseT q vs)), k ≤ len ∧ i = .int .i64 k ∧ Hid (prsU 0 vs = done ++ prsU k (vs.drop k)) ∧ Hid (pre.map (·.1) = usF q done) ∧ J pre wr ∧ USt n₀ B1 B2 A len cap vs (.func (.func fg) #[] fb) wr ∧ E wr ∧ W.heap.size ≤ wr.heap.size)
    (fun i _ => len - (intOf i).toNat)
  case atStart => exact ⟨0, [], [], Nat.zero_le _, rfl, Lib.hid (by simp), Lib.hid (by simp [usF]), h0, hSt, hE, Nat.le_refl _⟩
  case round =>
    clear hSt hE h0
    obtain ⟨k, done, pre, hk, rfl, hdn, hpre, hJs, hSt, hE, hge⟩ := hrel
    by_cases hlt : k < len
    · have hkl : k < vs.length := by omega
      rcases hSt.2.2.1.2 with hz | ⟨b, off, rfl, hb, hcs⟩
      · omega
      obtain ⟨x0, x1⟩ := hcs k vs[k] (List.getElem?_eq_getElem hkl)
      have hpd := Lib.hid (prsU_drop vs k hkl)
      have hxm : vs[k] ∈ vs := List.getElem_mem hkl
      have hxr := hrl'.out _ hxm
      generalize vs[k] = x at *
      obtain ⟨⟨pl, pr⟩, ra, rc⟩ := x
      dsimp only at x0 x1 hpd hxr
      clear hcs
      have hbl : Below wr.heap.size wr (wr.alloc (.cells #[.int .i64 pl, .slice ra pr.length rc] 47)) := bAlc (Below.refl _ _) _
      have hJ1 := hJ'.out _ _ _ none hJs (World.grownBy_alloc wr (.cells #[.int .i64 pl, .slice ra pr.length rc] 47) none) (by simp)
      have hSt1 := hSt.step hbl
      have hE1 := hEb _ _ hbl hE
      have hge1 : W.heap.size ≤ (wr.alloc (.cells #[.int .i64 pl, .slice ra pr.length rc] 47)).heap.size := Nat.le_trans hge hbl.size
      have hz1 : (0 : Int) ≤ k := by omega
      have hz2 : (k : Int) < len := by omega
      gi_wp2
      clear hJs hSt hE hge hbl x0 x1
      generalize wr.alloc (.cells #[.int .i64 pl, .slice ra pr.length rc] 47) = W1 at *
      gi_loopw [19] (fun i wr => ∃ (d : Nat) (done : List (Nat × Nat × Int)) (pre : List (UseT q vs)), d ≤ pr.length ∧ i = .int .i64 d ∧ Hid (prsU 0 vs = done ++ (rowU k d (pr.drop d) ++ prsU (k + 1) (vs.drop (k + 1)))) ∧ Hid (pre.map (·.1) = usF q done) ∧ J pre wr ∧ USt n₀ B1 B2 (some ⟨b, off, none⟩) len cap vs (.func (.func fg) #[] fb) wr ∧ E wr ∧ W.heap.size ≤ wr.heap.size)
        (fun i _ => pr.length - (intOf i).toNat)
      case atStart => exact ⟨0, done, pre, Nat.zero_le _, rfl, Lib.hid (by rw [hdn.out, hpd.out]; simp), hpre, hJ1, hSt1, hE1, hge1⟩
      case round =>
        clear hJ1 hSt1 hE1 hge1 hdn hpre
        obtain ⟨d, done, pre, hd, rfl, hdn, hpre, hJs, hSt, hE, hge⟩ := hrel
        by_cases hdt : d < pr.length
        · have hsi : (ints pr)[d]? = some (.int .i64 pr[d]) := by simp [ints, hdt]
          obtain ⟨rb, roff, hra, hrb, y0⟩ := (hSt.2.2.2.1 _ hxm).1.get hsi
          dsimp only at hra
          subst hra
          have hrd := Lib.hid (rowU_drop k pr d hdt)
          have hfc := hSt.2.1
          generalize hss : pr[d] = s at *
          replace hss := Lib.hid hss
          replace hsi := Lib.hid hsi
          replace hdn := Lib.hid (show prsU 0 vs = (done ++ [(k, d, s)]) ++ (rowU k (d + 1) (pr.drop (d + 1)) ++ prsU (k + 1) (vs.drop (k + 1))) by rw [hdn.out, hrd.out]; simp)
          have hz3 : (0 : Int) ≤ d := by omega
          have hz4 : (d : Int) < pr.length := by omega
          have hc := Lib.hid (hF s wr hE)
          cases hq : q s with
          | false =>
            have hpre2 : Hid (pre.map (·.1) = usF q (done ++ [(k, d, s)])) := Lib.hid (by rw [hpre.out]; unfold usF; rw [List.filter_append]; simp [hq])
            rw [hq] at hc
            replace hq := Lib.hid hq
            gi_wp2
            refine ⟨trivial, hc.out.mono ?_⟩
            rintro e w3 ⟨rfl, rfl⟩
            gi_wp2
            refine ⟨fun _ h => (by cases h), ?_⟩
            gi_wp2
            go_roundw
            case rel => exact ⟨d + 1, done ++ [(k, d, s)], pre, by omega, by simp, hdn, hpre2, hJs, hSt, hE, hge⟩
            case measure => simp [intOf]; omega
          | true =>
            have hpre2 : Hid (usF q (done ++ [(k, d, s)]) = usF q done ++ [(k, d, s)]) := Lib.hid (by unfold usF; rw [List.filter_append]; simp [hq])
            have hall : usAll q vs = usF q (done ++ [(k, d, s)]) ++ usF q (rowU k (d + 1) (pr.drop (d + 1)) ++ prsU (k + 1) (vs.drop (k + 1))) := by
              unfold usAll; rw [hdn.out]; unfold usF; rw [List.filter_append]
            have hmem : (k, d, s) ∈ usAll q vs := by rw [hall, hpre2.out]; simp
            have hlen2 : pre.length < (usAll q vs).length := by
              have := congrArg List.length hpre.out
              rw [hall, hpre2.out]; simp at this ⊢; omega
            obtain ⟨fn, tmps, assign, body, hy, hR2⟩ := hY pre (mkUse (k, d, s) hmem) wr hJs hlen2
            dsimp only [encU, mkUse] at hy
            have hpre3 : Hid ((pre ++ [mkUse (k, d, s) hmem]).map (·.1) = usF q (done ++ [(k, d, s)])) := Lib.hid (by rw [List.map_append, hpre.out, hpre2.out]; rfl)
            replace hall := Lib.hid hall
            rw [hq] at hc
            replace hq := Lib.hid hq
            gi_wp2
            refine ⟨trivial, hc.out.mono ?_⟩
            rintro e w3 ⟨rfl, rfl⟩
            gi_wp2
            refine hR2.mono ?_
            rintro e W3 (⟨rfl, hJ3, hk3⟩ | ⟨rfl, hJx3⟩)
            · gi_wp2
              go_roundw
              case rel => exact ⟨d + 1, done ++ [(k, d, s)], _, by omega, by simp, hdn, hpre3, hJ3, hKS _ _ hk3 hSt, hKE _ _ hk3 hE, Nat.le_trans hge (hKz _ _ hk3)⟩
              case measure => simp [intOf]; omega
            · gi_wp2
              refine bodyPost_ret (results_none rfl _ _ _) rfl ?_
              exact ⟨⟨_, rfl⟩, .inr ⟨_, ⟨_, by rw [hpre3.out]; exact hall.out⟩, hJx3⟩⟩
        · have hdn2 : Hid (prsU 0 vs = done ++ prsU (k + 1) (vs.drop (k + 1))) := Lib.hid (by
            rw [hdn.out, List.drop_eq_nil_of_le (by omega)]; rfl)
          gi_wp2
          go_roundw
          case rel => exact ⟨k + 1, done, pre, by omega, by simp, hdn2, hpre, hJs, hSt, hE, hge⟩
          case measure => simp [intOf]; omega
    · have hend : pre.map (·.1) = usAll q vs := by
        rw [hpre.out]; unfold usAll; rw [hdn.out, List.drop_eq_nil_of_le (by omega)]
        show usF q done = usF q (done ++ [])
        rw [List.append_nil]
      replace hend := Lib.hid hend
      gi_wp2
      go_end0
      exact ⟨⟨_, rfl⟩, .inl ⟨_, hend.out, hJs⟩⟩
theorem uses_stops (q : Int → Bool) (fg : Nat) (fb : Array Value) (Kp : World → World → Prop) (E : World → Prop) (n : Nat) (hn : 1 ≤ n) (B1 B2 n₀ : Nat) (A : Option Addr) (len cap : Nat) (vs : List PV) (hlen : len ≤ 1000000) (hrl : ∀ x ∈ vs, x.p.right.length ≤ 1000000) (w : World)
    (hKS : ∀ X Y, Kp X Y → USt n₀ B1 B2 A len cap vs (.func (.func fg) #[] fb) X → USt n₀ B1 B2 A len cap vs (.func (.func fg) #[] fb) Y) (hKE : ∀ X Y, Kp X Y → E X → E Y) (hEb : ∀ X Y, Below X.heap.size X Y → E X → E Y) (hKz : ∀ X Y, Kp X Y → X.heap.size ≤ Y.heap.size)
    (eg : ∀ args w, (callFunc fg args).run Tryz.prog w = .ok (.enter fg args) w)
    (hF : ∀ s W, E W → CallsIn Fence.wide (n - 1) Tryz.prog fg (#[.int .i64 s] ++ fb) W fun e W' => e = .returned (.bool (q s)) ∧ W = W')
    (hSt : USt n₀ B1 B2 A len cap vs (.func (.func fg) #[] fb) w) (hE : E w) :
    SeqStopsK Fence.wide n Tryz.prog 99 #[.pointer (some ⟨B1, 0, none⟩), .pointer (some ⟨B2, 0, none⟩)] encU Kp (fun ys : List (UseT q vs) => ys.map (·.1) = usAll q vs) (fun pre => ∃ rest, usAll q vs = pre.map (·.1) ++ rest) (usAll q vs).length w :=
  fun l J Jx W hW hJ _ hY h0 =>
    uses1_in q fg fb Kp E n hn l B1 B2 n₀ A len cap vs hlen hrl hKS hKE hEb hKz eg hF J Jx hY W hJ (hSt.step hW) (hEb _ _ hW hE) h0
theorem isnont_any (s : Int) (w : World) : Calls Tryz.prog 69 #[.int .i64 s] w fun e w' => e = .returned (.bool (decide (16 ≤ s))) ∧ w = w' := by
  go_enter Tryz.func69, Tryz.ntmps69
  go_wp2_with fail
  go_ret
  exact ⟨rfl, rfl⟩
def RetU (w : World) (g : Gr) (a : GA) (fv : Value) (e : Ending) (w' : World) : Prop :=
  e = .returned (.func (.func 99) #[] #[.pointer (some ⟨w.heap.size, 0, none⟩), .pointer (some ⟨w.heap.size + 1, 0, none⟩)]) ∧ w' = (w.alloc (.cells (gcells g a) 25)).alloc (.cells #[fv] 98)
theorem mkuses_any (g : Gr) (a : GA) (fg : Nat) (fb : Array Value) (w : World) : Calls Tryz.prog 57 #[gval g a, .func (.func fg) #[] fb] w (RetU w g a (.func (.func fg) #[] fb)) := by
  have hP := Lib.hid (show RetU w g a (.func (.func fg) #[] fb) (.returned (.func (.func 99) #[] #[.pointer (some ⟨w.heap.size, 0, none⟩), .pointer (some ⟨w.heap.size + 1, 0, none⟩)])) ((w.alloc (.cells (gcells g a) 25)).alloc (.cells #[.func (.func fg) #[] fb] 98)) from ⟨rfl, rfl⟩)
  unfold gval gcells at *
  go_enter Tryz.func57, Tryz.ntmps57
  go_wp2_with fail
  go_ret
  exact hP.out
end Go.Proofs.YtnnkfgekiaaehaaGreat

/- A drawn region that calls and lays blocks, inside a round of a range over a function. -/
namespace Go
section
variable {P : Program} {ops : Array Oper} {md : Region.Mode} {n l : Nat}
def OnlyN (R : Act → World → Prop) : Exit → Act → World → Prop := fun e a w => e = .normal ∧ R a w
theorem not_letsOut (R : Act → World → Prop) : ¬ LetsOut (OnlyN R) := fun ⟨_, _, h, _⟩ => by cases h
theorem rowsIn_of_rows {row : String} {args : Array Value} {w : World} {R : Value → World → Prop} (h : Rows P row args w R) : RowsIn (Fence.wide.inRound l) n P row args w R :=
  fun c cs _ => let ⟨v, w', r, s⟩ := h c cs; ⟨v, w', r, stepsIn_wide.2 s⟩
theorem Oper.wpIn_of_wpR {o : Oper} {a : Act} {w : World} {K : Act → World → Prop} {R : Act → World → Prop} (hd : ∀ c, o.op ≠ .defer c) (h : o.wp P a w K (OnlyN R)) :
    o.wpIn (Fence.wide.inRound l) n P a w K (OnlyN R) := by
  unfold Oper.wp at h
  unfold Oper.wpIn
  refine ⟨fun _ _ => trivial, ?_⟩
  rw [Fence.inRound_round, Oper.semAt_some l _ _ hd]
  generalize (execOp a.eval o).run P w = r at *
  cases r with
  | ok x w' =>
    cases x <;> simp only [Oper.upon] at h <;> simp only [Oper.uponIn]
    case value v => exact h
    case skip => exact h
    case defer d => exact h
    case enter f args =>
      refine ⟨fun h0 => absurd h0 (by simp [Fence.wide]), CallsIn.inRound l (callsIn_wide.2 (h.mono fun e w'' he => ?_))⟩
      cases e with
      | returned v => exact he
      | panicked c => exact he
      | outgrown => exact he
    case row row args => exact ⟨fun h0 => absurd h0 (by simp [Fence.wide]), rowsIn_of_rows h⟩
  | halt x w' =>
    cases x <;> simp only [Oper.upon] at h <;> simp only [Oper.uponIn] <;> exact h
theorem wpOpIn_of_wpOpR {i : Nat} {a : Act} {w : World} {K K' : Act → World → Prop} {R : Act → World → Prop} (hnd : noDefer ops = true) (hK : ∀ a w, K a w → K' a w) (h : wpOp P ops (OnlyN R) i K a w) :
    wpOpIn (Fence.wide.inRound l) n P ops (OnlyN R) i K' a w := by
  unfold wpOp at h
  unfold wpOpIn
  split
  · rename_i ho; simp only [ho] at h; exact hK _ _ h
  · rename_i o ho
    simp only [ho] at h
    split
    · rename_i hw
      simp only [hw, if_true] at h
      rcases h with h | h
      · exact Oper.wpIn_mono (fun a w h => hK a w h) (Oper.wpIn_of_wpR (noDefer_spec hnd i o ho) h)
      · exact absurd h.2 (not_letsOut R)
    · rename_i hw
      simp only [hw] at h
      exact ⟨fun _ _ => trivial, hK _ _ h⟩
theorem wpAnyIn_of_wpAnyR {R : Act → World → Prop} (hnd : noDefer ops = true) : ∀ (fuel : Nat) (listed : Array Bool) (a : Act) (w : World),
    wpAny P md ops (OnlyN R) fuel listed a w → wpAnyIn (Fence.wide.inRound l) n P md ops (OnlyN R) fuel listed a w
  | 0, _, _, _, h => h
  | fuel + 1, _, _, _, h => ⟨h.1, fun i hi => wpOpIn_of_wpOpR hnd (fun a' w' h' => wpAnyIn_of_wpAnyR hnd fuel _ a' w' h') (h.2 i hi)⟩
theorem wpIn_region_held_drewR {id : Nat} {a : Act} {w : World} {S : World → Prop} {Q : Exit → Act → World → Prop} (hnd : noDefer ops = true) (hm : P.follows .mixedOrders = true) (hS : S w.drew)
    (h : S w.drew → wpAnyH P .any ops (OnlyN (Q .normal)) S ops.size (Array.replicate ops.size false) a w.drew) : (Code.region id ops true).wpIn (Fence.wide.inRound l) n P Q a w :=
  wpIn_mono (wpIn_region_any hm (wpAnyIn_of_wpAnyR hnd _ _ _ _ (wpAny_of_held _ _ _ _ (h hS)))) (fun e a w h => by obtain ⟨rfl, h⟩ := h; exact h)
end
end Go
