/- Walks and plain laws, part 6 of 11: The reference 16: firsts; The reference 16: follows. Conditions: none beyond those that each theorem states. -/
import Derived.Test.YtnnkfgekiaaehaaGreatB5
import Derived.Deep.OwnRows
import Derived.Deep.DeepCutAuto
/- The reference 16: firsts. -/
namespace Go.Proofs.YtnnkfgekiaaehaaGreat
open Go.ChangeShapes Go.WideShapes Go.ChangeAt Go.RowKit
set_option linter.unusedVariables false

/-- what firsts hands back -/
def RetFs (g : Gr) (k : Nat) (w : World) (e : Ending) (w' : World) : Prop :=
  ∃ b ss, e = .returned (.slice (some ⟨b, 0, none⟩) g.names.length g.names.length) ∧ SetsA w' b g.names.length g.toks.length ss ∧ w.heap.size ≤ b ∧ SetsFit k ss ∧ SoundF g.prods k ss ∧ ClosedF g.prods k ss ∧ Below w.heap.size w w'
theorem under50 : Tryz.prog.underlying 50 = some (.slice 28) := by kernel_rfl
theorem info28 : (Tryz.prog.info? 28).map (fun i => (i.zero, i.size, i.bytes)) = some (some (.slice none 0 0), 1, 24) := by kernel_rfl
theorem fl_rightG {g : Gr} {k : Nat} (hok : GOk g k) {l : List Int} (hl : ∀ s ∈ l, s < 16 → 0 ≤ s ∧ s < g.toks.length) {x : Lk} (h : FL g.prods k l x) : x.right g.toks.length :=
  (fl_right hok.k1 hok.k4 (by have := hok.tk; omega) (fun p hp s hs h16 => by have := (hok.pr p hp).2.2 s hs; omega) h hl).1
/-- a look more in the sets is sound -/
theorem first_sound {g : Gr} {k : Nat} (hok : GOk g k) {ss : List (List Lk)} (hn : ss.length = g.names.length) (hf : SetsFit k ss) (hs : SoundF g.prods k ss) {p : Pr} (hp : p ∈ g.prods) (J : List Lk) (hJ : ∀ x, x ∈ J ↔ x ∈ ss.getD (p.left - 16).toNat [] ∨ x ∈ tailL k ss p.right) :
    SoundF g.prods k (ss.set (p.left - 16).toNat J) := by
  have hpr := hok.pr p hp
  have hi : (p.left - 16).toNat < ss.length := by omega
  intro i y hy
  rw [getD_set ss _ _ _ hi] at hy
  split at hy
  · rename_i e
    subst e
    rcases (hJ y).1 hy with h | h
    · exact hs _ y h
    · exact ⟨p, hp, by omega, tail_sound hok.k1 hok.k4 hf hs _ (hok.sym hp) y h⟩
  · exact hs i y hy

set_option maxRecDepth 100000 in
set_option maxHeartbeats 4000000 in
theorem firsts_any (g : Gr) (a : GA) (k : Nat) (hok : GOk g k) (w : World) (hg : GrAt w w.heap.size g a) : Calls Tryz.prog 42 #[gval g a] w (RetFs g k w) := by
  have hP := Lib.hid (fun (b : Nat) (ss : List (List Lk)) (w' : World) (h1 : SetsA w' b g.names.length g.toks.length ss) (h3 : w.heap.size ≤ b) (h4 : SetsFit k ss) (h5 : SoundF g.prods k ss) (h6 : ClosedF g.prods k ss) (h7 : Below w.heap.size w w') =>
    (show RetFs g k w (.returned (.slice (some ⟨b, 0, none⟩) g.names.length g.names.length)) w' from ⟨b, ss, rfl, h1, h3, h4, h5, h6, h7⟩))
  obtain ⟨ta, tc, na, nc, pa, pc⟩ := a
  have hok' := Lib.hid hok
  have hG0 := GB.start hg
  have hOfA := Lib.hid (fun (l : List Int) hl (bo : Nat) (ss : List (List Lk)) (RA : Option Addr) (rc : Nat) (W : World) hg hS hf hR hln => refof_ok g ⟨ta, tc, na, nc, pa, pc⟩ k hok l hl bo ss RA rc W hg hS hf hR hln)
  have hk := Lib.hid hok.k1
  have hk4 := Lib.hid hok.k4
  have hn8' := Lib.hid hok.nm
  have hm := Lib.hid hok.tk
  have hp24 := Lib.hid hok.pl
  obtain ⟨i28, hi28, hq0, hq1, hq2⟩ := info_parts info28
  clear hg hok
  unfold gval at *
  unfold gcells at *
  dsimp only at *
  go_enter Tryz.func42, Tryz.ntmps42
  go_upto_region 2 with (at_make; refine wpList_make_row _ rfl _ _ 50 rfl 28 i28 (.slice none 0 0) under50 hi28 hq0 hq1 rfl _ _ g.names.length rfl rfl (by rw [hq2]; have := hn8'.out; omega) (by have := hn8'.out; omega) ?_)
  have q0 := Blk.newAt (w.alloc (.cells #[.int .i64 g.k, .slice ta g.toks.length tc, .string g.sep, .slice na g.names.length nc, .int .i64 g.start, .slice pa g.prods.length pc] 25)) 28 (madeCells #[.slice none 0 0] g.names.length) (w.heap.size + 1) (by simp)
  have hS0 := SetsA.new (m := g.toks.length) q0
  have hG1 := hG0.alloc (.cells (madeCells #[.slice none 0 0] g.names.length) 28)
  clear q0 hG0
  generalize (w.alloc (.cells #[.int .i64 g.k, .slice ta g.toks.length tc, .string g.sep, .slice na g.names.length nc, .int .i64 g.start, .slice pa g.prods.length pc] 25)).alloc (.cells (madeCells #[.slice none 0 0] g.names.length) 28) = W1 at *
  obtain ⟨bo, hbo⟩ : ∃ bo, bo = w.heap.size + 1 := ⟨_, rfl⟩
  rw [← hbo] at hS0 ⊢
  have hbo' := Lib.hid hbo
  clear hbo
  have hfit0 : Hid (SetsFit k (List.replicate g.names.length ([] : List Lk))) := Lib.hid (by intro s hs x hx; rw [List.eq_of_mem_replicate hs] at hx; cases hx)
  have hsnd0 : Hid (SoundF g.prods k (List.replicate g.names.length ([] : List Lk))) := Lib.hid (by
    intro j y hy
    rw [List.getD_eq_getElem?_getD, List.getElem?_replicate] at hy
    split at hy <;> simp at hy)
  have htot0 : Hid (tot (List.replicate g.names.length ([] : List Lk)) = 0) := Lib.hid (by simp [tot])
  generalize List.replicate g.names.length ([] : List Lk) = ss0 at *
  go_wp2_with fail
  go_loopg [4] (2 * (g.names.length * 4681) + 1) (fun gk s4 wr => ∃ (ss : List (List Lk)) (gr : Bool), s4 = .bool gr ∧ Hid (2 * tot ss + gk = 2 * (g.names.length * 4681) + (if gr then 1 else 0)) ∧ Hid (gr = false → ClosedF g.prods k ss) ∧ Hid (SetsFit k ss) ∧ Hid (SoundF g.prods k ss) ∧ SetsA wr bo g.names.length g.toks.length ss ∧ GB w g ⟨ta, tc, na, nc, pa, pc⟩ wr)
  case atStart => exact ⟨ss0, true, rfl, Lib.hid (by have := htot0.out; simp; omega), Lib.hid (by simp), hfit0, hsnd0, hS0, hG1⟩
  case round =>
    clear hS0 hG1 htot0 hfit0 hsnd0 ss0
    obtain ⟨ss, gr0, rfl, hgk, hcl0, hfit, hsnd, hS, hG⟩ := hrel
    cases gr0 with
    | false =>
      have hclo := Lib.hid (hcl0.out rfl)
      replace hcl0 := Lib.hid hcl0
      go_wp2_with fail
      go_ret
      exact hP.out bo ss _ hS (by have := hbo'.out; omega) hfit.out hsnd.out hclo.out hG.2.2
    | true =>
      clear hcl0
      obtain ⟨c0, c1, c2, c3, c4, c5⟩ := hG.cells
      dsimp only at c1 c3 c5
      go_wp2_with fail
      clear c0 c1 c2 c3 c4 c5
      go_loopg [4, 5] g.prods.length (fun gk2 s4 s5 wr => ∃ (j : Nat) (ss' : List (List Lk)) (gr : Bool), s5 = .int .i64 j ∧ s4 = .bool gr ∧ Hid (j + gk2 = g.prods.length) ∧ Hid (SetsFit k ss') ∧ Hid (SoundF g.prods k ss') ∧ SetsA wr bo g.names.length g.toks.length ss' ∧ GB w g ⟨ta, tc, na, nc, pa, pc⟩ wr ∧
        Hid (if gr then tot ss < tot ss' else ss' = ss ∧ ∀ p ∈ g.prods.take j, ∀ y ∈ tailL k ss p.right, y ∈ ss.getD (p.left - 16).toNat []))
      case atStart => exact ⟨0, ss, false, rfl, rfl, Lib.hid (by omega), hfit, hsnd, hS, hG, Lib.hid (by simp)⟩
      case round =>
        clear hS hG hfit hsnd
        obtain ⟨j, ss', gr, rfl, rfl, hj, hfit', hsnd', hS, hG, hgr⟩ := hrel
        obtain ⟨c0, c1, c2, c3, c4, c5⟩ := hG.cells
        dsimp only at c1 c3 c5
        have hlen' := hS.1
        by_cases hjn : j < g.prods.length
        · have hxi : g.prods[j]? = some g.prods[j] := List.getElem?_eq_getElem hjn
          obtain ⟨b, off, hA, hbt, x0, RA, rc, x1, hx2, hx3, hx4⟩ := hG.2.1.prods.get hxi
          dsimp only at hA
          subst hA
          have hmem := List.getElem_mem hjn
          have htk : g.prods.take (j + 1) = g.prods.take j ++ [g.prods[j]] := List.take_succ_eq_append_getElem hjn
          have hpr := hok'.out.pr _ hmem
          have hsy := hok'.out.sym hmem
          have hsnF := first_sound hok'.out hlen' hfit'.out hsnd'.out hmem
          generalize g.prods[j] = p at *
          have hTf := tail_fit hk.out hk4.out hfit'.out p.right hsy
          have hTa := tail_asc hk.out hk4.out hfit'.out p.right hsy
          have hTs := tail_sound hk.out hk4.out hfit'.out hsnd'.out p.right hsy
          have hTr : ∀ x ∈ tailL k ss' p.right, x.right g.toks.length := fun x hx => fl_rightG hok'.out (fun s hs h16 => by have := hpr.2.2 s hs; omega) (hTs x hx)
          obtain ⟨ix, hix⟩ := Int.eq_ofNat_of_zero_le (show 0 ≤ p.left - 16 by omega)
          have hixn : (p.left - 16).toNat = ix := by omega
          rw [hixn] at hsnF
          have hixi : ix < g.names.length := by omega
          obtain ⟨hA0, hR0⟩ := hS.asc (ss'.getD ix []) (by rw [List.getD_eq_getElem?_getD, List.getElem?_eq_getElem (by omega)]; exact List.getElem_mem (by omega))
          have hR := round_merge (ps := g.prods) (k := k) (m := g.toks.length) (P := SoundF g.prods k) (by have := hm.out; omega) (by have := hm.out; omega) (show ix < ss'.length by omega) hfit'.out hA0 hR0 hTf hTa hTr hsnF
          have zw : IntKind.i64.wrap (p.left - 16) = (ix : Int) := by rw [hix]; exact IntWalk.i64_in _ (by have := hn8'.out; omega)
          have hzx : (0 : Int) ≤ ix := by omega
          have hzy : (ix : Int) < g.names.length := by omega
          have hzj : (0 : Int) ≤ j := by omega
          have hzk : (j : Int) < g.prods.length := by omega
          have hzl : g.prods.length ≤ 24 := hp24.out
          obtain ⟨X, xc, hcx, hfx, hX⟩ := hS.get ix hixi
          have hb0 : Below w.heap.size w wr := hG.2.2
          have hOf : Hid (∀ W', Below wr.heap.size wr W' → Calls Tryz.prog 41 #[.agg #[.int .i64 g.k, .slice ta g.toks.length tc, .string g.sep, .slice na g.names.length nc, .int .i64 g.start, .slice (some ⟨b, off, none⟩) g.prods.length pc], .slice (some ⟨bo, 0, none⟩) g.names.length g.names.length, .slice RA p.right.length rc] W' (RetSt g.toks.length (tailL k ss' p.right) W')) :=
            Lib.hid fun W' hb => hOfA.out p.right hpr.2.2 bo ss' RA rc W' (((hG.step hb).2.1).mono (by have := hG.lt; have := hb.size; omega)) (hS.step hb) hfit'.out ((hx2.mono (by have := hG.lt; omega)).below hb |>.mono hb.size) (by omega)
          have hUn : Hid (∀ A1 k1 gq W', Below wr.heap.size wr W' → SetAt W' g.toks.length A1 (tailL k ss' p.right).length k1 (tailL k ss' p.right) → Blk W' gq 28 #[.slice X (ss'.getD ix []).length xc, .slice A1 (tailL k ss' p.right).length k1] →
              Calls Tryz.prog 85 #[.int .i64 g.toks.length, .slice (some ⟨gq, 0, none⟩) 2 2] W' (RetL0 W' (lmerge (ss'.getD ix []) (tailL k ss' p.right)))) :=
            Lib.hid fun A1 k1 gq W' hb h1 q => union_ok g.toks.length gq X A1 _ _ xc k1 _ _ W' (by have := hm.out; omega) (by have := hm.out; omega) (hX.step hb) h1 q
          have hOwn : Hid (∀ (W' : World) (base : Nat) (v : Value), OwnL W' base v (lmerge (ss'.getD ix []) (tailL k ss' p.right)) → ∃ A c, v = .slice A (lmerge (ss'.getD ix []) (tailL k ss' p.right)).length c ∧ SetAt W' g.toks.length A (lmerge (ss'.getD ix []) (tailL k ss' p.right)).length c (lmerge (ss'.getD ix []) (tailL k ss' p.right))) :=
            Lib.hid fun W' base v h => SetAt.of_own h hR.right (by have := hm.out; omega) hR.asc
          have hR1 := Lib.hid hR.fit
          have hR2 := Lib.hid hR.sound
          have hR3 := Lib.hid hR.grow
          have hR4 := Lib.hid hR.same
          have hR5 := Lib.hid hR.tot
          clear hR hTf hTa hTs hTr hsnF hA0 hR0
          replace hxi := Lib.hid hxi
          replace htk := Lib.hid htk
          replace hmem := Lib.hid hmem
          replace hpr := Lib.hid hpr
          replace hsy := Lib.hid hsy
          replace hixn := Lib.hid hixn
          replace hix := Lib.hid hix
          generalize lmerge (ss'.getD ix []) (tailL k ss' p.right) = J at *
          generalize hT : tailL k ss' p.right = T at *
          replace hT := Lib.hid hT
          have hEndT : Hid ((ss'.getD ix []).length < J.length → tot ss < tot (ss'.set ix J)) := Lib.hid fun h => by
            have h5 := hR5.out
            have h6 : tot ss ≤ tot ss' := by
              have := hgr.out
              cases gr
              · simp only [Bool.false_eq_true, if_false] at this; rw [this.1]; exact Nat.le_refl _
              · simp only [if_true] at this; omega
            omega
          have hEndF : Hid (¬ (ss'.getD ix []).length < J.length → ss'.set ix J = ss' ∧ (if gr then tot ss < tot ss' else ss' = ss ∧ ∀ q ∈ g.prods.take (j + 1), ∀ y ∈ tailL k ss q.right, y ∈ ss.getD (q.left - 16).toNat [])) := Lib.hid fun h => by
            obtain ⟨h1, h2⟩ := hR4.out (by have := hR3.out; omega)
            refine ⟨h1, ?_⟩
            have := hgr.out
            cases gr
            · simp only [Bool.false_eq_true, if_false] at this ⊢
              obtain ⟨rfl, h4⟩ := this
              refine ⟨rfl, fun q hq y hy => ?_⟩
              rw [htk.out] at hq
              rcases List.mem_append.1 hq with hq | hq
              · exact h4 q hq y hy
              · simp at hq; subst hq
                rw [hixn.out]; rw [hT.out] at hy; exact h2 y hy
            · simpa using this
          generalize ss'.getD ix [] = D at *
          go_upto_region 9 with (fail)
          have hAll : Hid (∀ w', Below wr.heap.size wr w' → w'.cell? ⟨w.heap.size, 0, none⟩ = some (.int .i64 g.k) ∧ w'.cell? ⟨w.heap.size, 1, none⟩ = some (.slice ta g.toks.length tc) ∧ w'.cell? ⟨w.heap.size, 2, none⟩ = some (.string g.sep) ∧ w'.cell? ⟨w.heap.size, 3, none⟩ = some (.slice na g.names.length nc) ∧ w'.cell? ⟨w.heap.size, 4, none⟩ = some (.int .i64 g.start) ∧ w'.cell? ⟨w.heap.size, 5, none⟩ = some (.slice (some ⟨b, off, none⟩) g.prods.length pc) ∧
              w'.cell? ⟨b, off + j * 2 + 1, none⟩ = some (.slice RA p.right.length rc) ∧ w'.cell? ⟨bo, ix, none⟩ = some (.slice X D.length xc) ∧ Below wr.heap.size wr w') :=
            Lib.hid fun w' h => ⟨cell_later h c0, cell_later h c1, cell_later h c2, cell_later h c3, cell_later h c4, cell_later h c5, cell_later h x1, cell_later h hcx, h⟩
          go_cut [7] (fun s7 wx => ∃ A2 c2, s7 = .slice A2 J.length c2 ∧ SetAt wx g.toks.length A2 J.length c2 J ∧ Below wr.heap.size wr wx)
          case first =>
            refine wp_region_held_drew (S := (fun w' => w'.cell? ⟨w.heap.size, 0, none⟩ = some (.int .i64 g.k) ∧ w'.cell? ⟨w.heap.size, 1, none⟩ = some (.slice ta g.toks.length tc) ∧ w'.cell? ⟨w.heap.size, 2, none⟩ = some (.string g.sep) ∧ w'.cell? ⟨w.heap.size, 3, none⟩ = some (.slice na g.names.length nc) ∧ w'.cell? ⟨w.heap.size, 4, none⟩ = some (.int .i64 g.start) ∧ w'.cell? ⟨w.heap.size, 5, none⟩ = some (.slice (some ⟨b, off, none⟩) g.prods.length pc) ∧
              w'.cell? ⟨b, off + j * 2 + 1, none⟩ = some (.slice RA p.right.length rc) ∧ w'.cell? ⟨bo, ix, none⟩ = some (.slice X D.length xc) ∧ Below wr.heap.size wr w')) (by kernel_rfl) (hAll.out _ (bDrw (Below.refl _ _))) (fun hHeld => ?_)
            refine wpAnyH_take (i := 0) (oi := ⟨some 29, _, _, _, _, _⟩) (v := ?vr1) rfl (by kernel_rfl) (by kernel_rfl) (by kernel_rfl) (fun _ _ _ h => h) (Or.inl ⟨by rfl, ?hyr1⟩) (by assumption) ?restr1
            case hyr1 => (intro w hSw; (try dsimp only at hSw); go_simp <;> with_reducible rfl)
            try simp only [Act.put, List.setIfInBounds_toArray, List.set_cons_zero, List.set_cons_succ]
            refine wpAnyH_take (i := 1) (oi := ⟨some 30, _, _, _, _, _⟩) (v := ?vr2) rfl (by kernel_rfl) (by kernel_rfl) (by kernel_rfl) (fun _ _ _ h => h) (Or.inl ⟨by rfl, ?hyr2⟩) (by assumption) ?restr2
            case hyr2 => (intro w hSw; (try dsimp only at hSw); go_simp <;> with_reducible rfl)
            try simp only [Act.put, List.setIfInBounds_toArray, List.set_cons_zero, List.set_cons_succ]
            refine wpAnyH_take (i := 3) (oi := ⟨some 32, _, _, _, _, _⟩) (v := ?vr3) rfl (by kernel_rfl) (by kernel_rfl) (by kernel_rfl) (fun _ _ _ h => h) (Or.inl ⟨by rfl, ?hyr3⟩) (by assumption) ?restr3
            case hyr3 => (intro w hSw; (try dsimp only at hSw); go_simp <;> with_reducible rfl)
            try simp only [Act.put, List.setIfInBounds_toArray, List.set_cons_zero, List.set_cons_succ]
            refine wpAnyH_take (i := 4) (oi := ⟨some 33, _, _, _, _, _⟩) (v := ?vr4) rfl (by kernel_rfl) (by kernel_rfl) (by kernel_rfl) (fun _ _ _ h => h) (Or.inl ⟨by rfl, ?hyr4⟩) (by assumption) ?restr4
            case hyr4 => (intro w hSw; (try dsimp only at hSw); go_simp <;> with_reducible rfl)
            try simp only [Act.put, List.setIfInBounds_toArray, List.set_cons_zero, List.set_cons_succ]
            refine wpAnyH_take (i := 5) (oi := ⟨some 34, _, _, _, _, _⟩) (v := ?vr5) rfl (by kernel_rfl) (by kernel_rfl) (by kernel_rfl) (fun _ _ _ h => h) (Or.inl ⟨by rfl, ?hyr5⟩) (by assumption) ?restr5
            case hyr5 => (intro w hSw; (try dsimp only at hSw); go_simp <;> with_reducible rfl)
            try simp only [Act.put, List.setIfInBounds_toArray, List.set_cons_zero, List.set_cons_succ]
            refine wpAnyH_take (i := 6) (oi := ⟨some 35, _, _, _, _, _⟩) (v := ?vr6) rfl (by kernel_rfl) (by kernel_rfl) (by kernel_rfl) (fun _ _ _ h => h) (Or.inl ⟨by rfl, ?hyr6⟩) (by assumption) ?restr6
            case hyr6 => (intro w hSw; (try dsimp only at hSw); go_simp <;> with_reducible rfl)
            try simp only [Act.put, List.setIfInBounds_toArray, List.set_cons_zero, List.set_cons_succ]
            refine wpAnyH_take (i := 7) (oi := ⟨some 36, _, _, _, _, _⟩) (v := ?vr7) rfl (by kernel_rfl) (by kernel_rfl) (by kernel_rfl) (fun _ _ _ h => h) (Or.inl ⟨by rfl, ?hyr7⟩) (by assumption) ?restr7
            case hyr7 => (intro w hSw; (try dsimp only at hSw); go_simp <;> with_reducible rfl)
            try simp only [Act.put, List.setIfInBounds_toArray, List.set_cons_zero, List.set_cons_succ]
            refine wpAnyH_take (i := 8) (oi := ⟨some 37, _, _, _, _, _⟩) (v := ?vr8) rfl (by kernel_rfl) (by kernel_rfl) (by kernel_rfl) (fun _ _ _ h => h) (Or.inl ⟨by rfl, ?hyr8⟩) (by assumption) ?restr8
            case hyr8 => (intro w hSw; (try dsimp only at hSw); go_simp <;> with_reducible rfl)
            try simp only [Act.put, List.setIfInBounds_toArray, List.set_cons_zero, List.set_cons_succ]
            refine wpAnyH_take (i := 9) (oi := ⟨some 38, _, _, _, _, _⟩) (v := ?vr9) rfl (by kernel_rfl) (by kernel_rfl) (by kernel_rfl) (fun _ _ _ h => h) (Or.inl ⟨by rfl, ?hyr9⟩) (by assumption) ?restr9
            case hyr9 => (intro w hSw; (try dsimp only at hSw); go_simp <;> with_reducible rfl)
            try simp only [Act.put, List.setIfInBounds_toArray, List.set_cons_zero, List.set_cons_succ]
            refine wpAnyH_take (i := 10) (oi := ⟨some 39, _, _, _, _, _⟩) (v := ?vr10) rfl (by kernel_rfl) (by kernel_rfl) (by kernel_rfl) (fun _ _ _ h => h) (Or.inl ⟨by rfl, ?hyr10⟩) (by assumption) ?restr10
            case hyr10 => (intro w hSw; (try dsimp only at hSw); go_simp <;> with_reducible rfl)
            try simp only [Act.put, List.setIfInBounds_toArray, List.set_cons_zero, List.set_cons_succ]
            refine wpAnyH_take (i := 11) (oi := ⟨some 40, _, _, _, _, _⟩) (v := ?vr11) rfl (by kernel_rfl) (by kernel_rfl) (by kernel_rfl) (fun _ _ _ h => h) (Or.inl ⟨by rfl, ?hyr11⟩) (by assumption) ?restr11
            case hyr11 => (intro w hSw; (try dsimp only at hSw); go_simp <;> with_reducible rfl)
            try simp only [Act.put, List.setIfInBounds_toArray, List.set_cons_zero, List.set_cons_succ]
            refine wpAnyH_take (i := 12) (oi := ⟨some 41, _, _, _, _, _⟩) (v := ?vr12) rfl (by kernel_rfl) (by kernel_rfl) (by kernel_rfl) (fun _ _ _ h => h) (Or.inl ⟨by rfl, ?hyr12⟩) (by assumption) ?restr12
            case hyr12 => (intro w hSw; (try dsimp only at hSw); go_simp <;> with_reducible rfl)
            try simp only [Act.put, List.setIfInBounds_toArray, List.set_cons_zero, List.set_cons_succ]
            refine wpAnyH_take (i := 13) (oi := ⟨some 42, _, _, _, _, _⟩) (v := ?vr13) rfl (by kernel_rfl) (by kernel_rfl) (by kernel_rfl) (fun _ _ _ h => h) (Or.inl ⟨by rfl, ?hyr13⟩) (by assumption) ?restr13
            case hyr13 => (intro w hSw; (try dsimp only at hSw); go_simp <;> with_reducible rfl)
            try simp only [Act.put, List.setIfInBounds_toArray, List.set_cons_zero, List.set_cons_succ]
            refine wpAnyH_take (i := 14) (oi := ⟨some 43, _, _, _, _, _⟩) (v := ?vr14) rfl (by kernel_rfl) (by kernel_rfl) (by kernel_rfl) (fun _ _ _ h => h) (Or.inl ⟨by rfl, ?hyr14⟩) (by assumption) ?restr14
            case hyr14 => (intro w hSw; (try dsimp only at hSw); go_simp <;> with_reducible rfl)
            try simp only [Act.put, List.setIfInBounds_toArray, List.set_cons_zero, List.set_cons_succ]
            refine wpAnyH_ready (rs := [2, 15]) (by kernel_rfl) (by simp) ?_
            refine AllReadyH.cons (o := ⟨some 31, _, _, _, _, _⟩) rfl (fun K hK => ?_) ?_
            · go_simp
              refine hK.out _ _ ?_ (fun hHeld => ?_)
              · (exact hAll.out _ (by repeat (first | assumption | exact Below.refl _ _ | (refine bStep ?_ (by assumption)) | (with_reducible refine bAlc ?_ _) | (with_reducible refine bDrw ?_))))
              clear hK K
              try simp only [Act.put, List.setIfInBounds_toArray, List.set_cons_zero, List.set_cons_succ]
              refine wpAnyH_ready (rs := [15]) (by kernel_rfl) (by simp) ?_
              refine AllReadyH.cons (o := ⟨some 44, _, _, _, _, _⟩) rfl (fun K hK => ?_) ?_
              · go_simp
                go_at_call 41
                refine (hOf.out _ (by repeat (first | assumption | exact Below.refl _ _ | (refine bStep ?_ (by assumption)) | (with_reducible refine bAlc ?_ _) | (with_reducible refine bDrw ?_)))).mono ?_
                rintro e w1 ⟨A1, k1, rfl, hs1, hb1⟩
                go_wp2_with fail
                refine hK.out _ _ ?_ (fun hHeld => ?_)
                · (exact hAll.out _ (by repeat (first | assumption | exact Below.refl _ _ | (refine bStep ?_ (by assumption)) | (with_reducible refine bAlc ?_ _) | (with_reducible refine bDrw ?_))))
                clear hK K
                try simp only [Act.put, List.setIfInBounds_toArray, List.set_cons_zero, List.set_cons_succ]
                refine wpAnyH_ready (rs := [16]) (by kernel_rfl) (by simp) ?_
                refine AllReadyH.cons (o := ⟨some 45, _, _, _, _, _⟩) rfl (fun K hK => ?_) ?_
                · go_simp
                  refine hK.out _ _ ?_ (fun hHeld => ?_)
                  · (exact hAll.out _ (by repeat (first | assumption | exact Below.refl _ _ | (refine bStep ?_ (by assumption)) | (with_reducible refine bAlc ?_ _) | (with_reducible refine bDrw ?_))))
                  clear hK K
                  try simp only [Act.put, List.setIfInBounds_toArray, List.set_cons_zero, List.set_cons_succ]
                  refine wpAnyH_ready (rs := [17]) (by kernel_rfl) (by simp) ?_
                  refine AllReadyH.cons (o := ⟨some 46, _, _, _, _, _⟩) rfl (fun K hK => ?_) ?_
                  · go_simp
                    go_at_call 85
                    refine (hUn.out A1 k1 _ _ (by repeat (first | assumption | exact Below.refl _ _ | (refine bStep ?_ (by assumption)) | (with_reducible refine bAlc ?_ _) | (with_reducible refine bDrw ?_))) (hs1.step (by repeat (first | assumption | exact Below.refl _ _ | (refine bStep ?_ (by assumption)) | (with_reducible refine bAlc ?_ _) | (with_reducible refine bDrw ?_)))) (Blk.new _ _ _)).mono ?_
                    rintro e w2 ⟨v2, rfl, ho2, hb2⟩
                    obtain ⟨A2, k2, rfl, hs2⟩ := hOwn.out _ _ _ ho2
                    go_wp2_with fail
                    refine hK.out _ _ ?_ (fun hHeld => ?_)
                    · (exact hAll.out _ (by repeat (first | assumption | exact Below.refl _ _ | (refine bStep ?_ (by assumption)) | (with_reducible refine bAlc ?_ _) | (with_reducible refine bDrw ?_))))
                    clear hK K
                    try simp only [Act.put, List.setIfInBounds_toArray, List.set_cons_zero, List.set_cons_succ]
                    refine wpAnyH_take (i := 18) (oi := ⟨some 28, _, _, _, _, _⟩) (v := ?vr15) rfl (by kernel_rfl) (by kernel_rfl) (by kernel_rfl) (fun _ _ _ h => h) (Or.inl ⟨by rfl, ?hyr15⟩) (by assumption) ?restr15
                    case hyr15 => (intro w hSw; (try dsimp only at hSw); go_simp <;> with_reducible rfl)
                    try simp only [Act.put, List.setIfInBounds_toArray, List.set_cons_zero, List.set_cons_succ]
                    refine wpAnyH_take (i := 19) (oi := ⟨some 47, _, _, _, _, _⟩) (v := ?vr16) rfl (by kernel_rfl) (by kernel_rfl) (by kernel_rfl) (fun _ _ _ h => h) (Or.inl ⟨by rfl, ?hyr16⟩) (by assumption) ?restr16
                    case hyr16 => (intro w hSw; (try dsimp only at hSw); go_simp <;> with_reducible rfl)
                    try simp only [Act.put, List.setIfInBounds_toArray, List.set_cons_zero, List.set_cons_succ]
                    refine wpAnyH_take (i := 20) (oi := ⟨some 48, _, _, _, _, _⟩) (v := ?vr17) rfl (by kernel_rfl) (by kernel_rfl) (by kernel_rfl) (fun _ _ _ h => h) (Or.inl ⟨by rfl, ?hyr17⟩) (by assumption) ?restr17
                    case hyr17 => (intro w hSw; (try dsimp only at hSw); go_simp <;> with_reducible rfl)
                    try simp only [Act.put, List.setIfInBounds_toArray, List.set_cons_zero, List.set_cons_succ]
                    refine wpAnyH_take (i := 21) (oi := ⟨some 7, _, _, _, _, _⟩) (v := ?vr18) rfl (by kernel_rfl) (by kernel_rfl) (by kernel_rfl) (fun _ _ _ h => h) (Or.inl ⟨by rfl, ?hyr18⟩) (by assumption) ?restr18
                    case hyr18 => (intro w hSw; (try dsimp only at hSw); go_simp <;> with_reducible rfl)
                    try simp only [Act.put, List.setIfInBounds_toArray, List.set_cons_zero, List.set_cons_succ]
                    refine wpAnyH_take (i := 22) (oi := ⟨some 8, _, _, _, _, _⟩) (v := ?vr19) rfl (by kernel_rfl) (by kernel_rfl) (by kernel_rfl) (fun _ _ _ h => h) (Or.inl ⟨by rfl, ?hyr19⟩) (by assumption) ?restr19
                    case hyr19 => (intro w hSw; (try dsimp only at hSw); go_simp <;> with_reducible rfl)
                    try simp only [Act.put, List.setIfInBounds_toArray, List.set_cons_zero, List.set_cons_succ]
                    refine wpAnyH_done (by kernel_rfl) ?_ _
                    go_wp2_with fail
                    go_meet
                    exact ⟨A2, k2, rfl, hs2, (by repeat (first | assumption | exact Below.refl _ _ | (refine bStep ?_ (by assumption)) | (with_reducible refine bAlc ?_ _) | (with_reducible refine bDrw ?_)))⟩
                  exact AllReadyH.nil
                exact AllReadyH.nil
              exact AllReadyH.nil
            refine AllReadyH.cons (o := ⟨some 44, _, _, _, _, _⟩) rfl (fun K hK => ?_) ?_
            · go_simp
              go_at_call 41
              refine (hOf.out _ (by repeat (first | assumption | exact Below.refl _ _ | (refine bStep ?_ (by assumption)) | (with_reducible refine bAlc ?_ _) | (with_reducible refine bDrw ?_)))).mono ?_
              rintro e w1 ⟨A1, k1, rfl, hs1, hb1⟩
              go_wp2_with fail
              refine hK.out _ _ ?_ (fun hHeld => ?_)
              · (exact hAll.out _ (by repeat (first | assumption | exact Below.refl _ _ | (refine bStep ?_ (by assumption)) | (with_reducible refine bAlc ?_ _) | (with_reducible refine bDrw ?_))))
              clear hK K
              try simp only [Act.put, List.setIfInBounds_toArray, List.set_cons_zero, List.set_cons_succ]
              refine wpAnyH_ready (rs := [2, 16]) (by kernel_rfl) (by simp) ?_
              refine AllReadyH.cons (o := ⟨some 31, _, _, _, _, _⟩) rfl (fun K hK => ?_) ?_
              · go_simp
                refine hK.out _ _ ?_ (fun hHeld => ?_)
                · (exact hAll.out _ (by repeat (first | assumption | exact Below.refl _ _ | (refine bStep ?_ (by assumption)) | (with_reducible refine bAlc ?_ _) | (with_reducible refine bDrw ?_))))
                clear hK K
                try simp only [Act.put, List.setIfInBounds_toArray, List.set_cons_zero, List.set_cons_succ]
                refine wpAnyH_ready (rs := [16]) (by kernel_rfl) (by simp) ?_
                refine AllReadyH.cons (o := ⟨some 45, _, _, _, _, _⟩) rfl (fun K hK => ?_) ?_
                · go_simp
                  refine hK.out _ _ ?_ (fun hHeld => ?_)
                  · (exact hAll.out _ (by repeat (first | assumption | exact Below.refl _ _ | (refine bStep ?_ (by assumption)) | (with_reducible refine bAlc ?_ _) | (with_reducible refine bDrw ?_))))
                  clear hK K
                  try simp only [Act.put, List.setIfInBounds_toArray, List.set_cons_zero, List.set_cons_succ]
                  refine wpAnyH_ready (rs := [17]) (by kernel_rfl) (by simp) ?_
                  refine AllReadyH.cons (o := ⟨some 46, _, _, _, _, _⟩) rfl (fun K hK => ?_) ?_
                  · go_simp
                    go_at_call 85
                    refine (hUn.out A1 k1 _ _ (by repeat (first | assumption | exact Below.refl _ _ | (refine bStep ?_ (by assumption)) | (with_reducible refine bAlc ?_ _) | (with_reducible refine bDrw ?_))) (hs1.step (by repeat (first | assumption | exact Below.refl _ _ | (refine bStep ?_ (by assumption)) | (with_reducible refine bAlc ?_ _) | (with_reducible refine bDrw ?_)))) (Blk.new _ _ _)).mono ?_
                    rintro e w2 ⟨v2, rfl, ho2, hb2⟩
                    obtain ⟨A2, k2, rfl, hs2⟩ := hOwn.out _ _ _ ho2
                    go_wp2_with fail
                    refine hK.out _ _ ?_ (fun hHeld => ?_)
                    · (exact hAll.out _ (by repeat (first | assumption | exact Below.refl _ _ | (refine bStep ?_ (by assumption)) | (with_reducible refine bAlc ?_ _) | (with_reducible refine bDrw ?_))))
                    clear hK K
                    try simp only [Act.put, List.setIfInBounds_toArray, List.set_cons_zero, List.set_cons_succ]
                    refine wpAnyH_take (i := 18) (oi := ⟨some 28, _, _, _, _, _⟩) (v := ?vr20) rfl (by kernel_rfl) (by kernel_rfl) (by kernel_rfl) (fun _ _ _ h => h) (Or.inl ⟨by rfl, ?hyr20⟩) (by assumption) ?restr20
                    case hyr20 => (intro w hSw; (try dsimp only at hSw); go_simp <;> with_reducible rfl)
                    try simp only [Act.put, List.setIfInBounds_toArray, List.set_cons_zero, List.set_cons_succ]
                    refine wpAnyH_take (i := 19) (oi := ⟨some 47, _, _, _, _, _⟩) (v := ?vr21) rfl (by kernel_rfl) (by kernel_rfl) (by kernel_rfl) (fun _ _ _ h => h) (Or.inl ⟨by rfl, ?hyr21⟩) (by assumption) ?restr21
                    case hyr21 => (intro w hSw; (try dsimp only at hSw); go_simp <;> with_reducible rfl)
                    try simp only [Act.put, List.setIfInBounds_toArray, List.set_cons_zero, List.set_cons_succ]
                    refine wpAnyH_take (i := 20) (oi := ⟨some 48, _, _, _, _, _⟩) (v := ?vr22) rfl (by kernel_rfl) (by kernel_rfl) (by kernel_rfl) (fun _ _ _ h => h) (Or.inl ⟨by rfl, ?hyr22⟩) (by assumption) ?restr22
                    case hyr22 => (intro w hSw; (try dsimp only at hSw); go_simp <;> with_reducible rfl)
                    try simp only [Act.put, List.setIfInBounds_toArray, List.set_cons_zero, List.set_cons_succ]
                    refine wpAnyH_take (i := 21) (oi := ⟨some 7, _, _, _, _, _⟩) (v := ?vr23) rfl (by kernel_rfl) (by kernel_rfl) (by kernel_rfl) (fun _ _ _ h => h) (Or.inl ⟨by rfl, ?hyr23⟩) (by assumption) ?restr23
                    case hyr23 => (intro w hSw; (try dsimp only at hSw); go_simp <;> with_reducible rfl)
                    try simp only [Act.put, List.setIfInBounds_toArray, List.set_cons_zero, List.set_cons_succ]
                    refine wpAnyH_take (i := 22) (oi := ⟨some 8, _, _, _, _, _⟩) (v := ?vr24) rfl (by kernel_rfl) (by kernel_rfl) (by kernel_rfl) (fun _ _ _ h => h) (Or.inl ⟨by rfl, ?hyr24⟩) (by assumption) ?restr24
                    case hyr24 => (intro w hSw; (try dsimp only at hSw); go_simp <;> with_reducible rfl)
                    try simp only [Act.put, List.setIfInBounds_toArray, List.set_cons_zero, List.set_cons_succ]
                    refine wpAnyH_done (by kernel_rfl) ?_ _
                    go_wp2_with fail
                    go_meet
                    exact ⟨A2, k2, rfl, hs2, (by repeat (first | assumption | exact Below.refl _ _ | (refine bStep ?_ (by assumption)) | (with_reducible refine bAlc ?_ _) | (with_reducible refine bDrw ?_)))⟩
                  exact AllReadyH.nil
                exact AllReadyH.nil
              refine AllReadyH.cons (o := ⟨some 45, _, _, _, _, _⟩) rfl (fun K hK => ?_) ?_
              · go_simp
                refine hK.out _ _ ?_ (fun hHeld => ?_)
                · (exact hAll.out _ (by repeat (first | assumption | exact Below.refl _ _ | (refine bStep ?_ (by assumption)) | (with_reducible refine bAlc ?_ _) | (with_reducible refine bDrw ?_))))
                clear hK K
                try simp only [Act.put, List.setIfInBounds_toArray, List.set_cons_zero, List.set_cons_succ]
                refine wpAnyH_ready (rs := [2]) (by kernel_rfl) (by simp) ?_
                refine AllReadyH.cons (o := ⟨some 31, _, _, _, _, _⟩) rfl (fun K hK => ?_) ?_
                · go_simp
                  refine hK.out _ _ ?_ (fun hHeld => ?_)
                  · (exact hAll.out _ (by repeat (first | assumption | exact Below.refl _ _ | (refine bStep ?_ (by assumption)) | (with_reducible refine bAlc ?_ _) | (with_reducible refine bDrw ?_))))
                  clear hK K
                  try simp only [Act.put, List.setIfInBounds_toArray, List.set_cons_zero, List.set_cons_succ]
                  refine wpAnyH_ready (rs := [17]) (by kernel_rfl) (by simp) ?_
                  refine AllReadyH.cons (o := ⟨some 46, _, _, _, _, _⟩) rfl (fun K hK => ?_) ?_
                  · go_simp
                    go_at_call 85
                    refine (hUn.out A1 k1 _ _ (by repeat (first | assumption | exact Below.refl _ _ | (refine bStep ?_ (by assumption)) | (with_reducible refine bAlc ?_ _) | (with_reducible refine bDrw ?_))) (hs1.step (by repeat (first | assumption | exact Below.refl _ _ | (refine bStep ?_ (by assumption)) | (with_reducible refine bAlc ?_ _) | (with_reducible refine bDrw ?_)))) (Blk.new _ _ _)).mono ?_
                    rintro e w2 ⟨v2, rfl, ho2, hb2⟩
                    obtain ⟨A2, k2, rfl, hs2⟩ := hOwn.out _ _ _ ho2
                    go_wp2_with fail
                    refine hK.out _ _ ?_ (fun hHeld => ?_)
                    · (exact hAll.out _ (by repeat (first | assumption | exact Below.refl _ _ | (refine bStep ?_ (by assumption)) | (with_reducible refine bAlc ?_ _) | (with_reducible refine bDrw ?_))))
                    clear hK K
                    try simp only [Act.put, List.setIfInBounds_toArray, List.set_cons_zero, List.set_cons_succ]
                    refine wpAnyH_take (i := 18) (oi := ⟨some 28, _, _, _, _, _⟩) (v := ?vr25) rfl (by kernel_rfl) (by kernel_rfl) (by kernel_rfl) (fun _ _ _ h => h) (Or.inl ⟨by rfl, ?hyr25⟩) (by assumption) ?restr25
                    case hyr25 => (intro w hSw; (try dsimp only at hSw); go_simp <;> with_reducible rfl)
                    try simp only [Act.put, List.setIfInBounds_toArray, List.set_cons_zero, List.set_cons_succ]
                    refine wpAnyH_take (i := 19) (oi := ⟨some 47, _, _, _, _, _⟩) (v := ?vr26) rfl (by kernel_rfl) (by kernel_rfl) (by kernel_rfl) (fun _ _ _ h => h) (Or.inl ⟨by rfl, ?hyr26⟩) (by assumption) ?restr26
                    case hyr26 => (intro w hSw; (try dsimp only at hSw); go_simp <;> with_reducible rfl)
                    try simp only [Act.put, List.setIfInBounds_toArray, List.set_cons_zero, List.set_cons_succ]
                    refine wpAnyH_take (i := 20) (oi := ⟨some 48, _, _, _, _, _⟩) (v := ?vr27) rfl (by kernel_rfl) (by kernel_rfl) (by kernel_rfl) (fun _ _ _ h => h) (Or.inl ⟨by rfl, ?hyr27⟩) (by assumption) ?restr27
                    case hyr27 => (intro w hSw; (try dsimp only at hSw); go_simp <;> with_reducible rfl)
                    try simp only [Act.put, List.setIfInBounds_toArray, List.set_cons_zero, List.set_cons_succ]
                    refine wpAnyH_take (i := 21) (oi := ⟨some 7, _, _, _, _, _⟩) (v := ?vr28) rfl (by kernel_rfl) (by kernel_rfl) (by kernel_rfl) (fun _ _ _ h => h) (Or.inl ⟨by rfl, ?hyr28⟩) (by assumption) ?restr28
                    case hyr28 => (intro w hSw; (try dsimp only at hSw); go_simp <;> with_reducible rfl)
                    try simp only [Act.put, List.setIfInBounds_toArray, List.set_cons_zero, List.set_cons_succ]
                    refine wpAnyH_take (i := 22) (oi := ⟨some 8, _, _, _, _, _⟩) (v := ?vr29) rfl (by kernel_rfl) (by kernel_rfl) (by kernel_rfl) (fun _ _ _ h => h) (Or.inl ⟨by rfl, ?hyr29⟩) (by assumption) ?restr29
                    case hyr29 => (intro w hSw; (try dsimp only at hSw); go_simp <;> with_reducible rfl)
                    try simp only [Act.put, List.setIfInBounds_toArray, List.set_cons_zero, List.set_cons_succ]
                    refine wpAnyH_done (by kernel_rfl) ?_ _
                    go_wp2_with fail
                    go_meet
                    exact ⟨A2, k2, rfl, hs2, (by repeat (first | assumption | exact Below.refl _ _ | (refine bStep ?_ (by assumption)) | (with_reducible refine bAlc ?_ _) | (with_reducible refine bDrw ?_)))⟩
                  exact AllReadyH.nil
                exact AllReadyH.nil
              exact AllReadyH.nil
            exact AllReadyH.nil
          case rest =>
            clear c0 c1 c2 c3 c4 c5 x0 x1 hAll hOf hUn hOwn hfx
            obtain ⟨A2, c2, rfl, hJs, hbx⟩ := hcut
            have hS2 := hS.step hbx
            have hG2 := hG.step hbx
            have hcx2 := cell_later hbx hcx
            have hfx2 : wc.frozen? ⟨bo, ix, none⟩ = false := by obtain ⟨_, _, _, h, _⟩ := hS2.get ix hixi; exact h
            have hS3 := hS2.put ix hJs
            have hG3 := hG2.far ⟨bo, ix, none⟩ (.slice A2 J.length c2) (by have := hbo'.out; show w.heap.size < bo; omega)
            obtain ⟨c0, c1, c2', c3, c4, c5⟩ := hG2.cells
            dsimp only at c1 c3 c5
            clear hcx hS hG hS2 hG2 hbx
            cases gr with
            | true =>
              have hEnd1 : Hid (tot ss < tot (ss'.set ix J)) := Lib.hid (by
                have h1 := hgr.out
                simp only [if_true] at h1
                have := hR5.out; have := hR3.out; omega)
              go_wp2_with fail
              go_roundg (g.prods.length - (j + 1))
              case measure => have := hj.out; omega
              case rel => exact ⟨j + 1, ss'.set ix J, true, by go_num, rfl, Lib.hid (by have := hj.out; omega), hR1, hR2, hS3, hG3, Lib.hid (by simpa using hEnd1.out)⟩
            | false =>
              by_cases hgn : D.length < J.length
              · have hEnd1 := Lib.hid (hEndT.out hgn)
                have hz : (D.length : Int) < J.length := by omega
                go_wp2_with fail
                go_roundg (g.prods.length - (j + 1))
                case measure => have := hj.out; omega
                case rel => exact ⟨j + 1, ss'.set ix J, true, by go_num, rfl, Lib.hid (by have := hj.out; omega), hR1, hR2, hS3, hG3, Lib.hid (by simpa using hEnd1.out)⟩
              · have hEnd1 := Lib.hid (hEndF.out hgn)
                have hz : ¬ (D.length : Int) < J.length := by omega
                rw [hEnd1.out.1] at hS3
                go_wp2_with fail
                go_roundg (g.prods.length - (j + 1))
                case measure => have := hj.out; omega
                case rel => exact ⟨j + 1, ss', false, by go_num, rfl, Lib.hid (by have := hj.out; omega), hfit', hsnd', hS3, hG3, Lib.hid hEnd1.out.2⟩
        · have hje : j = g.prods.length := by have := hj.out; omega
          subst hje
          have htl := Lib.hid (tot_le ss' (fun s hs => fit_len (asc_nodup (hS.asc s hs).1) (hfit'.out s hs)))
          cases gr with
          | false =>
            have hgr2 := hgr.out
            simp only [Bool.false_eq_true, if_false] at hgr2
            obtain ⟨hse, hcl⟩ := hgr2
            subst hse
            have hclo : Hid (ClosedF g.prods k ss') := Lib.hid fun p hp y hy => hcl p (by rw [List.take_length]; exact hp) y hy
            replace hcl := Lib.hid hcl
            go_wp2_with fail
            go_roundg (2 * (g.names.length * 4681 - tot ss'))
            case measure => have h1 := hgk.out; have h2 := htl.out; simp only [if_true] at h1; rw [hlen'] at h2; omega
            case rel => exact ⟨ss', false, rfl, Lib.hid (by have h2 := htl.out; rw [hlen'] at h2; simp; omega), Lib.hid (fun _ => hclo.out), hfit', hsnd', hS, hG⟩
          | true =>
            have hgr2 := hgr.out
            simp only [if_true] at hgr2
            replace hgr2 := Lib.hid hgr2
            go_wp2_with fail
            go_roundg (2 * (g.names.length * 4681 - tot ss') + 1)
            case measure => have h1 := hgk.out; have h2 := htl.out; have h3 := hgr2.out; simp only [if_true] at h1; rw [hlen'] at h2; omega
            case rel => exact ⟨ss', true, rfl, Lib.hid (by have h2 := htl.out; rw [hlen'] at h2; simp; omega), Lib.hid (by simp), hfit', hsnd', hS, hG⟩
end Go.Proofs.YtnnkfgekiaaehaaGreat

/- The reference 16: follows. -/
namespace Go.Proofs.YtnnkfgekiaaehaaGreat
open Go.ChangeShapes Go.WideShapes Go.ChangeAt Go.RowKit
set_option linter.unusedVariables false

/-- what follows hands back -/
def RetFo (g : Gr) (k : Nat) (w : World) (e : Ending) (w' : World) : Prop :=
  ∃ b fs ss, e = .returned (.slice (some ⟨b, 0, none⟩) g.names.length g.names.length) ∧ SetsA w' b g.names.length g.toks.length fs ∧ SetsFit k fs ∧ SoundO g.prods k g.start fs ∧ SetsFit k ss ∧ SoundF g.prods k ss ∧ ClosedF g.prods k ss ∧ ClosedO g.prods k g.start ss fs ∧ Below w.heap.size w w'
theorem fo_rightG {g : Gr} {k : Nat} (hok : GOk g k) {s : Int} {x : Lk} (h : FO g.prods k g.start s x) : x.right g.toks.length :=
  (fo_right hok.k1 hok.k4 (by have := hok.tk; omega) (fun p hp s hs h16 => by have := (hok.pr p hp).2.2 s hs; omega) h).1
theorem SetsA.other {W : World} {bo bf n n' : Nat} {m : Int} {ss fs : List (List Lk)} (h : SetsA W bf n m ss) (ho : SetsA W bo n' m fs) (hne : bf ≠ bo) (i : Nat) (v : Value) : SetsA (W.setCell ⟨bo, i, none⟩ v) bf n m ss := by
  obtain ⟨h1, cs, h2, h3, h4⟩ := h
  obtain ⟨o1, cs', o2, o3, o4⟩ := ho
  refine ⟨h1, cs, h2.far hne v, h3, fun j s hs => ?_⟩
  obtain ⟨A, c, a, b⟩ := h4 j s hs
  refine ⟨A, c, a, b.put o2 (fun j v hv => ?_) i v⟩
  have hj := (Array.getElem?_eq_some_iff.1 hv).1
  obtain ⟨A, c, a, _⟩ := o4 j _ (List.getElem?_eq_getElem (by omega))
  rw [a] at hv
  injection hv with hv
  exact ⟨_, _, _, hv.symm⟩
/-- the uses of one production up to a place are in the sets -/
def UseC (k : Nat) (ss fs : List (List Lk)) (p : Pr) (D : Nat) : Prop := ∀ (d : Nat) (s : Int), d < D → p.right[d]? = some s → 16 ≤ s → ∀ z ∈ usesL k ss fs p d, z ∈ fs.getD (s - 16).toNat []
/-- the set that a use adds -/
def useR (k : Nat) (ss fs : List (List Lk)) (p : Pr) (d : Nat) : List Lk := sumR k (tailL k ss (p.right.drop (d + 1))) (fs.getD (p.left - 16).toNat [])
theorem use_facts {g : Gr} {k : Nat} (hok : GOk g k) {ss fs : List (List Lk)} (hf : SetsFit k ss) (hff : SetsFit k fs) (hss : SoundF g.prods k ss) (hs : SoundO g.prods k g.start fs) {p : Pr} (hp : p ∈ g.prods) {d : Nat} {s : Int} (hd : p.right[d]? = some s) (h16 : 16 ≤ s) :
    (∀ x ∈ useR k ss fs p d, Fit k x) ∧ Asc (useR k ss fs p d) ∧ (∀ x ∈ useR k ss fs p d, x.right g.toks.length) ∧ (∀ x, x ∈ useR k ss fs p d ↔ x ∈ usesL k ss fs p d) ∧ (∀ x ∈ useR k ss fs p d, FO g.prods k g.start s x) := by
  have hk1 := hok.k1
  have hk4 := hok.k4
  have hpr := hok.pr p hp
  have hdr : ∀ z ∈ p.right.drop (d + 1), SymOk g.names.length z := fun z hz => hok.sym hp z (List.mem_of_mem_drop hz)
  have hT := tail_fit hk1 hk4 hf _ hdr
  have hL := setsFit_get hff (p.left - 16).toNat
  have hfo : ∀ x ∈ useR k ss fs p d, FO g.prods k g.start s x := fun x hx => by
    obtain ⟨y, hy, z, hz, rfl⟩ := (sumR_mem hk4 hT hL x).1 hx
    have hz2 := hs _ z hz
    rw [show (16 : Int) + ((p.left - 16).toNat : Int) = p.left by omega] at hz2
    exact .use hp hd h16 (tail_sound hk1 hk4 hf hss _ hdr y hy) hz2
  refine ⟨sumR_fit hk4 hT hL, sumR_asc hk4 hT hL, fun x hx => fo_rightG hok (hfo x hx), fun x => ?_, hfo⟩
  unfold useR usesL
  rw [sumR_mem hk4 hT hL, sums_mem]
  constructor
  · rintro ⟨y, hy, z, hz, rfl⟩; exact ⟨y, hy, z, (lset_mem (k := 8) (fun x hx => (hL x hx).1) z).2 hz, rfl⟩
  · rintro ⟨y, hy, z, hz, rfl⟩; exact ⟨y, hy, z, (lset_mem (k := 8) (fun x hx => (hL x hx).1) z).1 hz, rfl⟩
theorem follow_sound {g : Gr} {k : Nat} {fs : List (List Lk)} (hs : SoundO g.prods k g.start fs) {s : Int} (h16 : 16 ≤ s) (hi : (s - 16).toNat < fs.length) {U : List Lk} (hU : ∀ x ∈ U, FO g.prods k g.start s x) (J : List Lk) (hJ : ∀ x, x ∈ J ↔ x ∈ fs.getD (s - 16).toNat [] ∨ x ∈ U) : SoundO g.prods k g.start (fs.set (s - 16).toNat J) := by
  refine setO_sound hs _ hi fun y hy => ?_
  rw [show (16 : Int) + ((s - 16).toNat : Int) = s by omega]
  rcases (hJ y).1 hy with h | h
  · have := hs _ y h
    rwa [show (16 : Int) + ((s - 16).toNat : Int) = s by omega] at this
  · exact hU y h
theorem nil_kept {fs : List (List Lk)} {i0 ix : Nat} {J : List Lk} (h : Lk.of [] ∈ fs.getD i0 []) (hi : ix < fs.length) (hJ : ∀ x ∈ fs.getD ix [], x ∈ J) : Lk.of [] ∈ (fs.set ix J).getD i0 [] := by
  rw [getD_set fs _ _ _ hi]
  split
  · rename_i e; subst e; exact hJ _ h
  · exact h

set_option maxRecDepth 100000 in
set_option maxHeartbeats 8000000 in
theorem follows_any (g : Gr) (a : GA) (k : Nat) (hok : GOk g k) (w : World) (hg : GrAt w w.heap.size g a) : Calls Tryz.prog 43 #[gval g a] w (RetFo g k w) := by
  have hP := Lib.hid (fun (b : Nat) (fs ss : List (List Lk)) (w' : World) (h1 : SetsA w' b g.names.length g.toks.length fs) (h3 : SetsFit k fs) (h4 : SoundO g.prods k g.start fs) (h5 : SetsFit k ss) (h6 : SoundF g.prods k ss) (h7 : ClosedF g.prods k ss) (h8 : ClosedO g.prods k g.start ss fs) (h9 : Below w.heap.size w w') =>
    (show RetFo g k w (.returned (.slice (some ⟨b, 0, none⟩) g.names.length g.names.length)) w' from ⟨b, fs, ss, rfl, h1, h3, h4, h5, h6, h7, h8, h9⟩))
  obtain ⟨ta, tc, na, nc, pa, pc⟩ := a
  have hok' := Lib.hid hok
  have hG0 := GB.start hg
  have hgw := Lib.hid hg
  have hOfA := Lib.hid (fun (l : List Int) hl (bo : Nat) (ss : List (List Lk)) (RA : Option Addr) (rc : Nat) (W : World) hg hS hf hR hln => refof_ok g ⟨ta, tc, na, nc, pa, pc⟩ k hok l hl bo ss RA rc W hg hS hf hR hln)
  have hFi := Lib.hid (fun (W : World) (h : GrAt W W.heap.size g ⟨ta, tc, na, nc, pa, pc⟩) => firsts_any g ⟨ta, tc, na, nc, pa, pc⟩ k hok W h)
  have hk := Lib.hid hok.k1
  have hk4 := Lib.hid hok.k4
  have hkk := Lib.hid hok.hk
  have hn8' := Lib.hid hok.nm
  have hm := Lib.hid hok.tk
  have hp24 := Lib.hid hok.pl
  have hst := hok.st
  obtain ⟨i0, hi0⟩ := Int.eq_ofNat_of_zero_le (show 0 ≤ g.start - 16 by omega)
  have hi0n : (g.start - 16).toNat = i0 := by omega
  have hi0i : i0 < g.names.length := by omega
  have zw0 : IntKind.i64.wrap (g.start - 16) = (i0 : Int) := by rw [hi0]; exact IntWalk.i64_in _ (by have := hn8'.out; omega)
  have hz0x : (0 : Int) ≤ i0 := by omega
  have hz0y : (i0 : Int) < g.names.length := by omega
  obtain ⟨i28, hi28, hq0, hq1, hq2⟩ := info_parts info28
  clear hg hok
  replace hst := Lib.hid hst
  replace hi0 := Lib.hid hi0
  replace hi0n := Lib.hid hi0n
  unfold gval at *
  unfold gcells at *
  dsimp only at *
  go_enter Tryz.func43, Tryz.ntmps43
  go_upto_region 2 with (go_at_call 42; refine (hFi.out _ ((hG0.2.1).mono hG0.2.2.size)).mono ?_; rintro e w1 ⟨bf, ss, rfl, hSf, hbf, hfit, hsnd, hcls, hb1⟩)
  have hG1 := hG0.step hb1
  clear hG0 hb1 hFi
  replace hfit := Lib.hid hfit
  replace hsnd := Lib.hid hsnd
  replace hcls := Lib.hid hcls
  obtain ⟨c0, c1, c2, c3, c4, c5⟩ := hG1.cells
  dsimp only at c1 c3 c5
  go_upto_region 3 with (at_make; refine wpList_make_row _ rfl _ _ 50 rfl 28 i28 (.slice none 0 0) under50 hi28 hq0 hq1 rfl _ _ g.names.length rfl rfl (by rw [hq2]; have := hn8'.out; omega) (by have := hn8'.out; omega) ?_)
  have q0 := Blk.newAt w1 28 (madeCells #[.slice none 0 0] g.names.length) w1.heap.size rfl
  have hS0 := SetsA.new (m := g.toks.length) q0
  have hbA : Below w1.heap.size w1 (w1.alloc (.cells (madeCells #[.slice none 0 0] g.names.length) 28)) := bAlc (Below.refl _ _) _
  have hG2 := hG1.step hbA
  have hSf2 := hSf.step hbA
  have hbfo : bf ≠ w1.heap.size := by have := hSf.lt; omega
  have hgo : w.heap.size < w1.heap.size := hG1.lt
  clear q0 hG1 hSf c0 c1 c2 c3 c4 c5 hbA
  generalize w1.alloc (.cells (madeCells #[.slice none 0 0] g.names.length) 28) = W1 at *
  obtain ⟨bo, hbo⟩ : ∃ bo, bo = w1.heap.size := ⟨_, rfl⟩
  rw [← hbo] at hS0 hbfo hgo ⊢
  clear hbo
  obtain ⟨c0, c1, c2, c3, c4, c5⟩ := hG2.cells
  dsimp only at c1 c3 c5
  obtain ⟨X0, xc0, hcx0, hfx0, _⟩ := hS0.get i0 hi0i
  have hbL : Below W1.heap.size W1 (W1.alloc (.cells #[.int .i64 0, .int .i64 0, .int .i64 0, .int .i64 0, .int .i64 0] 41)) := bAlc (Below.refl _ _) _
  have hSL := hS0.step hbL
  have hcxL := cell_later hbL hcx0
  have hfxL : (W1.alloc (.cells #[.int .i64 0, .int .i64 0, .int .i64 0, .int .i64 0, .int .i64 0] 41)).frozen? ⟨bo, i0, none⟩ = false := by obtain ⟨_, _, _, h, _⟩ := hSL.get i0 hi0i; exact h
  have hlit : SetAt (W1.alloc (.cells #[.int .i64 0, .int .i64 0, .int .i64 0, .int .i64 0, .int .i64 0] 41)) g.toks.length (some ⟨W1.heap.size, 0, none⟩) [Lk.of []].length 1 [Lk.of []] :=
    ⟨(rdL_one (x := Lk.of []) (Blk.new W1 41 _)).mono (by simp), fun x hx => by simp at hx; subst hx; exact nil_right _ (by have := hm.out; omega), asc_one _, by simp, by simp, by simp [maxLen]⟩
  have hSP := hSL.put i0 hlit
  have hSfL := (hSf2.step hbL).other hSL hbfo i0 (.slice (some ⟨W1.heap.size, 0, none⟩) 1 1)
  have hGL := (hG2.step hbL).far ⟨bo, i0, none⟩ (.slice (some ⟨W1.heap.size, 0, none⟩) 1 1) hgo
  go_upto_region 4 with (fail)
  clear c0 c1 c2 c3 c4 c5 hcx0 hfx0 hcxL hfxL hlit hSL hS0 hG2 hSf2 hbL
  simp only [List.length_cons, List.length_nil, Nat.zero_add] at hSP
  generalize (W1.alloc (.cells #[.int .i64 0, .int .i64 0, .int .i64 0, .int .i64 0, .int .i64 0] 41)).setCell ⟨bo, i0, none⟩ (.slice (some ⟨W1.heap.size, 0, none⟩) 1 1) = W2 at *
  have hlr : (List.replicate g.names.length ([] : List Lk)).length = g.names.length := by simp
  have hfit0 : Hid (SetsFit k ((List.replicate g.names.length ([] : List Lk)).set i0 [Lk.of []])) := Lib.hid (set_fit (by intro s hs x hx; rw [List.eq_of_mem_replicate hs] at hx; cases hx) _ (by intro x hx; simp at hx; subst hx; exact nil_fit k))
  have hsnd0 : Hid (SoundO g.prods k g.start ((List.replicate g.names.length ([] : List Lk)).set i0 [Lk.of []])) := Lib.hid (setO_sound (by
    intro j y hy
    rw [List.getD_eq_getElem?_getD, List.getElem?_replicate] at hy
    split at hy <;> simp at hy) _ (by rw [hlr]; exact hi0i) (by
    intro y hy
    simp at hy
    subst hy
    rw [show (16 : Int) + (i0 : Int) = g.start by have := hi0.out; omega]
    exact .start))
  have hnil0 : Hid (Lk.of [] ∈ ((List.replicate g.names.length ([] : List Lk)).set i0 [Lk.of []]).getD i0 []) := Lib.hid (by rw [getD_set _ _ _ _ (by rw [hlr]; exact hi0i), if_pos rfl]; simp)
  have htot0 : Hid (tot ((List.replicate g.names.length ([] : List Lk)).set i0 [Lk.of []]) ≤ g.names.length * 4681) := Lib.hid (by
    have := tot_le ((List.replicate g.names.length ([] : List Lk)).set i0 [Lk.of []]) (fun s hs => fit_len (asc_nodup (hSP.asc s hs).1) (hfit0.out s hs))
    rwa [hSP.1] at this)
  generalize (List.replicate g.names.length ([] : List Lk)).set i0 [Lk.of []] = fs0 at *
  clear hlr
  go_wp2_with fail
  go_loopg [5] (2 * (g.names.length * 4681 - tot fs0) + 1) (fun gk s5 wr => ∃ (fs : List (List Lk)) (gr : Bool), s5 = .bool gr ∧ Hid (2 * tot fs + gk = 2 * (g.names.length * 4681) + (if gr then 1 else 0)) ∧ Hid (gr = false → ClosedO g.prods k g.start ss fs) ∧ Hid (SetsFit k fs) ∧ Hid (SoundO g.prods k g.start fs) ∧ Hid (Lk.of [] ∈ fs.getD i0 []) ∧ SetsA wr bo g.names.length g.toks.length fs ∧ SetsA wr bf g.names.length g.toks.length ss ∧ GB w g ⟨ta, tc, na, nc, pa, pc⟩ wr)
  case atStart => exact ⟨fs0, true, rfl, Lib.hid (by have := htot0.out; simp; omega), Lib.hid (by simp), hfit0, hsnd0, hnil0, hSP, hSfL, hGL⟩
  case round =>
    clear hSP hSfL hGL htot0 hfit0 hsnd0 hnil0 fs0
    obtain ⟨fs, gr0, rfl, hgk, hcl0, hffit, hfsnd, hnil, hS, hSf, hG⟩ := hrel
    cases gr0 with
    | false =>
      have hclo := Lib.hid (hcl0.out rfl)
      replace hcl0 := Lib.hid hcl0
      go_wp2_with fail
      go_ret
      exact hP.out bo fs ss _ hS hffit.out hfsnd.out hfit.out hsnd.out hcls.out hclo.out hG.2.2
    | true =>
      clear hcl0
      obtain ⟨c0, c1, c2, c3, c4, c5⟩ := hG.cells
      dsimp only at c1 c3 c5
      go_wp2_with fail
      clear c0 c1 c2 c3 c4 c5
      go_loopg [5, 6] g.prods.length (fun gk2 s5 s6 wr => ∃ (j : Nat) (fs' : List (List Lk)) (gr : Bool), s6 = .int .i64 j ∧ s5 = .bool gr ∧ Hid (j + gk2 = g.prods.length) ∧ Hid (SetsFit k fs') ∧ Hid (SoundO g.prods k g.start fs') ∧ Hid (Lk.of [] ∈ fs'.getD i0 []) ∧ SetsA wr bo g.names.length g.toks.length fs' ∧ SetsA wr bf g.names.length g.toks.length ss ∧ GB w g ⟨ta, tc, na, nc, pa, pc⟩ wr ∧
        Hid (if gr then tot fs < tot fs' else fs' = fs ∧ ∀ p ∈ g.prods.take j, UseC k ss fs p p.right.length))
      case atStart => exact ⟨0, fs, false, rfl, rfl, Lib.hid (by omega), hffit, hfsnd, hnil, hS, hSf, hG, Lib.hid (by simp)⟩
      case round =>
        clear hS hG hffit hfsnd hSf hnil
        obtain ⟨j, fs', gr, rfl, rfl, hj, hffit, hfsnd, hnil, hS, hSf, hG, hgr⟩ := hrel
        obtain ⟨c0, c1, c2, c3, c4, c5⟩ := hG.cells
        dsimp only at c1 c3 c5
        by_cases hjn : j < g.prods.length
        · have hxi : g.prods[j]? = some g.prods[j] := List.getElem?_eq_getElem hjn
          obtain ⟨b, off, hA, hbt, x0, RA, rc, x1, hx2, hx3, hx4⟩ := hgw.out.prods.get hxi
          dsimp only at hA
          subst hA
          have hmem := List.getElem_mem hjn
          have htk : g.prods.take (j + 1) = g.prods.take j ++ [g.prods[j]] := List.take_succ_eq_append_getElem hjn
          have hpr := hok'.out.pr _ hmem
          generalize g.prods[j] = p at *
          obtain ⟨jx, hjx⟩ := Int.eq_ofNat_of_zero_le (show 0 ≤ p.left - 16 by omega)
          have hjxn : (p.left - 16).toNat = jx := by omega
          have hjxi : jx < g.names.length := by omega
          have zwj : IntKind.i64.wrap (p.left - 16) = (jx : Int) := by rw [hjx]; exact IntWalk.i64_in _ (by have := hn8'.out; omega)
          have hzjx : (0 : Int) ≤ jx := by omega
          have hzjy : (jx : Int) < g.names.length := by omega
          have hzj : (0 : Int) ≤ j := by omega
          have hzk : (j : Int) < g.prods.length := by omega
          have hzl : g.prods.length ≤ 24 := hp24.out
          have hpl6 : p.right.length ≤ 6 := hpr.2.1
          replace hxi := Lib.hid hxi
          replace htk := Lib.hid htk
          replace hmem := Lib.hid hmem
          replace hpr := Lib.hid hpr
          replace hjxn := Lib.hid hjxn
          replace hjx := Lib.hid hjx
          have y0 := (hG.2.2.cell (p := ⟨b, off + j * 2, none⟩) hbt).trans x0
          have y1 := (hG.2.2.cell (p := ⟨b, off + j * 2 + 1, none⟩) hbt).trans x1
          clear x0 x1
          go_upto_region 11 with (fail)
          have hbA : Below wr.heap.size wr (wr.alloc (.cells #[.int .i64 p.left, .slice RA p.right.length rc] 47)) := bAlc (Below.refl _ _) _
          have q7 := Blk.new wr 47 #[.int .i64 p.left, .slice RA p.right.length rc]
          have hS1 := hS.step hbA
          have hSf1 := hSf.step hbA
          have hG1 := hG.step hbA
          have hgp : bo ≠ wr.heap.size := by have := hS.lt; omega
          clear c0 c1 c2 c3 c4 c5 y0 y1 hS hSf hG hbA
          generalize wr.alloc (.cells #[.int .i64 p.left, .slice RA p.right.length rc] 47) = W3 at *
          generalize wr.heap.size = gp at *
          have p1 := q7.cell 1
          simp only [List.getElem?_toArray, List.getElem?_cons_zero, List.getElem?_cons_succ] at p1
          go_wp2_with fail
          clear p1
          go_loopg [5, 8] p.right.length (fun gk3 s5 s8 wr => ∃ (d : Nat) (fs'' : List (List Lk)) (gr : Bool), s8 = .int .i64 d ∧ s5 = .bool gr ∧ Hid (d + gk3 = p.right.length) ∧ Hid (SetsFit k fs'') ∧ Hid (SoundO g.prods k g.start fs'') ∧ Hid (Lk.of [] ∈ fs''.getD i0 []) ∧ SetsA wr bo g.names.length g.toks.length fs'' ∧ SetsA wr bf g.names.length g.toks.length ss ∧ GB w g ⟨ta, tc, na, nc, some ⟨b, off, none⟩, pc⟩ wr ∧ Blk wr gp 47 #[.int .i64 p.left, .slice RA p.right.length rc] ∧
            Hid (if gr then tot fs < tot fs'' else fs'' = fs ∧ (∀ q ∈ g.prods.take j, UseC k ss fs q q.right.length) ∧ UseC k ss fs p d))
          case atStart => exact ⟨0, fs', gr, rfl, rfl, Lib.hid (by omega), hffit, hfsnd, hnil, hS1, hSf1, hG1, q7, Lib.hid (by
            have := hgr.out
            cases gr
            · simp only [Bool.false_eq_true, if_false] at this ⊢
              exact ⟨this.1, this.2, fun d s h => by omega⟩
            · simpa using this)⟩
          case round =>
            clear hS1 hSf1 hG1 q7 hffit hfsnd hnil hgr
            obtain ⟨d, fs', gr, rfl, rfl, hd, hffit, hfsnd, hnil, hS, hSf, hG, q7, hgr⟩ := hrel
            obtain ⟨c0, c1, c2, c3, c4, c5⟩ := hG.cells
            dsimp only at c1 c3 c5
            have p0 := q7.cell 0
            have p1 := q7.cell 1
            simp only [List.getElem?_toArray, List.getElem?_cons_zero, List.getElem?_cons_succ] at p0 p1
            by_cases hdn : d < p.right.length
            · have hsi : p.right[d]? = some p.right[d] := List.getElem?_eq_getElem hdn
              obtain ⟨rb, roff, hRA, hbt2, z0⟩ := hx2.get (show (ints p.right)[d]? = some (.int .i64 p.right[d]) by rw [ints, List.getElem?_map, hsi]; rfl)
              have hsm := hpr.out.2.2 _ (List.getElem_mem hdn)
              generalize p.right[d] = s at *
              have z1 := (hG.2.2.cell (p := ⟨rb, roff + d, none⟩) hbt2).trans z0
              clear z0
              have hzd : (0 : Int) ≤ d := by omega
              have hzd2 : (d : Int) < p.right.length := by omega
              have hx2k := hx2
              rw [hRA] at p1
              replace hRA := Lib.hid hRA
              replace hsi := Lib.hid hsi
              by_cases h16 : s < 16
              · go_wp2_with fail
                go_roundg (p.right.length - (d + 1))
                case measure => have := hd.out; omega
                case rel => exact ⟨d + 1, fs', gr, by go_num, rfl, Lib.hid (by have := hd.out; omega), hffit, hfsnd, hnil, hS, hSf, hG, q7, Lib.hid (by
                  have := hgr.out
                  cases gr
                  · simp only [Bool.false_eq_true, if_false] at this ⊢
                    refine ⟨this.1, this.2.1, fun d' s' h1 h2 h3 => ?_⟩
                    by_cases e : d' = d
                    · subst e; rw [hsi.out] at h2; injection h2 with h2; omega
                    · exact this.2.2 d' s' (by omega) h2 h3
                  · simpa using this)⟩
              · have hsb : 16 ≤ s ∧ s < 16 + (g.names.length : Int) := by have := hm.out; omega
                obtain ⟨ix, hix⟩ := Int.eq_ofNat_of_zero_le (show 0 ≤ s - 16 by omega)
                have hixn : (s - 16).toNat = ix := by omega
                have hixi : ix < g.names.length := by omega
                have zwi : IntKind.i64.wrap (s - 16) = (ix : Int) := by rw [hix]; exact IntWalk.i64_in _ (by have := hn8'.out; omega)
                have hzix : (0 : Int) ≤ ix := by omega
                have hziy : (ix : Int) < g.names.length := by omega
                have hlen' := hS.1
                obtain ⟨uf1, uf2, uf3, uf4, uf5⟩ := use_facts hok'.out hfit.out hffit.out hsnd.out hfsnd.out hmem.out hsi.out hsb.1
                have hfoS := follow_sound hfsnd.out hsb.1 (show (s - 16).toNat < fs'.length by omega) uf5
                rw [hixn] at hfoS
                obtain ⟨hA0, hR0⟩ := hS.asc (fs'.getD ix []) (by rw [List.getD_eq_getElem?_getD, List.getElem?_eq_getElem (by omega)]; exact List.getElem_mem (by omega))
                have hR := round_merge (ps := g.prods) (k := k) (m := g.toks.length) (P := SoundO g.prods k g.start) (by have := hm.out; omega) (by have := hm.out; omega) (show ix < fs'.length by omega) hffit.out hA0 hR0 uf1 uf2 uf3 hfoS
                have hUe : useR k ss fs' p d = sumR k (tailL k ss (p.right.drop (d + 1))) (fs'.getD jx []) := by unfold useR; rw [hjxn.out]
                have hdr : ∀ z ∈ p.right.drop (d + 1), (0 ≤ z ∧ z < g.toks.length) ∨ (16 ≤ z ∧ z < 16 + (g.names.length : Int)) := fun z hz => hpr.out.2.2 z (List.mem_of_mem_drop hz)
                have hTf := tail_fit hk.out hk4.out hfit.out (p.right.drop (d + 1)) (fun z hz => hok'.out.sym hmem.out z (List.mem_of_mem_drop hz))
                obtain ⟨Xi, xci, hcxi, _, hXi⟩ := hS.get ix hixi
                obtain ⟨Xj, xcj, hcxj, _, hXj⟩ := hS.get jx hjxi
                have hDf := setsFit_get hffit.out jx
                have hOf : Hid (∀ SA sn sc W', sn = (p.right.drop (d + 1)).length → Rd1 W' W'.heap.size SA sn (ints (p.right.drop (d + 1))) → Below wr.heap.size wr W' → Calls Tryz.prog 41 #[.agg #[.int .i64 g.k, .slice ta g.toks.length tc, .string g.sep, .slice na g.names.length nc, .int .i64 g.start, .slice (some ⟨b, off, none⟩) g.prods.length pc], .slice (some ⟨bf, 0, none⟩) g.names.length g.names.length, .slice SA sn sc] W' (RetSt g.toks.length (tailL k ss (p.right.drop (d + 1))) W')) :=
                  Lib.hid fun SA sn sc W' hsn hr hb => by
                    subst hsn
                    exact hOfA.out (p.right.drop (d + 1)) hdr bf ss SA sc W' (((hG.step hb).2.1).mono (by have := hG.lt; have := hb.size; omega)) (hSf.step hb) hfit.out hr (by rw [List.length_drop]; omega)
                have hSm : Hid (∀ A1 k1 W', Below wr.heap.size wr W' → SetAt W' g.toks.length A1 (tailL k ss (p.right.drop (d + 1))).length k1 (tailL k ss (p.right.drop (d + 1))) →
                    Calls Tryz.prog 40 #[.int .i64 g.toks.length, .int .i64 g.k, .slice A1 (tailL k ss (p.right.drop (d + 1))).length k1, .slice Xj (fs'.getD jx []).length xcj] W' (RetL0 W' (useR k ss fs' p d))) :=
                  Lib.hid fun A1 k1 W' hb h1 => by
                    rw [hkk.out, hUe]
                    exact sum_ok g.toks.length k A1 Xj _ _ k1 xcj _ _ W' (by have := hm.out; omega) (by have := hm.out; omega) hk.out hk4.out h1 (hXj.step hb) hTf hDf
                have hOwn : Hid (∀ (W' : World) (base : Nat) (v : Value), OwnL W' base v (useR k ss fs' p d) → ∃ A c, v = .slice A (useR k ss fs' p d).length c ∧ SetAt W' g.toks.length A (useR k ss fs' p d).length c (useR k ss fs' p d)) :=
                  Lib.hid fun W' base v h => SetAt.of_own h uf3 (by have := hm.out; omega) uf2
                have hUn : Hid (∀ A3 c3 gq W', Below wr.heap.size wr W' → SetAt W' g.toks.length A3 (useR k ss fs' p d).length c3 (useR k ss fs' p d) → Blk W' gq 28 #[.slice Xi (fs'.getD ix []).length xci, .slice A3 (useR k ss fs' p d).length c3] →
                    Calls Tryz.prog 85 #[.int .i64 g.toks.length, .slice (some ⟨gq, 0, none⟩) 2 2] W' (RetL0 W' (lmerge (fs'.getD ix []) (useR k ss fs' p d)))) :=
                  Lib.hid fun A3 c3 gq W' hb h1 q => union_ok g.toks.length gq Xi A3 _ _ xci c3 _ _ W' (by have := hm.out; omega) (by have := hm.out; omega) (hXi.step hb) h1 q
                have hOwn2 : Hid (∀ (W' : World) (base : Nat) (v : Value), OwnL W' base v (lmerge (fs'.getD ix []) (useR k ss fs' p d)) → ∃ A c, v = .slice A (lmerge (fs'.getD ix []) (useR k ss fs' p d)).length c ∧ SetAt W' g.toks.length A (lmerge (fs'.getD ix []) (useR k ss fs' p d)).length c (lmerge (fs'.getD ix []) (useR k ss fs' p d))) :=
                  Lib.hid fun W' base v h => SetAt.of_own h hR.right (by have := hm.out; omega) hR.asc
                have hR1 := Lib.hid hR.fit
                have hR2 := Lib.hid hR.sound
                have hR3 := Lib.hid hR.grow
                have hR4 := Lib.hid hR.same
                have hR5 := Lib.hid hR.tot
                have hRn : Hid (Lk.of [] ∈ (fs'.set ix (lmerge (fs'.getD ix []) (useR k ss fs' p d))).getD i0 []) := Lib.hid (nil_kept hnil.out (by omega) fun x hx => (hR.mem x).2 (.inl hx))
                replace uf4 := Lib.hid uf4
                clear hR uf1 uf2 uf3 uf5 hfoS hA0 hR0 hTf hDf hdr hUe
                generalize lmerge (fs'.getD ix []) (useR k ss fs' p d) = J at *
                have hEndT : Hid ((fs'.getD ix []).length < J.length → tot fs < tot (fs'.set ix J)) := Lib.hid fun h => by
                  have h5 := hR5.out
                  have h6 : tot fs ≤ tot fs' := by
                    have := hgr.out
                    cases gr
                    · simp only [Bool.false_eq_true, if_false] at this; rw [this.1]; exact Nat.le_refl _
                    · simp only [if_true] at this; omega
                  omega
                have hEndF : Hid (¬ (fs'.getD ix []).length < J.length → fs'.set ix J = fs' ∧ (if gr then tot fs < tot fs' else fs' = fs ∧ (∀ q ∈ g.prods.take j, UseC k ss fs q q.right.length) ∧ UseC k ss fs p (d + 1))) := Lib.hid fun h => by
                  obtain ⟨h1, h2⟩ := hR4.out (by have := hR3.out; omega)
                  refine ⟨h1, ?_⟩
                  have := hgr.out
                  cases gr
                  · simp only [Bool.false_eq_true, if_false] at this ⊢
                    obtain ⟨rfl, h4, h5⟩ := this
                    refine ⟨rfl, h4, fun d' s' e1 e2 e3 z hz => ?_⟩
                    by_cases e : d' = d
                    · subst e
                      rw [hsi.out] at e2
                      injection e2 with e2
                      subst e2
                      rw [hixn]
                      exact h2 z ((uf4.out z).2 hz)
                    · exact h5 d' s' (by omega) e2 e3 z hz
                  · simpa using this
                generalize useR k ss fs' p d = U at *
                generalize fs'.getD ix [] = D at *
                generalize fs'.getD jx [] = Dj at *
                replace hixn := Lib.hid hixn
                replace hix := Lib.hid hix
                go_upto_region 16 with (fail)
                obtain ⟨e1, he1⟩ : ∃ e1 : Nat, e1 = d + 1 := ⟨_, rfl⟩
                have zwe : IntKind.i64.wrap ((d : Int) + 1) = (e1 : Int) := by rw [he1]; exact IntWalk.i64_in _ (by omega)
                have hez1 : (0 : Int) ≤ e1 := by omega
                have hez2 : (e1 : Int) ≤ p.right.length := by omega
                have hez3 : (e1 : Int) ≤ rc := by omega
                have hx2d : Rd1 wr w.heap.size (if rc = e1 then RA else RA.map (·.add e1)) (p.right.length - e1) (ints (p.right.drop (d + 1))) := by
                  have := (hx2k.drop e1 rc (by omega) hx3).below hG.2.2
                  rwa [show (ints p.right).drop e1 = ints (p.right.drop (d + 1)) by rw [he1]; simp [ints]] at this
                have hsn : Hid (p.right.length - e1 = (p.right.drop (d + 1)).length) := Lib.hid (by rw [List.length_drop, he1])
                have hszw := hG.lt
                unfold maxLen at hx4
                have hAll : Hid (∀ w', Below wr.heap.size wr w' → w'.cell? ⟨w.heap.size, 0, none⟩ = some (.int .i64 g.k) ∧ w'.cell? ⟨w.heap.size, 1, none⟩ = some (.slice ta g.toks.length tc) ∧ w'.cell? ⟨w.heap.size, 2, none⟩ = some (.string g.sep) ∧ w'.cell? ⟨w.heap.size, 3, none⟩ = some (.slice na g.names.length nc) ∧ w'.cell? ⟨w.heap.size, 4, none⟩ = some (.int .i64 g.start) ∧ w'.cell? ⟨w.heap.size, 5, none⟩ = some (.slice (some ⟨b, off, none⟩) g.prods.length pc) ∧
                    w'.cell? ⟨gp, 0, none⟩ = some (.int .i64 p.left) ∧ w'.cell? ⟨gp, 1, none⟩ = some (.slice (some ⟨rb, roff, none⟩) p.right.length rc) ∧ w'.cell? ⟨bo, jx, none⟩ = some (.slice Xj Dj.length xcj) ∧ Below wr.heap.size wr w') :=
                  Lib.hid fun w' h => ⟨cell_later h c0, cell_later h c1, cell_later h c2, cell_later h c3, cell_later h c4, cell_later h c5, cell_later h p0, cell_later h p1, cell_later h hcxj, h⟩
                go_cut [10] (fun s10 wx => ∃ A2 c2, s10 = .slice A2 U.length c2 ∧ SetAt wx g.toks.length A2 U.length c2 U ∧ Below wr.heap.size wr wx)
                case first =>
                  clear hUn hOwn2 hR1 hR2 hR3 hR4 hR5 hRn hEndT hEndF uf4 hgr hffit hfsnd hnil hS hSf q7 hgk hj hd hcls hsnd hfit hP hOfA c0 c1 c2 c3 c4 c5 p0 p1 hcxi hcxj z1
                  by_cases hel : e1 < p.right.length
                  · have hcap : ¬ rc = e1 := by omega
                    have hadd : (some (⟨rb, roff, none⟩ : Addr)).map (·.add e1) = some ⟨rb, roff + e1, none⟩ := by
                      have h0 : ¬ e1 = 0 := by omega
                      simp [Addr.add, h0]
                    rw [if_neg hcap, hRA.out, hadd] at hx2d
                    clear hadd
                    have hT : Hid (∀ W', Below wr.heap.size wr W' → Calls Tryz.prog 41 #[.agg #[.int .i64 g.k, .slice ta g.toks.length tc, .string g.sep, .slice na g.names.length nc, .int .i64 g.start, .slice (some ⟨b, off, none⟩) g.prods.length pc], .slice (some ⟨bf, 0, none⟩) g.names.length g.names.length, .slice (some ⟨rb, roff + e1, none⟩) (p.right.length - e1) (rc - e1)] W' (RetSt g.toks.length (tailL k ss (p.right.drop (d + 1))) W')) :=
                      Lib.hid fun W' hb => hOf.out _ _ _ W' hsn.out (((hx2d.mono (by omega)).below hb).mono hb.size) hb
                    clear hOf hx2d
                    replace he1 := Lib.hid he1
                    generalize tailL k ss (p.right.drop (d + 1)) = T at *
                    refine wp_region_held_drew (S := (fun w' => w'.cell? ⟨w.heap.size, 0, none⟩ = some (.int .i64 g.k) ∧ w'.cell? ⟨w.heap.size, 1, none⟩ = some (.slice ta g.toks.length tc) ∧ w'.cell? ⟨w.heap.size, 2, none⟩ = some (.string g.sep) ∧ w'.cell? ⟨w.heap.size, 3, none⟩ = some (.slice na g.names.length nc) ∧ w'.cell? ⟨w.heap.size, 4, none⟩ = some (.int .i64 g.start) ∧ w'.cell? ⟨w.heap.size, 5, none⟩ = some (.slice (some ⟨b, off, none⟩) g.prods.length pc) ∧
                      w'.cell? ⟨gp, 0, none⟩ = some (.int .i64 p.left) ∧ w'.cell? ⟨gp, 1, none⟩ = some (.slice (some ⟨rb, roff, none⟩) p.right.length rc) ∧ w'.cell? ⟨bo, jx, none⟩ = some (.slice Xj Dj.length xcj) ∧ Below wr.heap.size wr w')) (by kernel_rfl) (hAll.out _ (bDrw (Below.refl _ _))) (fun hHeld => ?_)
                    refine wpAnyH_take (i := 0) (oi := ⟨some 60, _, _, _, _, _⟩) (v := ?vga1) rfl (by kernel_rfl) (by kernel_rfl) (by kernel_rfl) (fun _ _ _ h => h) (Or.inl ⟨by rfl, ?hyga1⟩) (by assumption) ?restga1
                    case hyga1 => (intro w hSw; (try dsimp only at hSw); go_simp <;> with_reducible rfl)
                    try simp only [Act.put, List.setIfInBounds_toArray, List.set_cons_zero, List.set_cons_succ]
                    refine wpAnyH_take (i := 1) (oi := ⟨some 61, _, _, _, _, _⟩) (v := ?vga2) rfl (by kernel_rfl) (by kernel_rfl) (by kernel_rfl) (fun _ _ _ h => h) (Or.inl ⟨by rfl, ?hyga2⟩) (by assumption) ?restga2
                    case hyga2 => (intro w hSw; (try dsimp only at hSw); go_simp <;> with_reducible rfl)
                    try simp only [Act.put, List.setIfInBounds_toArray, List.set_cons_zero, List.set_cons_succ]
                    refine wpAnyH_take (i := 2) (oi := ⟨some 62, _, _, _, _, _⟩) (v := ?vga3) rfl (by kernel_rfl) (by kernel_rfl) (by kernel_rfl) (fun _ _ _ h => h) (Or.inl ⟨by rfl, ?hyga3⟩) (by assumption) ?restga3
                    case hyga3 => (intro w hSw; (try dsimp only at hSw); go_simp <;> with_reducible rfl)
                    try simp only [Act.put, List.setIfInBounds_toArray, List.set_cons_zero, List.set_cons_succ]
                    refine wpAnyH_take (i := 3) (oi := ⟨some 63, _, _, _, _, _⟩) (v := ?vga4) rfl (by kernel_rfl) (by kernel_rfl) (by kernel_rfl) (fun _ _ _ h => h) (Or.inl ⟨by rfl, ?hyga4⟩) (by assumption) ?restga4
                    case hyga4 => (intro w hSw; (try dsimp only at hSw); go_simp <;> with_reducible rfl)
                    try simp only [Act.put, List.setIfInBounds_toArray, List.set_cons_zero, List.set_cons_succ]
                    refine wpAnyH_take (i := 4) (oi := ⟨some 64, _, _, _, _, _⟩) (v := ?vga5) rfl (by kernel_rfl) (by kernel_rfl) (by kernel_rfl) (fun _ _ _ h => h) (Or.inl ⟨by rfl, ?hyga5⟩) (by assumption) ?restga5
                    case hyga5 => (intro w hSw; (try dsimp only at hSw); go_simp <;> with_reducible rfl)
                    try simp only [Act.put, List.setIfInBounds_toArray, List.set_cons_zero, List.set_cons_succ]
                    refine wpAnyH_take (i := 5) (oi := ⟨some 65, _, _, _, _, _⟩) (v := ?vga6) rfl (by kernel_rfl) (by kernel_rfl) (by kernel_rfl) (fun _ _ _ h => h) (Or.inl ⟨by rfl, ?hyga6⟩) (by assumption) ?restga6
                    case hyga6 => (intro w hSw; (try dsimp only at hSw); go_simp <;> with_reducible rfl)
                    try simp only [Act.put, List.setIfInBounds_toArray, List.set_cons_zero, List.set_cons_succ]
                    refine wpAnyH_take (i := 6) (oi := ⟨some 66, _, _, _, _, _⟩) (v := ?vga7) rfl (by kernel_rfl) (by kernel_rfl) (by kernel_rfl) (fun _ _ _ h => h) (Or.inl ⟨by rfl, ?hyga7⟩) (by assumption) ?restga7
                    case hyga7 => (intro w hSw; (try dsimp only at hSw); go_simp <;> with_reducible rfl)
                    try simp only [Act.put, List.setIfInBounds_toArray, List.set_cons_zero, List.set_cons_succ]
                    refine wpAnyH_take (i := 7) (oi := ⟨some 67, _, _, _, _, _⟩) (v := ?vga8) rfl (by kernel_rfl) (by kernel_rfl) (by kernel_rfl) (fun _ _ _ h => h) (Or.inl ⟨by rfl, ?hyga8⟩) (by assumption) ?restga8
                    case hyga8 => (intro w hSw; (try dsimp only at hSw); go_simp <;> with_reducible rfl)
                    try simp only [Act.put, List.setIfInBounds_toArray, List.set_cons_zero, List.set_cons_succ]
                    refine wpAnyH_take (i := 8) (oi := ⟨some 68, _, _, _, _, _⟩) (v := ?vga9) rfl (by kernel_rfl) (by kernel_rfl) (by kernel_rfl) (fun _ _ _ h => h) (Or.inl ⟨by rfl, ?hyga9⟩) (by assumption) ?restga9
                    case hyga9 => (intro w hSw; (try dsimp only at hSw); go_simp <;> with_reducible rfl)
                    try simp only [Act.put, List.setIfInBounds_toArray, List.set_cons_zero, List.set_cons_succ]
                    refine wpAnyH_take (i := 9) (oi := ⟨some 69, _, _, _, _, _⟩) (v := ?vga10) rfl (by kernel_rfl) (by kernel_rfl) (by kernel_rfl) (fun _ _ _ h => h) (Or.inl ⟨by rfl, ?hyga10⟩) (by assumption) ?restga10
                    case hyga10 => (intro w hSw; (try dsimp only at hSw); go_simp <;> with_reducible rfl)
                    try simp only [Act.put, List.setIfInBounds_toArray, List.set_cons_zero, List.set_cons_succ]
                    refine wpAnyH_take (i := 10) (oi := ⟨some 70, _, _, _, _, _⟩) (v := ?vga11) rfl (by kernel_rfl) (by kernel_rfl) (by kernel_rfl) (fun _ _ _ h => h) (Or.inl ⟨by rfl, ?hyga11⟩) (by assumption) ?restga11
                    case hyga11 => (intro w hSw; (try dsimp only at hSw); go_simp <;> with_reducible rfl)
                    try simp only [Act.put, List.setIfInBounds_toArray, List.set_cons_zero, List.set_cons_succ]
                    refine wpAnyH_take (i := 11) (oi := ⟨some 71, _, _, _, _, _⟩) (v := ?vga12) rfl (by kernel_rfl) (by kernel_rfl) (by kernel_rfl) (fun _ _ _ h => h) (Or.inl ⟨by rfl, ?hyga12⟩) (by assumption) ?restga12
                    case hyga12 => (intro w hSw; (try dsimp only at hSw); go_simp <;> with_reducible rfl)
                    try simp only [Act.put, List.setIfInBounds_toArray, List.set_cons_zero, List.set_cons_succ]
                    refine wpAnyH_take (i := 13) (oi := ⟨some 73, _, _, _, _, _⟩) (v := ?vga13) rfl (by kernel_rfl) (by kernel_rfl) (by kernel_rfl) (fun _ _ _ h => h) (Or.inl ⟨by rfl, ?hyga13⟩) (by assumption) ?restga13
                    case hyga13 => (intro w hSw; (try dsimp only at hSw); go_simp <;> with_reducible rfl)
                    try simp only [Act.put, List.setIfInBounds_toArray, List.set_cons_zero, List.set_cons_succ]
                    refine wpAnyH_take (i := 14) (oi := ⟨some 74, _, _, _, _, _⟩) (v := ?vga14) rfl (by kernel_rfl) (by kernel_rfl) (by kernel_rfl) (fun _ _ _ h => h) (Or.inl ⟨by rfl, ?hyga14⟩) (by assumption) ?restga14
                    case hyga14 => (intro w hSw; (try dsimp only at hSw); go_simp <;> with_reducible rfl)
                    try simp only [Act.put, List.setIfInBounds_toArray, List.set_cons_zero, List.set_cons_succ]
                    refine wpAnyH_take (i := 15) (oi := ⟨some 75, _, _, _, _, _⟩) (v := ?vga15) rfl (by kernel_rfl) (by kernel_rfl) (by kernel_rfl) (fun _ _ _ h => h) (Or.inl ⟨by rfl, ?hyga15⟩) (by assumption) ?restga15
                    case hyga15 => (intro w hSw; (try dsimp only at hSw); go_simp <;> with_reducible rfl)
                    try simp only [Act.put, List.setIfInBounds_toArray, List.set_cons_zero, List.set_cons_succ]
                    refine wpAnyH_take (i := 16) (oi := ⟨some 76, _, _, _, _, _⟩) (v := ?vga16) rfl (by kernel_rfl) (by kernel_rfl) (by kernel_rfl) (fun _ _ _ h => h) (Or.inl ⟨by rfl, ?hyga16⟩) (by assumption) ?restga16
                    case hyga16 => (intro w hSw; (try dsimp only at hSw); go_simp <;> with_reducible rfl)
                    try simp only [Act.put, List.setIfInBounds_toArray, List.set_cons_zero, List.set_cons_succ]
                    refine wpAnyH_take (i := 17) (oi := ⟨some 77, _, _, _, _, _⟩) (v := ?vga17) rfl (by kernel_rfl) (by kernel_rfl) (by kernel_rfl) (fun _ _ _ h => h) (Or.inl ⟨by rfl, ?hyga17⟩) (by assumption) ?restga17
                    case hyga17 => (intro w hSw; (try dsimp only at hSw); go_simp <;> with_reducible rfl)
                    try simp only [Act.put, List.setIfInBounds_toArray, List.set_cons_zero, List.set_cons_succ]
                    refine wpAnyH_take (i := 18) (oi := ⟨some 78, _, _, _, _, _⟩) (v := ?vga18) rfl (by kernel_rfl) (by kernel_rfl) (by kernel_rfl) (fun _ _ _ h => h) (Or.inl ⟨by rfl, ?hyga18⟩) (by assumption) ?restga18
                    case hyga18 => (intro w hSw; (try dsimp only at hSw); go_simp <;> with_reducible rfl)
                    try simp only [Act.put, List.setIfInBounds_toArray, List.set_cons_zero, List.set_cons_succ]
                    refine wpAnyH_ready (rs := [12]) (by kernel_rfl) (by simp) ?_
                    refine AllReadyH.cons (o := ⟨some 72, _, _, _, _, _⟩) rfl (fun K hK => ?_) ?_
                    · go_simp
                      go_at_call 41
                      refine (hT.out _ (by repeat (first | assumption | exact Below.refl _ _ | (refine bStep ?_ (by assumption)) | (with_reducible refine bAlc ?_ _) | (with_reducible refine bDrw ?_)))).mono ?_
                      rintro e w1 ⟨A1, k1, rfl, hs1, hb1⟩
                      go_wp2_with fail
                      refine hK.out _ _ ?_ (fun hHeld => ?_)
                      · (exact hAll.out _ (by repeat (first | assumption | exact Below.refl _ _ | (refine bStep ?_ (by assumption)) | (with_reducible refine bAlc ?_ _) | (with_reducible refine bDrw ?_))))
                      clear hK K
                      try simp only [Act.put, List.setIfInBounds_toArray, List.set_cons_zero, List.set_cons_succ]
                      refine wpAnyH_ready (rs := [19]) (by kernel_rfl) (by simp) ?_
                      refine AllReadyH.cons (o := ⟨some 79, _, _, _, _, _⟩) rfl (fun K hK => ?_) ?_
                      · go_simp
                        go_at_call 40
                        refine (hSm.out A1 k1 _ (by repeat (first | assumption | exact Below.refl _ _ | (refine bStep ?_ (by assumption)) | (with_reducible refine bAlc ?_ _) | (with_reducible refine bDrw ?_))) (hs1.step (by repeat (first | assumption | exact Below.refl _ _ | (refine bStep ?_ (by assumption)) | (with_reducible refine bAlc ?_ _) | (with_reducible refine bDrw ?_))))).mono ?_
                        rintro e w2 ⟨v2, rfl, ho2, hb2⟩
                        obtain ⟨A2, k2, rfl, hs2⟩ := hOwn.out _ _ _ ho2
                        go_wp2_with fail
                        refine hK.out _ _ ?_ (fun hHeld => ?_)
                        · (exact hAll.out _ (by repeat (first | assumption | exact Below.refl _ _ | (refine bStep ?_ (by assumption)) | (with_reducible refine bAlc ?_ _) | (with_reducible refine bDrw ?_))))
                        clear hK K
                        try simp only [Act.put, List.setIfInBounds_toArray, List.set_cons_zero, List.set_cons_succ]
                        refine wpAnyH_take (i := 20) (oi := ⟨some 59, _, _, _, _, _⟩) (v := ?vga19) rfl (by kernel_rfl) (by kernel_rfl) (by kernel_rfl) (fun _ _ _ h => h) (Or.inl ⟨by rfl, ?hyga19⟩) (by assumption) ?restga19
                        case hyga19 => (intro w hSw; (try dsimp only at hSw); go_simp <;> with_reducible rfl)
                        try simp only [Act.put, List.setIfInBounds_toArray, List.set_cons_zero, List.set_cons_succ]
                        refine wpAnyH_take (i := 21) (oi := ⟨some 80, _, _, _, _, _⟩) (v := ?vga20) rfl (by kernel_rfl) (by kernel_rfl) (by kernel_rfl) (fun _ _ _ h => h) (Or.inl ⟨by rfl, ?hyga20⟩) (by assumption) ?restga20
                        case hyga20 => (intro w hSw; (try dsimp only at hSw); go_simp <;> with_reducible rfl)
                        try simp only [Act.put, List.setIfInBounds_toArray, List.set_cons_zero, List.set_cons_succ]
                        refine wpAnyH_take (i := 22) (oi := ⟨some 81, _, _, _, _, _⟩) (v := ?vga21) rfl (by kernel_rfl) (by kernel_rfl) (by kernel_rfl) (fun _ _ _ h => h) (Or.inl ⟨by rfl, ?hyga21⟩) (by assumption) ?restga21
                        case hyga21 => (intro w hSw; (try dsimp only at hSw); go_simp <;> with_reducible rfl)
                        try simp only [Act.put, List.setIfInBounds_toArray, List.set_cons_zero, List.set_cons_succ]
                        refine wpAnyH_take (i := 23) (oi := ⟨some 10, _, _, _, _, _⟩) (v := ?vga22) rfl (by kernel_rfl) (by kernel_rfl) (by kernel_rfl) (fun _ _ _ h => h) (Or.inl ⟨by rfl, ?hyga22⟩) (by assumption) ?restga22
                        case hyga22 => (intro w hSw; (try dsimp only at hSw); go_simp <;> with_reducible rfl)
                        try simp only [Act.put, List.setIfInBounds_toArray, List.set_cons_zero, List.set_cons_succ]
                        refine wpAnyH_take (i := 24) (oi := ⟨some 11, _, _, _, _, _⟩) (v := ?vga23) rfl (by kernel_rfl) (by kernel_rfl) (by kernel_rfl) (fun _ _ _ h => h) (Or.inl ⟨by rfl, ?hyga23⟩) (by assumption) ?restga23
                        case hyga23 => (intro w hSw; (try dsimp only at hSw); go_simp <;> with_reducible rfl)
                        try simp only [Act.put, List.setIfInBounds_toArray, List.set_cons_zero, List.set_cons_succ]
                        refine wpAnyH_done (by kernel_rfl) ?_ _
                        go_wp2_with fail
                        go_meet
                        exact ⟨A2, k2, rfl, hs2, (by repeat (first | assumption | exact Below.refl _ _ | (refine bStep ?_ (by assumption)) | (with_reducible refine bAlc ?_ _) | (with_reducible refine bDrw ?_)))⟩
                      exact AllReadyH.nil
                    exact AllReadyH.nil
                  · have hee : e1 = p.right.length := by omega
                    have hT : Hid (∀ W' SA sn sc, sn = 0 → Below wr.heap.size wr W' → Calls Tryz.prog 41 #[.agg #[.int .i64 g.k, .slice ta g.toks.length tc, .string g.sep, .slice na g.names.length nc, .int .i64 g.start, .slice (some ⟨b, off, none⟩) g.prods.length pc], .slice (some ⟨bf, 0, none⟩) g.names.length g.names.length, .slice SA sn sc] W' (RetSt g.toks.length (tailL k ss (p.right.drop (d + 1))) W')) :=
                      Lib.hid fun W' SA sn sc h0 hb => hOf.out SA sn sc W' (by rw [← hsn.out]; omega) (by
                        rw [h0, ← he1, hee, List.drop_length]; exact ⟨rfl, .inl rfl⟩) hb
                    clear hOf hx2d
                    replace he1 := Lib.hid he1
                    generalize tailL k ss (p.right.drop (d + 1)) = T at *
                    subst hee
                    by_cases hcap : rc = p.right.length
                    · subst hcap
                      refine wp_region_held_drew (S := (fun w' => w'.cell? ⟨w.heap.size, 0, none⟩ = some (.int .i64 g.k) ∧ w'.cell? ⟨w.heap.size, 1, none⟩ = some (.slice ta g.toks.length tc) ∧ w'.cell? ⟨w.heap.size, 2, none⟩ = some (.string g.sep) ∧ w'.cell? ⟨w.heap.size, 3, none⟩ = some (.slice na g.names.length nc) ∧ w'.cell? ⟨w.heap.size, 4, none⟩ = some (.int .i64 g.start) ∧ w'.cell? ⟨w.heap.size, 5, none⟩ = some (.slice (some ⟨b, off, none⟩) g.prods.length pc) ∧
                        w'.cell? ⟨gp, 0, none⟩ = some (.int .i64 p.left) ∧ w'.cell? ⟨gp, 1, none⟩ = some (.slice (some ⟨rb, roff, none⟩) p.right.length p.right.length) ∧ w'.cell? ⟨bo, jx, none⟩ = some (.slice Xj Dj.length xcj) ∧ Below wr.heap.size wr w')) (by kernel_rfl) (hAll.out _ (bDrw (Below.refl _ _))) (fun hHeld => ?_)
                      refine wpAnyH_take (i := 0) (oi := ⟨some 60, _, _, _, _, _⟩) (v := ?vgb1) rfl (by kernel_rfl) (by kernel_rfl) (by kernel_rfl) (fun _ _ _ h => h) (Or.inl ⟨by rfl, ?hygb1⟩) (by assumption) ?restgb1
                      case hygb1 => (intro w hSw; (try dsimp only at hSw); go_simp <;> with_reducible rfl)
                      try simp only [Act.put, List.setIfInBounds_toArray, List.set_cons_zero, List.set_cons_succ]
                      refine wpAnyH_take (i := 1) (oi := ⟨some 61, _, _, _, _, _⟩) (v := ?vgb2) rfl (by kernel_rfl) (by kernel_rfl) (by kernel_rfl) (fun _ _ _ h => h) (Or.inl ⟨by rfl, ?hygb2⟩) (by assumption) ?restgb2
                      case hygb2 => (intro w hSw; (try dsimp only at hSw); go_simp <;> with_reducible rfl)
                      try simp only [Act.put, List.setIfInBounds_toArray, List.set_cons_zero, List.set_cons_succ]
                      refine wpAnyH_take (i := 2) (oi := ⟨some 62, _, _, _, _, _⟩) (v := ?vgb3) rfl (by kernel_rfl) (by kernel_rfl) (by kernel_rfl) (fun _ _ _ h => h) (Or.inl ⟨by rfl, ?hygb3⟩) (by assumption) ?restgb3
                      case hygb3 => (intro w hSw; (try dsimp only at hSw); go_simp <;> with_reducible rfl)
                      try simp only [Act.put, List.setIfInBounds_toArray, List.set_cons_zero, List.set_cons_succ]
                      refine wpAnyH_take (i := 3) (oi := ⟨some 63, _, _, _, _, _⟩) (v := ?vgb4) rfl (by kernel_rfl) (by kernel_rfl) (by kernel_rfl) (fun _ _ _ h => h) (Or.inl ⟨by rfl, ?hygb4⟩) (by assumption) ?restgb4
                      case hygb4 => (intro w hSw; (try dsimp only at hSw); go_simp <;> with_reducible rfl)
                      try simp only [Act.put, List.setIfInBounds_toArray, List.set_cons_zero, List.set_cons_succ]
                      refine wpAnyH_take (i := 4) (oi := ⟨some 64, _, _, _, _, _⟩) (v := ?vgb5) rfl (by kernel_rfl) (by kernel_rfl) (by kernel_rfl) (fun _ _ _ h => h) (Or.inl ⟨by rfl, ?hygb5⟩) (by assumption) ?restgb5
                      case hygb5 => (intro w hSw; (try dsimp only at hSw); go_simp <;> with_reducible rfl)
                      try simp only [Act.put, List.setIfInBounds_toArray, List.set_cons_zero, List.set_cons_succ]
                      refine wpAnyH_take (i := 5) (oi := ⟨some 65, _, _, _, _, _⟩) (v := ?vgb6) rfl (by kernel_rfl) (by kernel_rfl) (by kernel_rfl) (fun _ _ _ h => h) (Or.inl ⟨by rfl, ?hygb6⟩) (by assumption) ?restgb6
                      case hygb6 => (intro w hSw; (try dsimp only at hSw); go_simp <;> with_reducible rfl)
                      try simp only [Act.put, List.setIfInBounds_toArray, List.set_cons_zero, List.set_cons_succ]
                      refine wpAnyH_take (i := 6) (oi := ⟨some 66, _, _, _, _, _⟩) (v := ?vgb7) rfl (by kernel_rfl) (by kernel_rfl) (by kernel_rfl) (fun _ _ _ h => h) (Or.inl ⟨by rfl, ?hygb7⟩) (by assumption) ?restgb7
                      case hygb7 => (intro w hSw; (try dsimp only at hSw); go_simp <;> with_reducible rfl)
                      try simp only [Act.put, List.setIfInBounds_toArray, List.set_cons_zero, List.set_cons_succ]
                      refine wpAnyH_take (i := 7) (oi := ⟨some 67, _, _, _, _, _⟩) (v := ?vgb8) rfl (by kernel_rfl) (by kernel_rfl) (by kernel_rfl) (fun _ _ _ h => h) (Or.inl ⟨by rfl, ?hygb8⟩) (by assumption) ?restgb8
                      case hygb8 => (intro w hSw; (try dsimp only at hSw); go_simp <;> with_reducible rfl)
                      try simp only [Act.put, List.setIfInBounds_toArray, List.set_cons_zero, List.set_cons_succ]
                      refine wpAnyH_take (i := 8) (oi := ⟨some 68, _, _, _, _, _⟩) (v := ?vgb9) rfl (by kernel_rfl) (by kernel_rfl) (by kernel_rfl) (fun _ _ _ h => h) (Or.inl ⟨by rfl, ?hygb9⟩) (by assumption) ?restgb9
                      case hygb9 => (intro w hSw; (try dsimp only at hSw); go_simp <;> with_reducible rfl)
                      try simp only [Act.put, List.setIfInBounds_toArray, List.set_cons_zero, List.set_cons_succ]
                      refine wpAnyH_take (i := 9) (oi := ⟨some 69, _, _, _, _, _⟩) (v := ?vgb10) rfl (by kernel_rfl) (by kernel_rfl) (by kernel_rfl) (fun _ _ _ h => h) (Or.inl ⟨by rfl, ?hygb10⟩) (by assumption) ?restgb10
                      case hygb10 => (intro w hSw; (try dsimp only at hSw); go_simp <;> with_reducible rfl)
                      try simp only [Act.put, List.setIfInBounds_toArray, List.set_cons_zero, List.set_cons_succ]
                      refine wpAnyH_take (i := 10) (oi := ⟨some 70, _, _, _, _, _⟩) (v := ?vgb11) rfl (by kernel_rfl) (by kernel_rfl) (by kernel_rfl) (fun _ _ _ h => h) (Or.inl ⟨by rfl, ?hygb11⟩) (by assumption) ?restgb11
                      case hygb11 => (intro w hSw; (try dsimp only at hSw); go_simp <;> with_reducible rfl)
                      try simp only [Act.put, List.setIfInBounds_toArray, List.set_cons_zero, List.set_cons_succ]
                      refine wpAnyH_take (i := 11) (oi := ⟨some 71, _, _, _, _, _⟩) (v := ?vgb12) rfl (by kernel_rfl) (by kernel_rfl) (by kernel_rfl) (fun _ _ _ h => h) (Or.inl ⟨by rfl, ?hygb12⟩) (by assumption) ?restgb12
                      case hygb12 => (intro w hSw; (try dsimp only at hSw); go_simp <;> with_reducible rfl)
                      try simp only [Act.put, List.setIfInBounds_toArray, List.set_cons_zero, List.set_cons_succ]
                      refine wpAnyH_take (i := 13) (oi := ⟨some 73, _, _, _, _, _⟩) (v := ?vgb13) rfl (by kernel_rfl) (by kernel_rfl) (by kernel_rfl) (fun _ _ _ h => h) (Or.inl ⟨by rfl, ?hygb13⟩) (by assumption) ?restgb13
                      case hygb13 => (intro w hSw; (try dsimp only at hSw); go_simp <;> with_reducible rfl)
                      try simp only [Act.put, List.setIfInBounds_toArray, List.set_cons_zero, List.set_cons_succ]
                      refine wpAnyH_take (i := 14) (oi := ⟨some 74, _, _, _, _, _⟩) (v := ?vgb14) rfl (by kernel_rfl) (by kernel_rfl) (by kernel_rfl) (fun _ _ _ h => h) (Or.inl ⟨by rfl, ?hygb14⟩) (by assumption) ?restgb14
                      case hygb14 => (intro w hSw; (try dsimp only at hSw); go_simp <;> with_reducible rfl)
                      try simp only [Act.put, List.setIfInBounds_toArray, List.set_cons_zero, List.set_cons_succ]
                      refine wpAnyH_take (i := 15) (oi := ⟨some 75, _, _, _, _, _⟩) (v := ?vgb15) rfl (by kernel_rfl) (by kernel_rfl) (by kernel_rfl) (fun _ _ _ h => h) (Or.inl ⟨by rfl, ?hygb15⟩) (by assumption) ?restgb15
                      case hygb15 => (intro w hSw; (try dsimp only at hSw); go_simp <;> with_reducible rfl)
                      try simp only [Act.put, List.setIfInBounds_toArray, List.set_cons_zero, List.set_cons_succ]
                      refine wpAnyH_take (i := 16) (oi := ⟨some 76, _, _, _, _, _⟩) (v := ?vgb16) rfl (by kernel_rfl) (by kernel_rfl) (by kernel_rfl) (fun _ _ _ h => h) (Or.inl ⟨by rfl, ?hygb16⟩) (by assumption) ?restgb16
                      case hygb16 => (intro w hSw; (try dsimp only at hSw); go_simp <;> with_reducible rfl)
                      try simp only [Act.put, List.setIfInBounds_toArray, List.set_cons_zero, List.set_cons_succ]
                      refine wpAnyH_take (i := 17) (oi := ⟨some 77, _, _, _, _, _⟩) (v := ?vgb17) rfl (by kernel_rfl) (by kernel_rfl) (by kernel_rfl) (fun _ _ _ h => h) (Or.inl ⟨by rfl, ?hygb17⟩) (by assumption) ?restgb17
                      case hygb17 => (intro w hSw; (try dsimp only at hSw); go_simp <;> with_reducible rfl)
                      try simp only [Act.put, List.setIfInBounds_toArray, List.set_cons_zero, List.set_cons_succ]
                      refine wpAnyH_take (i := 18) (oi := ⟨some 78, _, _, _, _, _⟩) (v := ?vgb18) rfl (by kernel_rfl) (by kernel_rfl) (by kernel_rfl) (fun _ _ _ h => h) (Or.inl ⟨by rfl, ?hygb18⟩) (by assumption) ?restgb18
                      case hygb18 => (intro w hSw; (try dsimp only at hSw); go_simp <;> with_reducible rfl)
                      try simp only [Act.put, List.setIfInBounds_toArray, List.set_cons_zero, List.set_cons_succ]
                      refine wpAnyH_ready (rs := [12]) (by kernel_rfl) (by simp) ?_
                      refine AllReadyH.cons (o := ⟨some 72, _, _, _, _, _⟩) rfl (fun K hK => ?_) ?_
                      · go_simp
                        go_at_call 41
                        refine (hT.out _ _ _ _ (by first | rfl | omega) (by repeat (first | assumption | exact Below.refl _ _ | (refine bStep ?_ (by assumption)) | (with_reducible refine bAlc ?_ _) | (with_reducible refine bDrw ?_)))).mono ?_
                        rintro e w1 ⟨A1, k1, rfl, hs1, hb1⟩
                        go_wp2_with fail
                        refine hK.out _ _ ?_ (fun hHeld => ?_)
                        · (exact hAll.out _ (by repeat (first | assumption | exact Below.refl _ _ | (refine bStep ?_ (by assumption)) | (with_reducible refine bAlc ?_ _) | (with_reducible refine bDrw ?_))))
                        clear hK K
                        try simp only [Act.put, List.setIfInBounds_toArray, List.set_cons_zero, List.set_cons_succ]
                        refine wpAnyH_ready (rs := [19]) (by kernel_rfl) (by simp) ?_
                        refine AllReadyH.cons (o := ⟨some 79, _, _, _, _, _⟩) rfl (fun K hK => ?_) ?_
                        · go_simp
                          go_at_call 40
                          refine (hSm.out A1 k1 _ (by repeat (first | assumption | exact Below.refl _ _ | (refine bStep ?_ (by assumption)) | (with_reducible refine bAlc ?_ _) | (with_reducible refine bDrw ?_))) (hs1.step (by repeat (first | assumption | exact Below.refl _ _ | (refine bStep ?_ (by assumption)) | (with_reducible refine bAlc ?_ _) | (with_reducible refine bDrw ?_))))).mono ?_
                          rintro e w2 ⟨v2, rfl, ho2, hb2⟩
                          obtain ⟨A2, k2, rfl, hs2⟩ := hOwn.out _ _ _ ho2
                          go_wp2_with fail
                          refine hK.out _ _ ?_ (fun hHeld => ?_)
                          · (exact hAll.out _ (by repeat (first | assumption | exact Below.refl _ _ | (refine bStep ?_ (by assumption)) | (with_reducible refine bAlc ?_ _) | (with_reducible refine bDrw ?_))))
                          clear hK K
                          try simp only [Act.put, List.setIfInBounds_toArray, List.set_cons_zero, List.set_cons_succ]
                          refine wpAnyH_take (i := 20) (oi := ⟨some 59, _, _, _, _, _⟩) (v := ?vgb19) rfl (by kernel_rfl) (by kernel_rfl) (by kernel_rfl) (fun _ _ _ h => h) (Or.inl ⟨by rfl, ?hygb19⟩) (by assumption) ?restgb19
                          case hygb19 => (intro w hSw; (try dsimp only at hSw); go_simp <;> with_reducible rfl)
                          try simp only [Act.put, List.setIfInBounds_toArray, List.set_cons_zero, List.set_cons_succ]
                          refine wpAnyH_take (i := 21) (oi := ⟨some 80, _, _, _, _, _⟩) (v := ?vgb20) rfl (by kernel_rfl) (by kernel_rfl) (by kernel_rfl) (fun _ _ _ h => h) (Or.inl ⟨by rfl, ?hygb20⟩) (by assumption) ?restgb20
                          case hygb20 => (intro w hSw; (try dsimp only at hSw); go_simp <;> with_reducible rfl)
                          try simp only [Act.put, List.setIfInBounds_toArray, List.set_cons_zero, List.set_cons_succ]
                          refine wpAnyH_take (i := 22) (oi := ⟨some 81, _, _, _, _, _⟩) (v := ?vgb21) rfl (by kernel_rfl) (by kernel_rfl) (by kernel_rfl) (fun _ _ _ h => h) (Or.inl ⟨by rfl, ?hygb21⟩) (by assumption) ?restgb21
                          case hygb21 => (intro w hSw; (try dsimp only at hSw); go_simp <;> with_reducible rfl)
                          try simp only [Act.put, List.setIfInBounds_toArray, List.set_cons_zero, List.set_cons_succ]
                          refine wpAnyH_take (i := 23) (oi := ⟨some 10, _, _, _, _, _⟩) (v := ?vgb22) rfl (by kernel_rfl) (by kernel_rfl) (by kernel_rfl) (fun _ _ _ h => h) (Or.inl ⟨by rfl, ?hygb22⟩) (by assumption) ?restgb22
                          case hygb22 => (intro w hSw; (try dsimp only at hSw); go_simp <;> with_reducible rfl)
                          try simp only [Act.put, List.setIfInBounds_toArray, List.set_cons_zero, List.set_cons_succ]
                          refine wpAnyH_take (i := 24) (oi := ⟨some 11, _, _, _, _, _⟩) (v := ?vgb23) rfl (by kernel_rfl) (by kernel_rfl) (by kernel_rfl) (fun _ _ _ h => h) (Or.inl ⟨by rfl, ?hygb23⟩) (by assumption) ?restgb23
                          case hygb23 => (intro w hSw; (try dsimp only at hSw); go_simp <;> with_reducible rfl)
                          try simp only [Act.put, List.setIfInBounds_toArray, List.set_cons_zero, List.set_cons_succ]
                          refine wpAnyH_done (by kernel_rfl) ?_ _
                          go_wp2_with fail
                          go_meet
                          exact ⟨A2, k2, rfl, hs2, (by repeat (first | assumption | exact Below.refl _ _ | (refine bStep ?_ (by assumption)) | (with_reducible refine bAlc ?_ _) | (with_reducible refine bDrw ?_)))⟩
                        exact AllReadyH.nil
                      exact AllReadyH.nil
                    · refine wp_region_held_drew (S := (fun w' => w'.cell? ⟨w.heap.size, 0, none⟩ = some (.int .i64 g.k) ∧ w'.cell? ⟨w.heap.size, 1, none⟩ = some (.slice ta g.toks.length tc) ∧ w'.cell? ⟨w.heap.size, 2, none⟩ = some (.string g.sep) ∧ w'.cell? ⟨w.heap.size, 3, none⟩ = some (.slice na g.names.length nc) ∧ w'.cell? ⟨w.heap.size, 4, none⟩ = some (.int .i64 g.start) ∧ w'.cell? ⟨w.heap.size, 5, none⟩ = some (.slice (some ⟨b, off, none⟩) g.prods.length pc) ∧
                        w'.cell? ⟨gp, 0, none⟩ = some (.int .i64 p.left) ∧ w'.cell? ⟨gp, 1, none⟩ = some (.slice (some ⟨rb, roff, none⟩) p.right.length rc) ∧ w'.cell? ⟨bo, jx, none⟩ = some (.slice Xj Dj.length xcj) ∧ Below wr.heap.size wr w')) (by kernel_rfl) (hAll.out _ (bDrw (Below.refl _ _))) (fun hHeld => ?_)
                      refine wpAnyH_take (i := 0) (oi := ⟨some 60, _, _, _, _, _⟩) (v := ?vgc1) rfl (by kernel_rfl) (by kernel_rfl) (by kernel_rfl) (fun _ _ _ h => h) (Or.inl ⟨by rfl, ?hygc1⟩) (by assumption) ?restgc1
                      case hygc1 => (intro w hSw; (try dsimp only at hSw); go_simp <;> with_reducible rfl)
                      try simp only [Act.put, List.setIfInBounds_toArray, List.set_cons_zero, List.set_cons_succ]
                      refine wpAnyH_take (i := 1) (oi := ⟨some 61, _, _, _, _, _⟩) (v := ?vgc2) rfl (by kernel_rfl) (by kernel_rfl) (by kernel_rfl) (fun _ _ _ h => h) (Or.inl ⟨by rfl, ?hygc2⟩) (by assumption) ?restgc2
                      case hygc2 => (intro w hSw; (try dsimp only at hSw); go_simp <;> with_reducible rfl)
                      try simp only [Act.put, List.setIfInBounds_toArray, List.set_cons_zero, List.set_cons_succ]
                      refine wpAnyH_take (i := 2) (oi := ⟨some 62, _, _, _, _, _⟩) (v := ?vgc3) rfl (by kernel_rfl) (by kernel_rfl) (by kernel_rfl) (fun _ _ _ h => h) (Or.inl ⟨by rfl, ?hygc3⟩) (by assumption) ?restgc3
                      case hygc3 => (intro w hSw; (try dsimp only at hSw); go_simp <;> with_reducible rfl)
                      try simp only [Act.put, List.setIfInBounds_toArray, List.set_cons_zero, List.set_cons_succ]
                      refine wpAnyH_take (i := 3) (oi := ⟨some 63, _, _, _, _, _⟩) (v := ?vgc4) rfl (by kernel_rfl) (by kernel_rfl) (by kernel_rfl) (fun _ _ _ h => h) (Or.inl ⟨by rfl, ?hygc4⟩) (by assumption) ?restgc4
                      case hygc4 => (intro w hSw; (try dsimp only at hSw); go_simp <;> with_reducible rfl)
                      try simp only [Act.put, List.setIfInBounds_toArray, List.set_cons_zero, List.set_cons_succ]
                      refine wpAnyH_take (i := 4) (oi := ⟨some 64, _, _, _, _, _⟩) (v := ?vgc5) rfl (by kernel_rfl) (by kernel_rfl) (by kernel_rfl) (fun _ _ _ h => h) (Or.inl ⟨by rfl, ?hygc5⟩) (by assumption) ?restgc5
                      case hygc5 => (intro w hSw; (try dsimp only at hSw); go_simp <;> with_reducible rfl)
                      try simp only [Act.put, List.setIfInBounds_toArray, List.set_cons_zero, List.set_cons_succ]
                      refine wpAnyH_take (i := 5) (oi := ⟨some 65, _, _, _, _, _⟩) (v := ?vgc6) rfl (by kernel_rfl) (by kernel_rfl) (by kernel_rfl) (fun _ _ _ h => h) (Or.inl ⟨by rfl, ?hygc6⟩) (by assumption) ?restgc6
                      case hygc6 => (intro w hSw; (try dsimp only at hSw); go_simp <;> with_reducible rfl)
                      try simp only [Act.put, List.setIfInBounds_toArray, List.set_cons_zero, List.set_cons_succ]
                      refine wpAnyH_take (i := 6) (oi := ⟨some 66, _, _, _, _, _⟩) (v := ?vgc7) rfl (by kernel_rfl) (by kernel_rfl) (by kernel_rfl) (fun _ _ _ h => h) (Or.inl ⟨by rfl, ?hygc7⟩) (by assumption) ?restgc7
                      case hygc7 => (intro w hSw; (try dsimp only at hSw); go_simp <;> with_reducible rfl)
                      try simp only [Act.put, List.setIfInBounds_toArray, List.set_cons_zero, List.set_cons_succ]
                      refine wpAnyH_take (i := 7) (oi := ⟨some 67, _, _, _, _, _⟩) (v := ?vgc8) rfl (by kernel_rfl) (by kernel_rfl) (by kernel_rfl) (fun _ _ _ h => h) (Or.inl ⟨by rfl, ?hygc8⟩) (by assumption) ?restgc8
                      case hygc8 => (intro w hSw; (try dsimp only at hSw); go_simp <;> with_reducible rfl)
                      try simp only [Act.put, List.setIfInBounds_toArray, List.set_cons_zero, List.set_cons_succ]
                      refine wpAnyH_take (i := 8) (oi := ⟨some 68, _, _, _, _, _⟩) (v := ?vgc9) rfl (by kernel_rfl) (by kernel_rfl) (by kernel_rfl) (fun _ _ _ h => h) (Or.inl ⟨by rfl, ?hygc9⟩) (by assumption) ?restgc9
                      case hygc9 => (intro w hSw; (try dsimp only at hSw); go_simp <;> with_reducible rfl)
                      try simp only [Act.put, List.setIfInBounds_toArray, List.set_cons_zero, List.set_cons_succ]
                      refine wpAnyH_take (i := 9) (oi := ⟨some 69, _, _, _, _, _⟩) (v := ?vgc10) rfl (by kernel_rfl) (by kernel_rfl) (by kernel_rfl) (fun _ _ _ h => h) (Or.inl ⟨by rfl, ?hygc10⟩) (by assumption) ?restgc10
                      case hygc10 => (intro w hSw; (try dsimp only at hSw); go_simp <;> with_reducible rfl)
                      try simp only [Act.put, List.setIfInBounds_toArray, List.set_cons_zero, List.set_cons_succ]
                      refine wpAnyH_take (i := 10) (oi := ⟨some 70, _, _, _, _, _⟩) (v := ?vgc11) rfl (by kernel_rfl) (by kernel_rfl) (by kernel_rfl) (fun _ _ _ h => h) (Or.inl ⟨by rfl, ?hygc11⟩) (by assumption) ?restgc11
                      case hygc11 => (intro w hSw; (try dsimp only at hSw); go_simp <;> with_reducible rfl)
                      try simp only [Act.put, List.setIfInBounds_toArray, List.set_cons_zero, List.set_cons_succ]
                      refine wpAnyH_take (i := 11) (oi := ⟨some 71, _, _, _, _, _⟩) (v := ?vgc12) rfl (by kernel_rfl) (by kernel_rfl) (by kernel_rfl) (fun _ _ _ h => h) (Or.inl ⟨by rfl, ?hygc12⟩) (by assumption) ?restgc12
                      case hygc12 => (intro w hSw; (try dsimp only at hSw); go_simp <;> with_reducible rfl)
                      try simp only [Act.put, List.setIfInBounds_toArray, List.set_cons_zero, List.set_cons_succ]
                      refine wpAnyH_take (i := 13) (oi := ⟨some 73, _, _, _, _, _⟩) (v := ?vgc13) rfl (by kernel_rfl) (by kernel_rfl) (by kernel_rfl) (fun _ _ _ h => h) (Or.inl ⟨by rfl, ?hygc13⟩) (by assumption) ?restgc13
                      case hygc13 => (intro w hSw; (try dsimp only at hSw); go_simp <;> with_reducible rfl)
                      try simp only [Act.put, List.setIfInBounds_toArray, List.set_cons_zero, List.set_cons_succ]
                      refine wpAnyH_take (i := 14) (oi := ⟨some 74, _, _, _, _, _⟩) (v := ?vgc14) rfl (by kernel_rfl) (by kernel_rfl) (by kernel_rfl) (fun _ _ _ h => h) (Or.inl ⟨by rfl, ?hygc14⟩) (by assumption) ?restgc14
                      case hygc14 => (intro w hSw; (try dsimp only at hSw); go_simp <;> with_reducible rfl)
                      try simp only [Act.put, List.setIfInBounds_toArray, List.set_cons_zero, List.set_cons_succ]
                      refine wpAnyH_take (i := 15) (oi := ⟨some 75, _, _, _, _, _⟩) (v := ?vgc15) rfl (by kernel_rfl) (by kernel_rfl) (by kernel_rfl) (fun _ _ _ h => h) (Or.inl ⟨by rfl, ?hygc15⟩) (by assumption) ?restgc15
                      case hygc15 => (intro w hSw; (try dsimp only at hSw); go_simp <;> with_reducible rfl)
                      try simp only [Act.put, List.setIfInBounds_toArray, List.set_cons_zero, List.set_cons_succ]
                      refine wpAnyH_take (i := 16) (oi := ⟨some 76, _, _, _, _, _⟩) (v := ?vgc16) rfl (by kernel_rfl) (by kernel_rfl) (by kernel_rfl) (fun _ _ _ h => h) (Or.inl ⟨by rfl, ?hygc16⟩) (by assumption) ?restgc16
                      case hygc16 => (intro w hSw; (try dsimp only at hSw); go_simp <;> with_reducible rfl)
                      try simp only [Act.put, List.setIfInBounds_toArray, List.set_cons_zero, List.set_cons_succ]
                      refine wpAnyH_take (i := 17) (oi := ⟨some 77, _, _, _, _, _⟩) (v := ?vgc17) rfl (by kernel_rfl) (by kernel_rfl) (by kernel_rfl) (fun _ _ _ h => h) (Or.inl ⟨by rfl, ?hygc17⟩) (by assumption) ?restgc17
                      case hygc17 => (intro w hSw; (try dsimp only at hSw); go_simp <;> with_reducible rfl)
                      try simp only [Act.put, List.setIfInBounds_toArray, List.set_cons_zero, List.set_cons_succ]
                      refine wpAnyH_take (i := 18) (oi := ⟨some 78, _, _, _, _, _⟩) (v := ?vgc18) rfl (by kernel_rfl) (by kernel_rfl) (by kernel_rfl) (fun _ _ _ h => h) (Or.inl ⟨by rfl, ?hygc18⟩) (by assumption) ?restgc18
                      case hygc18 => (intro w hSw; (try dsimp only at hSw); go_simp <;> with_reducible rfl)
                      try simp only [Act.put, List.setIfInBounds_toArray, List.set_cons_zero, List.set_cons_succ]
                      refine wpAnyH_ready (rs := [12]) (by kernel_rfl) (by simp) ?_
                      refine AllReadyH.cons (o := ⟨some 72, _, _, _, _, _⟩) rfl (fun K hK => ?_) ?_
                      · go_simp
                        go_at_call 41
                        refine (hT.out _ _ _ _ (by first | rfl | omega) (by repeat (first | assumption | exact Below.refl _ _ | (refine bStep ?_ (by assumption)) | (with_reducible refine bAlc ?_ _) | (with_reducible refine bDrw ?_)))).mono ?_
                        rintro e w1 ⟨A1, k1, rfl, hs1, hb1⟩
                        go_wp2_with fail
                        refine hK.out _ _ ?_ (fun hHeld => ?_)
                        · (exact hAll.out _ (by repeat (first | assumption | exact Below.refl _ _ | (refine bStep ?_ (by assumption)) | (with_reducible refine bAlc ?_ _) | (with_reducible refine bDrw ?_))))
                        clear hK K
                        try simp only [Act.put, List.setIfInBounds_toArray, List.set_cons_zero, List.set_cons_succ]
                        refine wpAnyH_ready (rs := [19]) (by kernel_rfl) (by simp) ?_
                        refine AllReadyH.cons (o := ⟨some 79, _, _, _, _, _⟩) rfl (fun K hK => ?_) ?_
                        · go_simp
                          go_at_call 40
                          refine (hSm.out A1 k1 _ (by repeat (first | assumption | exact Below.refl _ _ | (refine bStep ?_ (by assumption)) | (with_reducible refine bAlc ?_ _) | (with_reducible refine bDrw ?_))) (hs1.step (by repeat (first | assumption | exact Below.refl _ _ | (refine bStep ?_ (by assumption)) | (with_reducible refine bAlc ?_ _) | (with_reducible refine bDrw ?_))))).mono ?_
                          rintro e w2 ⟨v2, rfl, ho2, hb2⟩
                          obtain ⟨A2, k2, rfl, hs2⟩ := hOwn.out _ _ _ ho2
                          go_wp2_with fail
                          refine hK.out _ _ ?_ (fun hHeld => ?_)
                          · (exact hAll.out _ (by repeat (first | assumption | exact Below.refl _ _ | (refine bStep ?_ (by assumption)) | (with_reducible refine bAlc ?_ _) | (with_reducible refine bDrw ?_))))
                          clear hK K
                          try simp only [Act.put, List.setIfInBounds_toArray, List.set_cons_zero, List.set_cons_succ]
                          refine wpAnyH_take (i := 20) (oi := ⟨some 59, _, _, _, _, _⟩) (v := ?vgc19) rfl (by kernel_rfl) (by kernel_rfl) (by kernel_rfl) (fun _ _ _ h => h) (Or.inl ⟨by rfl, ?hygc19⟩) (by assumption) ?restgc19
                          case hygc19 => (intro w hSw; (try dsimp only at hSw); go_simp <;> with_reducible rfl)
                          try simp only [Act.put, List.setIfInBounds_toArray, List.set_cons_zero, List.set_cons_succ]
                          refine wpAnyH_take (i := 21) (oi := ⟨some 80, _, _, _, _, _⟩) (v := ?vgc20) rfl (by kernel_rfl) (by kernel_rfl) (by kernel_rfl) (fun _ _ _ h => h) (Or.inl ⟨by rfl, ?hygc20⟩) (by assumption) ?restgc20
                          case hygc20 => (intro w hSw; (try dsimp only at hSw); go_simp <;> with_reducible rfl)
                          try simp only [Act.put, List.setIfInBounds_toArray, List.set_cons_zero, List.set_cons_succ]
                          refine wpAnyH_take (i := 22) (oi := ⟨some 81, _, _, _, _, _⟩) (v := ?vgc21) rfl (by kernel_rfl) (by kernel_rfl) (by kernel_rfl) (fun _ _ _ h => h) (Or.inl ⟨by rfl, ?hygc21⟩) (by assumption) ?restgc21
                          case hygc21 => (intro w hSw; (try dsimp only at hSw); go_simp <;> with_reducible rfl)
                          try simp only [Act.put, List.setIfInBounds_toArray, List.set_cons_zero, List.set_cons_succ]
                          refine wpAnyH_take (i := 23) (oi := ⟨some 10, _, _, _, _, _⟩) (v := ?vgc22) rfl (by kernel_rfl) (by kernel_rfl) (by kernel_rfl) (fun _ _ _ h => h) (Or.inl ⟨by rfl, ?hygc22⟩) (by assumption) ?restgc22
                          case hygc22 => (intro w hSw; (try dsimp only at hSw); go_simp <;> with_reducible rfl)
                          try simp only [Act.put, List.setIfInBounds_toArray, List.set_cons_zero, List.set_cons_succ]
                          refine wpAnyH_take (i := 24) (oi := ⟨some 11, _, _, _, _, _⟩) (v := ?vgc23) rfl (by kernel_rfl) (by kernel_rfl) (by kernel_rfl) (fun _ _ _ h => h) (Or.inl ⟨by rfl, ?hygc23⟩) (by assumption) ?restgc23
                          case hygc23 => (intro w hSw; (try dsimp only at hSw); go_simp <;> with_reducible rfl)
                          try simp only [Act.put, List.setIfInBounds_toArray, List.set_cons_zero, List.set_cons_succ]
                          refine wpAnyH_done (by kernel_rfl) ?_ _
                          go_wp2_with fail
                          go_meet
                          exact ⟨A2, k2, rfl, hs2, (by repeat (first | assumption | exact Below.refl _ _ | (refine bStep ?_ (by assumption)) | (with_reducible refine bAlc ?_ _) | (with_reducible refine bDrw ?_)))⟩
                        exact AllReadyH.nil
                      exact AllReadyH.nil
                case rest =>
                  clear c0 c1 c2 c3 c4 c5 p0 p1 hAll hOf hSm hOwn hx2d z1 hcxj
                  replace he1 := Lib.hid he1
                  obtain ⟨A3, c3, rfl, hs3, hbc⟩ := hcut
                  have hS2 := hS.step hbc
                  have hSf2 := hSf.step hbc
                  have hG2 := hG.step hbc
                  have q72 := q7.step hbc
                  have hcx2 := cell_later hbc hcxi
                  have hUn2 : Hid (∀ gq W', Below wc.heap.size wc W' → Blk W' gq 28 #[.slice Xi D.length xci, .slice A3 U.length c3] → Calls Tryz.prog 85 #[.int .i64 g.toks.length, .slice (some ⟨gq, 0, none⟩) 2 2] W' (RetL0 W' J)) :=
                    Lib.hid fun gq W' hb q => hUn.out A3 c3 gq W' (bStep hbc hb) (hs3.step hb) q
                  obtain ⟨c0, c1, c2, c3', c4, c5⟩ := hG2.cells
                  dsimp only at c1 c3' c5
                  clear hUn hS hSf hG q7 hcxi hbc hs3
                  generalize wc = wd at *
                  have hAll : Hid (∀ w', Below wd.heap.size wd w' → w'.cell? ⟨w.heap.size, 1, none⟩ = some (.slice ta g.toks.length tc) ∧ w'.cell? ⟨bo, ix, none⟩ = some (.slice Xi D.length xci) ∧ Below wd.heap.size wd w') :=
                    Lib.hid fun w' h => ⟨cell_later h c1, cell_later h hcx2, h⟩
                  go_upto_region 17 with (fail)
                  go_cut [12] (fun s12 wx => ∃ A4 c4, s12 = .slice A4 J.length c4 ∧ SetAt wx g.toks.length A4 J.length c4 J ∧ Below wd.heap.size wd wx)
                  case first =>
                    clear hR1 hR2 hR3 hR4 hR5 hRn hEndT hEndF uf4
                    refine wp_region_held_drew (S := (fun w' => w'.cell? ⟨w.heap.size, 1, none⟩ = some (.slice ta g.toks.length tc) ∧ w'.cell? ⟨bo, ix, none⟩ = some (.slice Xi D.length xci) ∧ Below wd.heap.size wd w')) (by kernel_rfl) (hAll.out _ (bDrw (Below.refl _ _))) (fun hHeld => ?_)
                    refine wpAnyH_take (i := 0) (oi := ⟨some 83, _, _, _, _, _⟩) (v := ?vh1) rfl (by kernel_rfl) (by kernel_rfl) (by kernel_rfl) (fun _ _ _ h => h) (Or.inl ⟨by rfl, ?hyh1⟩) (by assumption) ?resth1
                    case hyh1 => (intro w hSw; (try dsimp only at hSw); go_simp <;> with_reducible rfl)
                    try simp only [Act.put, List.setIfInBounds_toArray, List.set_cons_zero, List.set_cons_succ]
                    refine wpAnyH_take (i := 1) (oi := ⟨some 84, _, _, _, _, _⟩) (v := ?vh2) rfl (by kernel_rfl) (by kernel_rfl) (by kernel_rfl) (fun _ _ _ h => h) (Or.inl ⟨by rfl, ?hyh2⟩) (by assumption) ?resth2
                    case hyh2 => (intro w hSw; (try dsimp only at hSw); go_simp <;> with_reducible rfl)
                    try simp only [Act.put, List.setIfInBounds_toArray, List.set_cons_zero, List.set_cons_succ]
                    refine wpAnyH_take (i := 2) (oi := ⟨some 85, _, _, _, _, _⟩) (v := ?vh3) rfl (by kernel_rfl) (by kernel_rfl) (by kernel_rfl) (fun _ _ _ h => h) (Or.inl ⟨by rfl, ?hyh3⟩) (by assumption) ?resth3
                    case hyh3 => (intro w hSw; (try dsimp only at hSw); go_simp <;> with_reducible rfl)
                    try simp only [Act.put, List.setIfInBounds_toArray, List.set_cons_zero, List.set_cons_succ]
                    refine wpAnyH_take (i := 3) (oi := ⟨some 86, _, _, _, _, _⟩) (v := ?vh4) rfl (by kernel_rfl) (by kernel_rfl) (by kernel_rfl) (fun _ _ _ h => h) (Or.inl ⟨by rfl, ?hyh4⟩) (by assumption) ?resth4
                    case hyh4 => (intro w hSw; (try dsimp only at hSw); go_simp <;> with_reducible rfl)
                    try simp only [Act.put, List.setIfInBounds_toArray, List.set_cons_zero, List.set_cons_succ]
                    refine wpAnyH_take (i := 4) (oi := ⟨some 87, _, _, _, _, _⟩) (v := ?vh5) rfl (by kernel_rfl) (by kernel_rfl) (by kernel_rfl) (fun _ _ _ h => h) (Or.inl ⟨by rfl, ?hyh5⟩) (by assumption) ?resth5
                    case hyh5 => (intro w hSw; (try dsimp only at hSw); go_simp <;> with_reducible rfl)
                    try simp only [Act.put, List.setIfInBounds_toArray, List.set_cons_zero, List.set_cons_succ]
                    refine wpAnyH_take (i := 5) (oi := ⟨some 88, _, _, _, _, _⟩) (v := ?vh6) rfl (by kernel_rfl) (by kernel_rfl) (by kernel_rfl) (fun _ _ _ h => h) (Or.inl ⟨by rfl, ?hyh6⟩) (by assumption) ?resth6
                    case hyh6 => (intro w hSw; (try dsimp only at hSw); go_simp <;> with_reducible rfl)
                    try simp only [Act.put, List.setIfInBounds_toArray, List.set_cons_zero, List.set_cons_succ]
                    refine wpAnyH_take (i := 6) (oi := ⟨some 89, _, _, _, _, _⟩) (v := ?vh7) rfl (by kernel_rfl) (by kernel_rfl) (by kernel_rfl) (fun _ _ _ h => h) (Or.inl ⟨by rfl, ?hyh7⟩) (by assumption) ?resth7
                    case hyh7 => (intro w hSw; (try dsimp only at hSw); go_simp <;> with_reducible rfl)
                    try simp only [Act.put, List.setIfInBounds_toArray, List.set_cons_zero, List.set_cons_succ]
                    refine wpAnyH_take (i := 7) (oi := ⟨some 90, _, _, _, _, _⟩) (v := ?vh8) rfl (by kernel_rfl) (by kernel_rfl) (by kernel_rfl) (fun _ _ _ h => h) (Or.inl ⟨by rfl, ?hyh8⟩) (by assumption) ?resth8
                    case hyh8 => (intro w hSw; (try dsimp only at hSw); go_simp <;> with_reducible rfl)
                    try simp only [Act.put, List.setIfInBounds_toArray, List.set_cons_zero, List.set_cons_succ]
                    refine wpAnyH_ready (rs := [8]) (by kernel_rfl) (by simp) ?_
                    refine AllReadyH.cons (o := ⟨some 91, _, _, _, _, _⟩) rfl (fun K hK => ?_) ?_
                    · go_simp
                      refine hK.out _ _ ?_ (fun hHeld => ?_)
                      · (exact hAll.out _ (by repeat (first | assumption | exact Below.refl _ _ | (refine bStep ?_ (by assumption)) | (with_reducible refine bAlc ?_ _) | (with_reducible refine bDrw ?_))))
                      clear hK K
                      try simp only [Act.put, List.setIfInBounds_toArray, List.set_cons_zero, List.set_cons_succ]
                      refine wpAnyH_ready (rs := [9]) (by kernel_rfl) (by simp) ?_
                      refine AllReadyH.cons (o := ⟨some 92, _, _, _, _, _⟩) rfl (fun K hK => ?_) ?_
                      · go_simp
                        go_at_call 85
                        refine (hUn2.out wd.heap.size _ (by repeat (first | assumption | exact Below.refl _ _ | (refine bStep ?_ (by assumption)) | (with_reducible refine bAlc ?_ _) | (with_reducible refine bDrw ?_))) (show Blk (wd.alloc (.cells #[.slice Xi D.length xci, .slice A3 U.length c3] 28)).drew wd.heap.size 28 #[.slice Xi D.length xci, .slice A3 U.length c3] from Blk.new wd 28 _)).mono ?_
                        rintro e w2 ⟨v2, rfl, ho2, hb2⟩
                        obtain ⟨A4, k4, rfl, hs4⟩ := hOwn2.out _ _ _ ho2
                        go_wp2_with fail
                        refine hK.out _ _ ?_ (fun hHeld => ?_)
                        · (exact hAll.out _ (by repeat (first | assumption | exact Below.refl _ _ | (refine bStep ?_ (by assumption)) | (with_reducible refine bAlc ?_ _) | (with_reducible refine bDrw ?_))))
                        clear hK K
                        try simp only [Act.put, List.setIfInBounds_toArray, List.set_cons_zero, List.set_cons_succ]
                        refine wpAnyH_take (i := 10) (oi := ⟨some 82, _, _, _, _, _⟩) (v := ?vh9) rfl (by kernel_rfl) (by kernel_rfl) (by kernel_rfl) (fun _ _ _ h => h) (Or.inl ⟨by rfl, ?hyh9⟩) (by assumption) ?resth9
                        case hyh9 => (intro w hSw; (try dsimp only at hSw); go_simp <;> with_reducible rfl)
                        try simp only [Act.put, List.setIfInBounds_toArray, List.set_cons_zero, List.set_cons_succ]
                        refine wpAnyH_take (i := 11) (oi := ⟨some 93, _, _, _, _, _⟩) (v := ?vh10) rfl (by kernel_rfl) (by kernel_rfl) (by kernel_rfl) (fun _ _ _ h => h) (Or.inl ⟨by rfl, ?hyh10⟩) (by assumption) ?resth10
                        case hyh10 => (intro w hSw; (try dsimp only at hSw); go_simp <;> with_reducible rfl)
                        try simp only [Act.put, List.setIfInBounds_toArray, List.set_cons_zero, List.set_cons_succ]
                        refine wpAnyH_take (i := 12) (oi := ⟨some 94, _, _, _, _, _⟩) (v := ?vh11) rfl (by kernel_rfl) (by kernel_rfl) (by kernel_rfl) (fun _ _ _ h => h) (Or.inl ⟨by rfl, ?hyh11⟩) (by assumption) ?resth11
                        case hyh11 => (intro w hSw; (try dsimp only at hSw); go_simp <;> with_reducible rfl)
                        try simp only [Act.put, List.setIfInBounds_toArray, List.set_cons_zero, List.set_cons_succ]
                        refine wpAnyH_take (i := 13) (oi := ⟨some 12, _, _, _, _, _⟩) (v := ?vh12) rfl (by kernel_rfl) (by kernel_rfl) (by kernel_rfl) (fun _ _ _ h => h) (Or.inl ⟨by rfl, ?hyh12⟩) (by assumption) ?resth12
                        case hyh12 => (intro w hSw; (try dsimp only at hSw); go_simp <;> with_reducible rfl)
                        try simp only [Act.put, List.setIfInBounds_toArray, List.set_cons_zero, List.set_cons_succ]
                        refine wpAnyH_take (i := 14) (oi := ⟨some 13, _, _, _, _, _⟩) (v := ?vh13) rfl (by kernel_rfl) (by kernel_rfl) (by kernel_rfl) (fun _ _ _ h => h) (Or.inl ⟨by rfl, ?hyh13⟩) (by assumption) ?resth13
                        case hyh13 => (intro w hSw; (try dsimp only at hSw); go_simp <;> with_reducible rfl)
                        try simp only [Act.put, List.setIfInBounds_toArray, List.set_cons_zero, List.set_cons_succ]
                        refine wpAnyH_done (by kernel_rfl) ?_ _
                        go_wp2_with fail
                        go_meet
                        exact ⟨A4, k4, rfl, hs4, (by repeat (first | assumption | exact Below.refl _ _ | (refine bStep ?_ (by assumption)) | (with_reducible refine bAlc ?_ _) | (with_reducible refine bDrw ?_)))⟩
                      exact AllReadyH.nil
                    exact AllReadyH.nil
                  case rest =>
                    clear c0 c1 c2 c3' c4 c5 hAll hUn2 hOwn2
                    obtain ⟨A4, c4, rfl, hs4, hbd⟩ := hcut
                    have hS3 := hS2.step hbd
                    have hSf3 := hSf2.step hbd
                    have hG3 := hG2.step hbd
                    have q73 := q72.step hbd
                    have hcx3 := cell_later hbd hcx2
                    have hfx3 : wc.frozen? ⟨bo, ix, none⟩ = false := by obtain ⟨_, _, _, h, _⟩ := hS3.get ix hixi; exact h
                    have hS4 := hS3.put ix hs4
                    have hSf4 := hSf3.other hS3 hbfo ix (.slice A4 J.length c4)
                    have hG4 := hG3.far ⟨bo, ix, none⟩ (.slice A4 J.length c4) hgo
                    have q74 := q73.far (p := ⟨bo, ix, none⟩) (Ne.symm hgp) (.slice A4 J.length c4)
                    clear hcx2 hS2 hSf2 hG2 q72 hbd hs4 hS3 hSf3 hG3 q73
                    cases gr with
                    | true =>
                      have hEnd1 : Hid (tot fs < tot (fs'.set ix J)) := Lib.hid (by
                        have h1 := hgr.out
                        simp only [if_true] at h1
                        have := hR5.out; have := hR3.out; omega)
                      go_wp2_with fail
                      go_roundg (p.right.length - (d + 1))
                      case measure => have := hd.out; omega
                      case rel => exact ⟨d + 1, fs'.set ix J, true, (by first | go_num | rw [he1.out]), rfl, Lib.hid (by have := hd.out; have := he1.out; omega), hR1, hR2, hRn, hS4, hSf4, hG4, q74, Lib.hid (by simpa using hEnd1.out)⟩
                    | false =>
                      by_cases hgn : D.length < J.length
                      · have hEnd1 := Lib.hid (hEndT.out hgn)
                        have hz : (D.length : Int) < J.length := by omega
                        go_wp2_with fail
                        go_roundg (p.right.length - (d + 1))
                        case measure => have := hd.out; omega
                        case rel => exact ⟨d + 1, fs'.set ix J, true, (by first | go_num | rw [he1.out]), rfl, Lib.hid (by have := hd.out; have := he1.out; omega), hR1, hR2, hRn, hS4, hSf4, hG4, q74, Lib.hid (by simpa using hEnd1.out)⟩
                      · have hEnd1 := Lib.hid (hEndF.out hgn)
                        have hz : ¬ (D.length : Int) < J.length := by omega
                        rw [hEnd1.out.1] at hS4
                        go_wp2_with fail
                        go_roundg (p.right.length - (d + 1))
                        case measure => have := hd.out; omega
                        case rel => exact ⟨d + 1, fs', false, (by first | go_num | rw [he1.out]), rfl, Lib.hid (by have := hd.out; have := he1.out; omega), hffit, hfsnd, hnil, hS4, hSf4, hG4, q74, Lib.hid hEnd1.out.2⟩
            · have hde : d = p.right.length := by have := hd.out; omega
              subst hde
              clear c0 c1 c2 c3 c4 c5
              have hgr3 : Hid (if gr then tot fs < tot fs' else fs' = fs ∧ ∀ q ∈ g.prods.take (j + 1), UseC k ss fs q q.right.length) := Lib.hid (by
                have := hgr.out
                cases gr
                · simp only [Bool.false_eq_true, if_false] at this ⊢
                  refine ⟨this.1, fun q hq => ?_⟩
                  rw [htk.out] at hq
                  rcases List.mem_append.1 hq with hq | hq
                  · exact this.2.1 q hq
                  · simp at hq; subst hq; exact this.2.2
                · simpa using this)
              go_wp2_with fail
              go_roundg (g.prods.length - (j + 1))
              case measure => have := hj.out; omega
              case rel => exact ⟨j + 1, fs', gr, by go_num, rfl, Lib.hid (by have := hj.out; omega), hffit, hfsnd, hnil, hS, hSf, hG, hgr3⟩
        · have hje : j = g.prods.length := by have := hj.out; omega
          subst hje
          have htl := Lib.hid (tot_le fs' (fun s hs => fit_len (asc_nodup (hS.asc s hs).1) (hffit.out s hs)))
          have hlen' := hS.1
          cases gr with
          | false =>
            have hgr2 := hgr.out
            simp only [Bool.false_eq_true, if_false] at hgr2
            obtain ⟨hse, hcl⟩ := hgr2
            subst hse
            have hclo : Hid (ClosedO g.prods k g.start ss fs') := Lib.hid ⟨by rw [hi0n.out]; exact hnil.out, fun p hp d s hd h16 z hz => hcl p (by rw [List.take_length]; exact hp) d s (List.getElem?_eq_some_iff.1 hd).1 hd h16 z hz⟩
            replace hcl := Lib.hid hcl
            go_wp2_with fail
            go_roundg (2 * (g.names.length * 4681 - tot fs'))
            case measure => have h1 := hgk.out; have h2 := htl.out; simp only [if_true] at h1; rw [hlen'] at h2; omega
            case rel => exact ⟨fs', false, rfl, Lib.hid (by have h2 := htl.out; rw [hlen'] at h2; simp; omega), Lib.hid (fun _ => hclo.out), hffit, hfsnd, hnil, hS, hSf, hG⟩
          | true =>
            have hgr2 := hgr.out
            simp only [if_true] at hgr2
            replace hgr2 := Lib.hid hgr2
            go_wp2_with fail
            go_roundg (2 * (g.names.length * 4681 - tot fs') + 1)
            case measure => have h1 := hgk.out; have h2 := htl.out; have h3 := hgr2.out; simp only [if_true] at h1; rw [hlen'] at h2; omega
            case rel => exact ⟨fs', true, rfl, Lib.hid (by have h2 := htl.out; rw [hlen'] at h2; simp; omega), Lib.hid (by simp), hffit, hfsnd, hnil, hS, hSf, hG⟩
end Go.Proofs.YtnnkfgekiaaehaaGreat
