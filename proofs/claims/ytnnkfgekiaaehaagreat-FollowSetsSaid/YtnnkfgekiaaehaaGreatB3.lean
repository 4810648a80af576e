/- Walks and plain laws, part 3 of 11: grammar.many; grammar: the closures of symbols and complete, and the library's IndexFunc, ContainsFunc at them; grammar.complete, and the library's ContainsFunc; A map of keys to true, whatever the keys; grammar.named, grammar.different; grammar.different; slices.All over the productions, at elements that bear what is known of them; grammar.symbols; A drawn region that only reads, inside a round of a range over a function; grammar.ordered; grammar.Check; grammar.Nonterm, follow.nonterm; follow.plus; follow.joined. Conditions: none beyond those that each theorem states. -/
import Derived.Test.YtnnkfgekiaaehaaGreatB2
import Derived.Maps.Keyed
import Derived.StringKeys
import Derived.Deep.RegionLawGrows
import Derived.Sort.QuietIn
/- grammar.many. -/
namespace Go.Proofs.YtnnkfgekiaaehaaGreat
open Go.RowKit Go.Shelf
set_option linter.unusedVariables false
attribute [local go_sem] Oper.semAt_some

theorem blk_own {β : Type} (g : Nat) (t : TypeId) (f : β → Array Value) : Own (fun s W => Blk W g t (f s)) := fun s X Y row hs hg hr =>
  hs.grown hg (fun e => by obtain ⟨o, ho, hc⟩ := hr g e.symm; have : X.heap[g]? = some (.cells (f s) t (0, 0)) := hs; rw [this] at ho; cases ho; cases hc)
theorem grat_ownFrom {β : Type} {B B' : Nat} (g : Gr) (a : GA) (h : B ≤ B') : OwnFrom B' (fun (_ : β) W => GrAt W B g a ∧ B ≤ W.heap.size) := fun s X Y row hs hg hr =>
  ⟨hs.1.below ((Below.refl _ _).grown hg hs.2 (fun k hk => by have := (hr k hk).1; omega)), Nat.le_trans hs.2 hg.size⟩
theorem size30 : (Tryz.prog.info? 29).map (·.size) = some 1 := by kernel_rfl
theorem under30 : Tryz.prog.underlying 29 = some (.int .i64) := by kernel_rfl
theorem loadVar30 (w : World) (a : Addr) (v : Value) (h : w.cell? a = some v) : (loadVar 29 a).run Tryz.prog w = .ok v w := by
  have hagg : (isAgg 29).run Tryz.prog w = .ok false w := by unfold isAgg; rw [Sem.run_bind, run_underlying under30 w]; rfl
  simp [loadVar, Sem.run_bind, hagg, h]

theorem results_cell30 {fn : Func} {p : Tmp} (h : fn.results = #[.cell p 29]) (tmps : Array Value) (w : World) (g : Nat) (v : Value) (hp : tmps.getD p undef = .pointer (some ⟨g, 0, none⟩)) (hc : w.cell? ⟨g, 0, none⟩ = some v) :
    (results fn tmps).run Tryz.prog w = .ok v w := by
  have hp' : tmps[p]?.getD undef = .pointer (some ⟨g, 0, none⟩) := by simpa using hp
  simp [results, h, hp', asAddr, loadVar30 w _ v hc]
theorem upto_all {vs : List PV} {q : Pr → Bool} (h : ∀ y ∈ prUpto vs vs.length, q y.2.p = true) : (vs.map PV.p).all q = true := by
  rw [List.all_eq_true]
  intro p hp
  obtain ⟨x, hx, rfl⟩ := List.mem_map.1 hp
  obtain ⟨i, hi, rfl⟩ := List.mem_iff_getElem.1 hx
  have := h (i, vs[i]) (by
    unfold prUpto
    exact List.mem_map.2 ⟨i, List.mem_range.2 hi, by simp [List.getD_eq_getElem?_getD, hi]⟩)
  exact this
theorem upto_mem {vs : List PV} {k : Nat} {y : Nat × PV} (hk : k ≤ vs.length) (h : y ∈ prUpto vs k) : y.2 ∈ vs ∧ vs[y.1]? = some y.2 := by
  unfold prUpto at h
  obtain ⟨j, hj, rfl⟩ := List.mem_map.1 h
  have hj := List.mem_range.1 hj
  have hl : j < vs.length := by omega
  simp [List.getD_eq_getElem?_getD, hl]

def ManyI (w : World) (q : Pr → Bool) (r : Int) (pre : List (Nat × PV)) (W : World) : Prop := ((∀ y ∈ pre, q y.2.p = true) ∧ Blk W (w.heap.size + 1) 29 #[.int .i64 r]) ∧ Below w.heap.size w W
def ManyX (w : World) (q : Pr → Bool) (r : Int) (c : Code) (pre : List (Nat × PV)) (W : World) : Prop := ((c = .ret ∧ ∃ y ∈ pre, q y.2.p = false) ∧ Blk W (w.heap.size + 1) 29 #[.int .i64 r]) ∧ Below w.heap.size w W
theorem manyI_own {B : Nat} (w : World) (q : Pr → Bool) (r : Int) (h : w.heap.size ≤ B) : OwnFrom B (ManyI w q r) := OwnFrom.and (OwnFrom.and (ownFrom_pure _ _) (Own.from (blk_own _ _ _) _)) (ownFrom_below (Nat.le_refl _) h)
theorem manyX_own {B : Nat} (w : World) (q : Pr → Bool) (r : Int) (h : w.heap.size ≤ B) (c : Code) : OwnFrom B (ManyX w q r c) := OwnFrom.and (OwnFrom.and (ownFrom_pure _ _) (Own.from (blk_own _ _ _) _)) (ownFrom_below (Nat.le_refl _) h)
def len6 (p : Pr) : Bool := decide (p.right.length ≤ 6)

set_option maxRecDepth 100000 in
set_option maxHeartbeats 4000000 in
theorem many_any (g : Gr) (a : GA) (w : World) (hg : GrAt w w.heap.size g a) (hs : Small g) :
    Calls Tryz.prog 62 #[gval g a] w fun e w' => e = .returned (.int .i64 (if fullB g = false then 6 else 0)) ∧ Below w.heap.size w w' := by
  obtain ⟨ta, tc, na, nc, pa, pc⟩ := a
  obtain ⟨R, hR⟩ : ∃ R : Int, R = if fullB g = false then 6 else 0 := ⟨_, rfl⟩
  rw [← hR]
  replace hR := Lib.hid hR
  have hs1 := hs.t
  have hs2 := hs.n
  have hs3 := hs.p
  have hs4 := Lib.hid hs.r
  clear hs
  have hG0 := GB.start hg
  clear hg
  have hPr := Lib.hid (fun w => prods_any g ⟨ta, tc, na, nc, pa, pc⟩ w)
  unfold gval at *
  unfold gcells at *
  dsimp only at *
  refine (callsIn_wide (n := 6)).1 ?_
  by_cases h1 : g.toks.length ≤ 8 ∧ g.names.length ≤ 8 ∧ g.prods.length ≤ 24
  · obtain ⟨h1, h2, h3⟩ := h1
    refine callsIn_of_wp_marks Tryz.func62 rfl trivial ?_ rfl
    simp only [Tryz.ntmps62, List.size_toArray, List.length_cons, List.length_nil, Nat.reduceAdd, Nat.reduceSub, Array.replicate_succ, Array.replicate_zero, List.push_toArray, List.append_toArray, List.nil_append, List.cons_append]
    gi_wp2_with (refine ⟨trivial, ?_⟩; gi_at_call 100; refine (callsIn_wide.2 (hPr.out _)).mono ?_; rintro e w1 ⟨B, rfl, hB1, hB2, hB3⟩)
    have hG := (hG0.alloc _).step hB3
    have bR : Blk w1 (w.heap.size + 1) 29 #[.int .i64 0] := (Blk.newAt _ _ _ _ (by simp)).step hB3
    obtain ⟨vs, hvs1, hvs2, hvs3⟩ := hG.2.1.prods.vals
    have hvl : vs.length = g.prods.length := by rw [← hvs1]; simp
    have hF : fullB g = g.prods.all fun p => decide (p.right.length ≤ 6) := by simp [fullB, h1, h2, h3]
    rw [← hvs1] at hF
    have hR2 : R = if (vs.map PV.p).all len6 = false then 6 else 0 := by rw [hR.out, hF]; rfl
    replace hR2 := Lib.hid hR2
    have hlen : ∀ x ∈ vs, x.p.right.length ≤ 1000000 := fun x hx => hs4.out _ (by rw [← hvs1]; exact List.mem_map_of_mem hx)
    replace hlen := Lib.hid hlen
    have hw1 := hG.2.2.size
    clear hF hvs1 hR
    replace hvl := Lib.hid hvl
    refine wpIn_rangeFunc_ownH (F := Fence.wide) rfl (by omega) (gf := 160) (lb := #[.pointer (some ⟨B, 0, none⟩)]) rfl trivial (enters_of Tryz.func160 (by kernel_rfl) rfl)
      (all_stops 5 (by omega) B w.heap.size pa g.prods.length pc vs (by omega) w1 hB2 hw1 hB1 hvs2) belowK_t (belowK_b hw1) (Below.refl _ _) (fun _ => rfl)
      (ManyI w len6 0) (ManyX w len6 6) (manyI_own w len6 0 hw1) (manyX_own w len6 6 hw1)
      ⟨⟨by simp, bR⟩, hG.2.2⟩
      (fun x a' W => ∃ Bx, w.heap.size + 1 < Bx ∧ Blk W Bx 47 #[.int .i64 x.2.p.left, .slice x.2.ra x.2.p.right.length x.2.rc] ∧ ∃ (u0 u3 u5 u6 u7 u8 u9 u10 u11 u12 u13 u14 u15 u16 u17 u18 u19 u20 u21 u22 u23 u24 u25 u26 u27 u28 : Value), a' = { tmps := #[u0, .pointer (some ⟨w.heap.size, 0, none⟩), .pointer (some ⟨w.heap.size + 1, 0, none⟩), u3, .pointer (some ⟨Bx, 0, none⟩), u5, u6, u7, u8, u9, u10, u11, u12, u13, u14, u15, u16, u17, u18, u19, u20, u21, u22, u23, u24, u25, u26, u27, u28], defers := [] })
      (fun x a' _ X Y row hs hg hr => by obtain ⟨Bx, h1, h2, h3⟩ := hs; exact ⟨Bx, h1, blk_own Bx 47 (fun (_ : Unit) => #[.int .i64 x.2.p.left, .slice x.2.ra x.2.p.right.length x.2.rc]) () X Y row h2 hg (fun r e => (hr r e).2), h3⟩)
      ?assign ?body ?done ?stop
    case assign =>
      rintro l pre x W K ⟨⟨hp, bR1⟩, hb⟩ hK
      dsimp only [encP]
      gi_wp2
      exact hK _ _ ((KeepsOthers.alloc _ _).from _) ((Below.refl _ W).alloc hb.size _) ⟨⟨hp, bR1.alloc _⟩, bAlc hb _⟩ ⟨W.heap.size, by have := bR1.lt; omega, Blk.new W 47 _, _, _, _, _, _, _, _, _, _, _, _, _, _, _, _, _, _, _, _, _, _, _, _, _, _, _, rfl⟩
    case body =>
      rintro l pre x a' W hl ⟨r, hr⟩ ⟨⟨hp, bR1⟩, hb⟩ ⟨Bx, hBx, bX, u0, u3, u5, u6, u7, u8, u9, u10, u11, u12, u13, u14, u15, u16, u17, u18, u19, u20, u21, u22, u23, u24, u25, u26, u27, u28, rfl⟩ hlt
      have p1 := bX.cell 1
      have r0 := bR1.cell 0
      have f0 := bR1.frozen 0
      simp only [List.getElem?_toArray, List.getElem?_cons_zero, List.getElem?_cons_succ] at p1 r0
      by_cases h6 : x.2.p.right.length ≤ 6
      · have h6d := Lib.hid (show len6 x.2.p = true from decide_eq_true h6)
        gi_wp2
        exact ⟨KeepsFrom.refl _ _, Below.refl _ _, ⟨fun y hy => (List.mem_append.1 hy).elim (hp y) (fun e => by simp at e; rw [e]; exact h6d.out), bR1⟩, hb⟩
      · have h6d := Lib.hid (show len6 x.2.p = false from decide_eq_false h6)
        gi_wp2
        exact ⟨(KeepsOthers.setCell _ _ _).from _, ⟨⟨rfl, x, by simp, h6d.out⟩, bR1.put 0 _⟩, bSet hb _ _ (by simp <;> omega)⟩
    case done =>
      rintro D ys W hD rfl ⟨⟨hp, bR1⟩, hb⟩ hK
      have hR3 : R = 0 := by
        rw [hR2.out, if_neg]
        rw [← hvl.out] at hp
        rw [upto_all hp]; simp
      subst hR3
      have r0 := bR1.cell 0
      have f0 := bR1.frozen 0
      simp only [List.getElem?_toArray, List.getElem?_cons_zero, List.getElem?_cons_succ] at r0
      gi_wp2
      have hK' := (KeepsOthers.setCell W ⟨w.heap.size + 1, 0, none⟩ (.int .i64 0)).same D _ hK rfl
      refine ⟨by simp, .inl ⟨_, _, rfl, run_takeDeferred hK', ?_⟩⟩
      have b2 := (bR1.put 0 (.int .i64 0)).grown (grownBy_putObj' _ D (.deferred none)) (by have := bR.lt; simp; omega)
      exact ⟨_, results_cell30 rfl _ _ _ _ rfl (b2.cell 0), rfl, (bSet hb _ _ (by simp <;> omega)).trans (belowK_b (w := w) (Nat.le_refl _) _ D _ _ (by omega) hK' rfl rfl)⟩
    case stop =>
      rintro D c pre W hD ⟨k, hk, rfl⟩ ⟨⟨⟨rfl, y, hy, hyq⟩, bR1⟩, hb⟩ hK
      have hR3 : R = 6 := by
        rw [hR2.out, if_pos]
        rw [List.all_eq_false]
        exact ⟨y.2.p, List.mem_map_of_mem (upto_mem (by rw [hvl.out]; exact hk) hy).1, by rw [hyq]; simp⟩
      subst hR3
      gi_wp2
      refine ⟨by simp, .inl ⟨_, _, rfl, run_takeDeferred hK, ?_⟩⟩
      have b2 := bR1.grown (grownBy_putObj' _ D (.deferred none)) (by have := bR.lt; simp; omega)
      exact ⟨_, results_cell30 rfl _ _ _ _ rfl (b2.cell 0), rfl, hb.trans (belowK_b (w := w) (Nat.le_refl _) _ D _ _ (by omega) hK rfl rfl)⟩
  · have hF : fullB g = false := by
      cases h : fullB g
      · rfl
      · simp [fullB] at h; exact absurd ⟨h.1, h.2.1, h.2.2.1⟩ h1
    have hR3 : R = 6 := by rw [hR.out, if_pos hF]
    subst hR3
    clear hF
    refine callsIn_wide.2 ?_
    have hq : 8 < g.toks.length ∨ (g.toks.length ≤ 8 ∧ 8 < g.names.length) ∨ (g.toks.length ≤ 8 ∧ g.names.length ≤ 8 ∧ 24 < g.prods.length) := by omega
    clear h1
    rcases hq with h | ⟨h, h2⟩ | ⟨h, h2, h3⟩
    all_goals
      go_enter Tryz.func62, Tryz.ntmps62
      go_wp2_with fail
      exact bodyPost_ret (results_cell30 rfl _ _ _ _ rfl ((Blk.newAt _ _ _ _ (by simp)).cell 0)) rfl ⟨rfl, bAlc (bAlc (Below.refl _ _) _) _⟩
end Go.Proofs.YtnnkfgekiaaehaaGreat

/- grammar: the closures of symbols and complete, and the library's IndexFunc, ContainsFunc at them. -/
namespace Go.Proofs.YtnnkfgekiaaehaaGreat
open Go.ChangeShapes Go.WideShapes Go.ChangeAt Go.RowKit
set_option linter.unusedVariables false

set_option maxHeartbeats 1000000 in
theorem symcl_any (g : Gr) (a : GA) (s : Int) (b0 : Nat) (w : World) (hb : Blk w b0 25 (gcells g a)) (ht : g.toks.length ≤ 100000) (hn : g.names.length ≤ 100000) :
    Calls Tryz.prog 105 #[.int .i64 s, .pointer (some ⟨b0, 0, none⟩)] w fun e w' => e = .returned (.bool (!syB g s)) ∧ Below w.heap.size w w' := by
  obtain ⟨ta, tc, na, nc, pa, pc⟩ := a
  have hT := Lib.hid (fun w => terminal_any g ⟨ta, tc, na, nc, pa, pc⟩ s w (by omega))
  have hN := Lib.hid (fun w => nonterm_any g ⟨ta, tc, na, nc, pa, pc⟩ s w (by omega))
  have c0 := hb.cell 0
  have c1 := hb.cell 1
  have c2 := hb.cell 2
  have c3 := hb.cell 3
  have c4 := hb.cell 4
  have c5 := hb.cell 5
  have hlt := hb.lt
  unfold gval gcells at *
  dsimp only at *
  simp only [List.getElem?_toArray, List.getElem?_cons_zero, List.getElem?_cons_succ] at c0 c1 c2 c3 c4 c5
  cases h1 : tmB g s with
  | true =>
    have hs : syB g s = true := by unfold syB; rw [h1]; rfl
    rw [hs]
    rw [h1] at hT
    replace h1 := Lib.hid h1
    replace hs := Lib.hid hs
    go_enter Tryz.func105, Tryz.ntmps105
    go_wp2_with fail
    refine (hT.out _).mono ?_
    rintro e w1 ⟨rfl, hb1⟩
    go_wp2_with fail
    go_ret
    exact ⟨rfl, hb1⟩
  | false =>
    have hs : syB g s = ntB g s := by unfold syB; rw [h1]; rfl
    rw [hs]
    rw [h1] at hT
    replace h1 := Lib.hid h1
    replace hs := Lib.hid hs
    generalize ntB g s = q at *
    go_enter Tryz.func105, Tryz.ntmps105
    go_wp2_with fail
    refine (hT.out _).mono ?_
    rintro e w1 ⟨rfl, hb1⟩
    have d0 := cell_later hb1 c0
    have d1 := cell_later hb1 c1
    have d2 := cell_later hb1 c2
    have d3 := cell_later hb1 c3
    have d4 := cell_later hb1 c4
    have d5 := cell_later hb1 c5
    go_wp2_with fail
    refine (hN.out _).mono ?_
    rintro e w2 ⟨rfl, hb2⟩
    go_wp2_with fail
    go_ret
    exact ⟨rfl, bStep hb1 hb2⟩

/-- the first place at which q holds, or -1 -/
def fstI {α : Type} (q : α → Bool) (l : List α) : Int := match l.findIdx? q with | some i => (i : Int) | none => -1
theorem fstI_nonneg {α : Type} (q : α → Bool) (l : List α) : decide (0 ≤ fstI q l) = l.any q := by
  unfold fstI
  cases h : l.findIdx? q with
  | none =>
    rw [List.findIdx?_eq_none_iff] at h
    have : l.any q = false := by rw [List.any_eq_false]; intro x hx; rw [h x hx]; simp
    rw [this]; rfl
  | some i =>
    have := List.findIdx?_eq_some_iff_getElem.1 h
    obtain ⟨hi, hq, _⟩ := this
    have h2 : l.any q = true := List.any_eq_true.2 ⟨l[i], List.getElem_mem hi, hq⟩
    rw [h2]; simp
theorem fstI_at {α : Type} {q : α → Bool} {l : List α} {i : Nat} (hi : i < l.length) (hq : q l[i] = true) (h : ∀ (j : Nat) (x : α), j < i → l[j]? = some x → q x = false) : fstI q l = i := by
  have : l.findIdx? q = some i := List.findIdx?_eq_some_iff_getElem.2 ⟨hi, hq, fun j hj => by
    have := h j l[j] hj (List.getElem?_eq_getElem (by omega)); simp [this]⟩
  unfold fstI; rw [this]
theorem fstI_none {α : Type} {q : α → Bool} {l : List α} (h : ∀ (j : Nat) (x : α), l[j]? = some x → q x = false) : fstI q l = -1 := by
  have : l.findIdx? q = none := by
    rw [List.findIdx?_eq_none_iff]; intro x hx
    obtain ⟨i, hi, rfl⟩ := List.mem_iff_getElem.1 hx
    exact h i _ (List.getElem?_eq_getElem hi)
  unfold fstI; rw [this]

set_option maxHeartbeats 2000000 in
theorem idxsym_any (g : Gr) (a : GA) (b0 : Nat) (A : Option Addr) (n c : Nat) (l : List Int) (w : World) (hb : Blk w b0 25 (gcells g a)) (ht : g.toks.length ≤ 100000) (hn : g.names.length ≤ 100000) (hr : Rd1 w w.heap.size A n (ints l)) (hl : n ≤ 1000000) :
    Calls Tryz.prog 140 #[.slice A n c, .func (.func 105) #[] #[.pointer (some ⟨b0, 0, none⟩)]] w fun e w' => e = .returned (.int .i64 (fstI (fun s => !syB g s) l)) ∧ Below w.heap.size w w' := by
  have hll : l.length = n := by have := hr.1; simpa [ints] using this
  obtain ⟨R, hR⟩ : ∃ R : Int, R = fstI (fun s => !syB g s) l := ⟨_, rfl⟩
  rw [← hR]
  replace hR := Lib.hid hR
  replace hll := Lib.hid hll
  have hcl := Lib.hid (fun s w hb => symcl_any g a s b0 w hb ht hn)
  go_enter Tryz.func140, Tryz.ntmps140
  go_wp2_with fail
  go_loopg [8] n (fun gk s8 wr => ∃ i : Nat, s8 = .int .i64 i ∧ i + gk = n ∧ (∀ (j : Nat) (s : Int), j < i → l[j]? = some s → (!syB g s) = false) ∧ Blk wr b0 25 (gcells g a) ∧ Rd1 wr w.heap.size A n (ints l) ∧ Below w.heap.size w wr)
  case atStart => exact ⟨0, rfl, by omega, by intros; omega, hb, hr, Below.refl _ _⟩
  case round =>
    clear hb hr
    obtain ⟨i, rfl, hi, hP, hb, hr, hw⟩ := hrel
    replace hi := Lib.hid hi
    replace hP := Lib.hid hP
    by_cases hin : i < n
    · have hil : i < l.length := by have := hll.out; omega
      have hsk : l[i]? = some l[i] := List.getElem?_eq_getElem hil
      obtain ⟨b2, off2, rfl, hbt2, y0⟩ := hr.get (i := i) (v := .int .i64 l[i]) (by simp [ints, hsk])
      have hzk : (0 : Int) ≤ i := by omega
      have hzkn : (i : Int) < n := by omega
      have hc := Lib.hid (hcl.out l[i] _ hb)
      have hfa := Lib.hid (fun hq => fstI_at (q := fun s => !syB g s) hil hq hP.out)
      generalize l[i] = s at *
      replace hsk := Lib.hid hsk
      cases hq : (!syB g s) with
      | true =>
        have hR2 : R = i := hR.out.trans (hfa.out hq)
        subst hR2
        rw [hq] at hc
        replace hq := Lib.hid hq
        go_wp2_with fail
        refine hc.out.mono ?_
        rintro e w1 ⟨rfl, hb1⟩
        go_wp2_with fail
        go_ret
        exact ⟨rfl, bStep hw hb1⟩
      | false =>
        rw [hq] at hc
        have hG := Lib.hid (show ∀ (j : Nat) (s : Int), j < i + 1 → l[j]? = some s → (!syB g s) = false by
          intro j t hj ht
          by_cases e : j = i
          · subst e; rw [hsk.out] at ht; cases ht; exact hq
          · exact hP.out j t (by omega) ht)
        replace hq := Lib.hid hq
        go_wp2_with fail
        refine hc.out.mono ?_
        rintro e w1 ⟨rfl, hb1⟩
        go_wp2_with fail
        go_roundg (n - (i + 1))
        case measure => have := hi.out; omega
        case rel => exact ⟨i + 1, by go_num, by have := hi.out; omega, hG.out, hb.step hb1, hr.below (hb1.mono hw.size), bStep hw hb1⟩
    · have hR2 : R = -1 := hR.out.trans (fstI_none fun j x hx => hP.out j x (by have := (List.getElem?_eq_some_iff.1 hx).1; have := hll.out; omega) hx)
      subst hR2
      go_wp2_with fail
      go_ret
      exact ⟨rfl, hw⟩
end Go.Proofs.YtnnkfgekiaaehaaGreat

/- grammar.complete, and the library's ContainsFunc. -/
namespace Go.Proofs.YtnnkfgekiaaehaaGreat
open Go.ChangeShapes Go.WideShapes Go.ChangeAt Go.RowKit
set_option linter.unusedVariables false

theorem consym_any (g : Gr) (a : GA) (b0 : Nat) (A : Option Addr) (n c : Nat) (l : List Int) (w : World) (hb : Blk w b0 25 (gcells g a)) (ht : g.toks.length ≤ 100000) (hn : g.names.length ≤ 100000) (hr : Rd1 w w.heap.size A n (ints l)) (hl : n ≤ 1000000) :
    Calls Tryz.prog 104 #[.slice A n c, .func (.func 105) #[] #[.pointer (some ⟨b0, 0, none⟩)]] w fun e w' => e = .returned (.bool (!l.all (syB g))) ∧ Below w.heap.size w w' := by
  have hI := Lib.hid (idxsym_any g a b0 A n c l w hb ht hn hr hl)
  have hR : (!l.all (syB g)) = decide (0 ≤ fstI (fun s => !syB g s) l) := by rw [fstI_nonneg, List.all_eq_not_any_not]; simp
  rw [hR]
  generalize fstI (fun s => !syB g s) l = k at *
  clear hR
  go_enter Tryz.func104, Tryz.ntmps104
  go_wp2_with fail
  refine hI.out.mono ?_
  rintro e w1 ⟨rfl, hb1⟩
  go_wp2_with fail
  go_ret
  exact ⟨rfl, hb1⟩

set_option maxHeartbeats 1000000 in
theorem comcl_any (p : Pr) (RA : Option Addr) (rc : Nat) (i : Nat) (b0 : Nat) (w : World) (hb : w.cell? ⟨b0, 0, none⟩ = some (.int .i64 i)) (hi : i ≤ 100000) :
    Calls Tryz.prog 108 #[.agg #[.int .i64 p.left, .slice RA p.right.length rc], .pointer (some ⟨b0, 0, none⟩)] w fun e w' => e = .returned (.bool (decide (p.left = 16 + (i : Int)))) ∧ Below w.heap.size w w' := by
  have hlt : b0 < w.heap.size := block_lt_of_cell hb
  by_cases h : p.left = 16 + (i : Int)
  · have hbb : (p.left == 16 + (i : Int)) = true := by simp [h]
    rw [decide_eq_true h]
    clear h
    go_enter Tryz.func108, Tryz.ntmps108
    go_wp2_with fail
    go_ret
    exact ⟨rfl, bAlc (Below.refl _ _) _⟩
  · have hbb : (p.left == 16 + (i : Int)) = false := by simp [h]
    rw [decide_eq_false h]
    clear h
    go_enter Tryz.func108, Tryz.ntmps108
    go_wp2_with fail
    go_ret
    exact ⟨rfl, bAlc (Below.refl _ _) _⟩

set_option maxHeartbeats 2000000 in
theorem idxcom_any (i0 : Nat) (b0 : Nat) (A : Option Addr) (n c : Nat) (l : List Pr) (w : World) (hb : w.cell? ⟨b0, 0, none⟩ = some (.int .i64 i0)) (hi0 : i0 ≤ 100000) (hr : RdP w w.heap.size A n l) (hl : n ≤ 1000000) :
    Calls Tryz.prog 141 #[.slice A n c, .func (.func 108) #[] #[.pointer (some ⟨b0, 0, none⟩)]] w fun e w' => e = .returned (.int .i64 (fstI (fun p => decide (p.left = 16 + (i0 : Int))) l)) ∧ Below w.heap.size w w' := by
  have hll : l.length = n := hr.1
  obtain ⟨R, hR⟩ : ∃ R : Int, R = fstI (fun p => decide (p.left = 16 + (i0 : Int))) l := ⟨_, rfl⟩
  rw [← hR]
  replace hR := Lib.hid hR
  replace hll := Lib.hid hll
  have hcl := Lib.hid (fun p RA rc w hb => comcl_any p RA rc i0 b0 w hb hi0)
  go_enter Tryz.func141, Tryz.ntmps141
  go_wp2_with fail
  go_loopg [8] n (fun gk s8 wr => ∃ i : Nat, s8 = .int .i64 i ∧ i + gk = n ∧ (∀ (j : Nat) (p : Pr), j < i → l[j]? = some p → decide (p.left = 16 + (i0 : Int)) = false) ∧ wr.cell? ⟨b0, 0, none⟩ = some (.int .i64 i0) ∧ RdP wr w.heap.size A n l ∧ Below w.heap.size w wr)
  case atStart => exact ⟨0, rfl, by omega, by intros; omega, hb, hr, Below.refl _ _⟩
  case round =>
    clear hb hr
    obtain ⟨i, rfl, hi, hP, hb, hr, hw⟩ := hrel
    replace hi := Lib.hid hi
    replace hP := Lib.hid hP
    by_cases hin : i < n
    · have hil : i < l.length := by have := hll.out; omega
      have hsk : l[i]? = some l[i] := List.getElem?_eq_getElem hil
      obtain ⟨b2, off2, rfl, hbt2, y0, RA, rc, y1, hy2, hy3, hy4⟩ := hr.get hsk
      have hzk : (0 : Int) ≤ i := by omega
      have hzkn : (i : Int) < n := by omega
      have hc := Lib.hid (hcl.out l[i] RA rc _ hb)
      have hfa := Lib.hid (fun hq => fstI_at (q := fun p : Pr => decide (p.left = 16 + (i0 : Int))) hil hq hP.out)
      generalize l[i] = s at *
      replace hsk := Lib.hid hsk
      clear hy2 hy3 hy4
      cases hq : decide (s.left = 16 + (i0 : Int)) with
      | true =>
        have hR2 : R = i := hR.out.trans (hfa.out hq)
        subst hR2
        rw [hq] at hc
        replace hq := Lib.hid hq
        go_wp2_with fail
        refine hc.out.mono ?_
        rintro e w1 ⟨rfl, hb1⟩
        go_wp2_with fail
        go_ret
        exact ⟨rfl, bStep hw hb1⟩
      | false =>
        rw [hq] at hc
        have hG := Lib.hid (show ∀ (j : Nat) (p : Pr), j < i + 1 → l[j]? = some p → decide (p.left = 16 + (i0 : Int)) = false by
          intro j t hj ht
          by_cases e : j = i
          · subst e; rw [hsk.out] at ht; cases ht; exact hq
          · exact hP.out j t (by omega) ht)
        replace hq := Lib.hid hq
        go_wp2_with fail
        refine hc.out.mono ?_
        rintro e w1 ⟨rfl, hb1⟩
        have hb2 := cell_later hb1 hb
        go_wp2_with fail
        go_roundg (n - (i + 1))
        case measure => have := hi.out; omega
        case rel => exact ⟨i + 1, by go_num, by have := hi.out; omega, hG.out, hb2, hr.below (hb1.mono hw.size), bStep hw hb1⟩
    · have hR2 : R = -1 := hR.out.trans (fstI_none fun j x hx => hP.out j x (by have := (List.getElem?_eq_some_iff.1 hx).1; have := hll.out; omega) hx)
      subst hR2
      go_wp2_with fail
      go_ret
      exact ⟨rfl, hw⟩
theorem concom_any (i0 : Nat) (b0 : Nat) (A : Option Addr) (n c : Nat) (l : List Pr) (w : World) (hb : w.cell? ⟨b0, 0, none⟩ = some (.int .i64 i0)) (hi0 : i0 ≤ 100000) (hr : RdP w w.heap.size A n l) (hl : n ≤ 1000000) :
    Calls Tryz.prog 107 #[.slice A n c, .func (.func 108) #[] #[.pointer (some ⟨b0, 0, none⟩)]] w fun e w' => e = .returned (.bool (l.any fun p => decide (p.left = 16 + (i0 : Int)))) ∧ Below w.heap.size w w' := by
  have hI := Lib.hid (idxcom_any i0 b0 A n c l w hb hi0 hr hl)
  rw [← fstI_nonneg]
  generalize fstI (fun p : Pr => decide (p.left = 16 + (i0 : Int))) l = k at *
  go_enter Tryz.func107, Tryz.ntmps107
  go_wp2_with fail
  refine hI.out.mono ?_
  rintro e w1 ⟨rfl, hb1⟩
  go_wp2_with fail
  go_ret
  exact ⟨rfl, hb1⟩

set_option maxHeartbeats 2000000 in
theorem complete_any (g : Gr) (a : GA) (w : World) (hg : GrAt w w.heap.size g a) (hs : Small g) :
    Calls Tryz.prog 67 #[gval g a] w fun e w' => e = .returned (.int .i64 (if compB g = false then 7 else 0)) ∧ Below w.heap.size w w' := by
  obtain ⟨ta, tc, na, nc, pa, pc⟩ := a
  obtain ⟨R, hR⟩ : ∃ R : Int, R = if compB g = false then 7 else 0 := ⟨_, rfl⟩
  rw [← hR]
  replace hR := Lib.hid hR
  have hs2 := hs.n
  have hs3 := hs.p
  clear hs
  have hG0 := GB.start hg
  clear hg
  unfold gval at *
  unfold gcells at *
  dsimp only at *
  go_enter Tryz.func67, Tryz.ntmps67
  go_wp2_with fail
  go_loopg [7] g.names.length (fun gk s7 wr => ∃ i : Nat, s7 = .int .i64 i ∧ i + gk = g.names.length ∧ (∀ j : Nat, j < i → (g.prods.any fun p => decide (p.left = 16 + (j : Int))) = true) ∧ GB w g ⟨ta, tc, na, nc, pa, pc⟩ wr)
  case atStart => exact ⟨0, rfl, by omega, by intros; omega, hG0⟩
  case round =>
    clear hG0
    obtain ⟨i, rfl, hi, hP, hG⟩ := hrel
    replace hi := Lib.hid hi
    replace hP := Lib.hid hP
    obtain ⟨c0, c1, c2, c3, c4, c5⟩ := hG.cells
    dsimp only at c1 c3 c5
    by_cases hin : i < g.names.length
    · have hlt := hG.lt
      have hC := Lib.hid (fun w hb hr => concom_any i wr.heap.size pa g.prods.length pc g.prods w hb (by omega) hr (by omega))
      cases hq : (g.prods.any fun p => decide (p.left = 16 + (i : Int))) with
      | false =>
        have hR2 : R = 7 := by
          rw [hR.out, if_pos]
          unfold compB
          rw [List.all_eq_false]
          exact ⟨i, List.mem_range.2 hin, by rw [hq]; simp⟩
        subst hR2
        rw [hq] at hC
        replace hq := Lib.hid hq
        go_wp2_with fail
        refine (hC.out _ ?_ ?_).mono ?_
        · exact (Blk.new wr 3 #[.int .i64 (i : Int)]).cell 0
        · exact ((hG.alloc _).2.1.mono (hG.alloc _).2.2.size).prods
        rintro e w1 ⟨rfl, hb1⟩
        go_wp2_with fail
        go_ret
        exact ⟨rfl, bStep (bAlc hG.2.2 _) hb1⟩
      | true =>
        rw [hq] at hC
        have hGG := Lib.hid (show ∀ j : Nat, j < i + 1 → (g.prods.any fun p => decide (p.left = 16 + (j : Int))) = true by
          intro j hj
          by_cases e : j = i
          · subst e; exact hq
          · exact hP.out j (by omega))
        replace hq := Lib.hid hq
        go_wp2_with fail
        refine (hC.out _ ?_ ?_).mono ?_
        · exact (Blk.new wr 3 #[.int .i64 (i : Int)]).cell 0
        · exact ((hG.alloc _).2.1.mono (hG.alloc _).2.2.size).prods
        rintro e w1 ⟨rfl, hb1⟩
        go_wp2_with fail
        go_roundg (g.names.length - (i + 1))
        case measure => have := hi.out; omega
        case rel => exact ⟨i + 1, by go_num, by have := hi.out; omega, hGG.out, (hG.alloc _).step hb1⟩
    · have hR2 : R = 0 := by
        rw [hR.out, if_neg]
        rw [show compB g = true from by
          unfold compB
          rw [List.all_eq_true]
          intro j hj
          exact hP.out j (by have := List.mem_range.1 hj; omega)]
        simp
      subst hR2
      go_wp2_with fail
      go_ret
      exact ⟨rfl, hG.2.2⟩
end Go.Proofs.YtnnkfgekiaaehaaGreat

/- A map of keys to true, whatever the keys. -/
namespace Go.Proofs.YtnnkfgekiaaehaaGreat
open Go.ChangeShapes Go.WideShapes Go.ChangeAt Go.RowKit
open Go.ChangeMaps (heap_setBlock_same setBlock)
open Go.MapKept (Stamped stamped_push)
set_option linter.unusedVariables false

/-- keys of the type K as values -/
structure KeyEnc (α : Type) where
  K : TypeId
  enc : α → Value
  ok : α → Prop
  keyed : Maps.Keyed Tryz.prog K
  key : ∀ x, ok x → ∃ l, keyOf Tryz.prog K (enc x) = some l
  inj : ∀ x y, enc x = enc y → x = y
/-- block b is a map that holds just the keys of s, each with true, in the order in which they were laid -/
def MapK {α : Type} (E : KeyEnc α) (w : World) (b : Nat) (s : List α) : Prop :=
  ∃ (es : Array MapEntry) (clock : Nat), w.heap[b]? = some (.map es clock) ∧ es.toList.map (·.key) = s.map E.enc ∧ (∀ e ∈ es.toList, e.val = .bool true) ∧ (∀ x ∈ s, E.ok x) ∧ s.Nodup ∧ Stamped es clock
theorem MapK.lt {α : Type} {E : KeyEnc α} {w : World} {b : Nat} {s : List α} (h : MapK E w b s) : b < w.heap.size := by
  obtain ⟨es, clock, hb, _⟩ := h
  exact (Array.getElem?_eq_some_iff.1 hb).1
theorem MapK.grown {α : Type} {E : KeyEnc α} {w w' : World} {b : Nat} {s : List α} {row : Option Nat} (h : MapK E w b s) (hg : w.grownBy w' row) (hb : some b ≠ row) : MapK E w' b s := by
  have hlt := h.lt
  obtain ⟨es, clock, h1, h2⟩ := h
  exact ⟨es, clock, (hg.block b hlt hb).trans h1, h2⟩
theorem MapK.step {α : Type} {E : KeyEnc α} {w w' : World} {b : Nat} {s : List α} (h : MapK E w b s) (hb : Below w.heap.size w w') : MapK E w' b s := by
  have hlt := h.lt
  obtain ⟨es, clock, h1, h2⟩ := h
  exact ⟨es, clock, (hb.block b hlt).trans h1, h2⟩
theorem MapK.keys {α : Type} {E : KeyEnc α} {es : Array MapEntry} {s : List α} (hk : es.toList.map (·.key) = s.map E.enc) (hw : ∀ x ∈ s, E.ok x) : ∀ e ∈ es.toList, ∃ l, keyOf Tryz.prog E.K e.key = some l := by
  intro e he
  have h1 : e.key ∈ es.toList.map (·.key) := List.mem_map_of_mem he
  rw [hk] at h1
  obtain ⟨x, hx, hxe⟩ := List.mem_map.mp h1
  rw [← hxe]
  exact E.key x (hw x hx)
/-- 'm[x]' -/
theorem MapK.look {α : Type} [DecidableEq α] {E : KeyEnc α} {t : TypeId} (ht : Tryz.prog.underlying t = some (.map E.K 4)) {w : World} {b : Nat} {s : List α} (h : MapK E w b s) (x : α) (hx : E.ok x) :
    (Instr.lookup t (.map (some b)) (E.enc x) false).run Tryz.prog w = .ok (.bool (decide (x ∈ s))) w := by
  obtain ⟨es, clock, hb, hk, hv, hw, hn, hst⟩ := h
  obtain ⟨l, hl⟩ := E.key x hx
  have hz := zero_bool w
  rcases E.keyed.find w hl es.toList (MapK.keys hk hw) with ⟨h1, h2⟩ | ⟨j, e, h1, h2, h3⟩
  · have hns : x ∉ s := by
      intro hm
      have : E.enc x ∈ es.toList.map (·.key) := by rw [hk]; exact List.mem_map_of_mem hm
      obtain ⟨e, he, hee⟩ := List.mem_map.mp this
      exact h2 e he hee
    simp [Instr.lookup, run_underlying ht, MapKept.run_getObj_map hb, E.keyed.check w _ hl, h1, hz, Result.andThen, hns]
  · have he := List.mem_of_getElem? h2
    have hs : x ∈ s := by
      have : e.key ∈ es.toList.map (·.key) := List.mem_map_of_mem he
      rw [hk, h3] at this
      obtain ⟨y, hy, hyy⟩ := List.mem_map.mp this
      rw [← E.inj _ _ hyy]; exact hy
    simp [Instr.lookup, run_underlying ht, MapKept.run_getObj_map hb, E.keyed.check w _ hl, h1, Result.andThen, hs, hv e he]
/-- 'm[x] = true' -/
theorem MapK.put {α : Type} [DecidableEq α] {E : KeyEnc α} {t : TypeId} (ht : Tryz.prog.underlying t = some (.map E.K 4)) {w : World} {b : Nat} {s : List α} (h : MapK E w b s) (x : α) (hx : E.ok x) :
    ∃ w', (Instr.mapUpdate t (.map (some b)) (E.enc x) (.bool true)).run Tryz.prog w = .ok () w' ∧ MapK E w' b (if x ∈ s then s else s ++ [x]) ∧ w.mapTurned w' b := by
  obtain ⟨es, clock, hb, hk, hv, hw, hn, hst⟩ := h
  obtain ⟨l, hl⟩ := E.key x hx
  rcases E.keyed.find w hl es.toList (MapK.keys hk hw) with ⟨h1, h2⟩ | ⟨j, e, h1, h2, h3⟩
  · have hns : x ∉ s := by
      intro hm
      have : E.enc x ∈ es.toList.map (·.key) := by rw [hk]; exact List.mem_map_of_mem hm
      obtain ⟨e, he, hee⟩ := List.mem_map.mp this
      exact h2 e he hee
    rw [if_neg hns]
    refine ⟨setBlock w b (.map (es.push { key := E.enc x, val := .bool true, born := clock }) (clock + 1)), ?_, ⟨_, _, heap_setBlock_same hb _, by simp [hk], ?_, ?_, ?_, stamped_push hst h2⟩, ⟨es, clock, _, _, hb, rfl⟩⟩
    · simp [Instr.mapUpdate, run_underlying ht, MapKept.run_getObj_map hb, E.keyed.check w _ hl, h1, MapKept.run_setObj_map _ hb, Result.andThen, setBlock]
    · intro e he
      simp at he
      rcases he with he | rfl
      · exact hv e (by simpa using he)
      · rfl
    · intro y hy
      rcases List.mem_append.mp hy with hy | hy
      · exact hw y hy
      · have : y = x := by simpa using hy
        rw [this]; exact hx
    · rw [List.nodup_append]
      refine ⟨hn, by simp, ?_⟩
      intro a ha c hc
      have : c = x := by simpa using hc
      rw [this]; intro e; exact hns (e ▸ ha)
  · have he := List.mem_of_getElem? h2
    have hs : x ∈ s := by
      have : e.key ∈ es.toList.map (·.key) := List.mem_map_of_mem he
      rw [hk, h3] at this
      obtain ⟨y, hy, hyy⟩ := List.mem_map.mp this
      rw [← E.inj _ _ hyy]; exact hy
    rw [if_pos hs]
    have hj : es[j]? = some e := by simpa using h2
    have hee : ({ e with key := E.enc x, val := .bool true } : MapEntry) = e := by
      cases e; simp at h3; have := hv _ he; simp at this; simp [h3, this]
    have hmod : es.modify j (fun e => { e with key := E.enc x, val := .bool true }) = es := by
      apply Array.ext_getElem?
      intro i
      rw [Array.getElem?_modify]
      split
      · rename_i h; subst h; rw [hj]; simp [hee]
      · rfl
    refine ⟨setBlock w b (.map es clock), ?_, ⟨es, clock, heap_setBlock_same hb _, hk, hv, hw, hn, hst⟩, ⟨es, clock, _, _, hb, rfl⟩⟩
    have hst2 := E.keyed.stays w hl
    have hkey : (((es[j]?).map (·.key)).getD (E.enc x)) = E.enc x := by rw [hj]; simp [h3]
    simp [Instr.mapUpdate, run_underlying ht, MapKept.run_getObj_map hb, E.keyed.check w _ hl, h1, hj, h3, hst2, hmod, MapKept.run_setObj_map _ hb, Result.andThen, setBlock]
section
variable (w : World) {ops : Array Oper} {rest : List Oper} {o : Oper} {a : Act} {Q : Exit → Act → World → Prop} {α : Type} [DecidableEq α] {E : KeyEnc α}
theorem wpList_lookK {t : TypeId} (ht : Tryz.prog.underlying t = some (.map E.K 4)) (hg : o.guard = none) (m x : Operand) (hop : o.op = Op.lookup t m x false) (b : Nat) (s : List α) (k : α) (bd : Bool) (hbd : bd = true ↔ k ∈ s) (hm : a.eval m = .map (some b)) (hx : a.eval x = E.enc k) (h : MapK E w b s) (hk : E.ok k)
    (hK : wpList Tryz.prog ops Q rest (a.put o.dst (.bool bd)) w) : wpList Tryz.prog ops Q (o :: rest) a w := by
  refine wpList_plain hg fun K' hK' => ?_
  have hrun := h.look ht k hk
  have hb : decide (k ∈ s) = bd := by
    cases bd
    · exact decide_eq_false fun h => by have := hbd.2 h; cases this
    · exact decide_eq_true (hbd.1 rfl)
  rw [hb] at hrun
  unfold Oper.wp
  simp [execOp, hop, hm, hx, hrun, Result.andThen]
  exact hK' _ _ hK
theorem wpList_layK {t : TypeId} (ht : Tryz.prog.underlying t = some (.map E.K 4)) (hg : o.guard = none) (m x v : Operand) (hop : o.op = Op.mapUpdate t m x v) (b : Nat) (s s' : List α) (k : α) (hs : (k ∈ s ∧ s' = s) ∨ (k ∉ s ∧ s' = s ++ [k])) (hm : a.eval m = .map (some b)) (hx : a.eval x = E.enc k) (hv : a.eval v = .bool true) (h : MapK E w b s) (hk : E.ok k)
    (hK : ∀ w', MapK E w' b s' → w.mapTurned w' b → wpList Tryz.prog ops Q rest (a.put o.dst undef) w') : wpList Tryz.prog ops Q (o :: rest) a w := by
  refine wpList_plain hg fun K' hK' => ?_
  obtain ⟨w', hrun, h1, h2⟩ := h.put ht k hk
  have e : (if k ∈ s then s else s ++ [k]) = s' := by
    rcases hs with ⟨h, rfl⟩ | ⟨h, rfl⟩
    · rw [if_pos h]
    · rw [if_neg h]
  rw [e] at h1
  unfold Oper.wp
  simp [execOp, hop, hm, hx, hv, hrun, Result.andThen]
  exact hK' _ _ (hK w' h1 h2)
end
theorem turned_grown {w w' : World} {b : Nat} (h : w.mapTurned w' b) : w.grownBy w' (some b) := by
  obtain ⟨es, clock, es', clock', hb, rfl⟩ := h
  exact ⟨rfl, rfl, rfl, by simp [setBlock], fun i hi hne => by
    have hne' : b ≠ i := fun e => hne (by rw [e])
    simp only [setBlock]
    rw [Array.getElem?_setIfInBounds_ne hne']⟩
/-- strings as keys -/
def strKey : KeyEnc ByteArray where
  K := 9
  enc := Value.string
  ok := fun s => s.size ≤ maxLen
  keyed := Maps.string_keyed (by kernel_rfl)
  key := fun x hx => ⟨_, Go.WideMaps.keyOf_string_mk (by kernel_rfl) hx⟩
  inj := fun x y h => by injection h
end Go.Proofs.YtnnkfgekiaaehaaGreat

/- grammar.named, grammar.different. -/
namespace Go.Proofs.YtnnkfgekiaaehaaGreat
open Go.ChangeShapes Go.WideShapes Go.ChangeAt Go.RowKit
set_option linter.unusedVariables false

/-- a world of the region that lays small names -/
def SP (w : World) (g : Gr) (a : GA) (w' : World) : Prop := GB w g a w'
theorem SP.all {w : World} {g : Gr} {a : GA} {w' : World} (h : SP w g a w') : w'.cell? ⟨w.heap.size, 1, none⟩ = some (.slice a.ta g.toks.length a.tc) ∧ w'.cell? ⟨w.heap.size, 2, none⟩ = some (.string g.sep) ∧ w'.cell? ⟨w.heap.size, 3, none⟩ = some (.slice a.na g.names.length a.nc) ∧ SP w g a w' :=
  ⟨h.1.cell 1, h.1.cell 2, h.1.cell 3, h⟩
theorem SP.drew {w : World} {g : Gr} {a : GA} {w' : World} (h : SP w g a w') : SP w g a w'.drew := GB.drewN h 1
theorem SP.alloc {w : World} {g : Gr} {a : GA} {w' : World} (h : SP w g a w') (o : Obj) : SP w g a (w'.alloc o) := GB.alloc h o
theorem SP.grown0 {w : World} {g : Gr} {a : GA} {w' w1 : World} (h : SP w g a w') (hg : w'.grownBy w1 none) : SP w g a w1 := GB.step h ((Below.refl _ _).grown hg (Nat.le_refl _) (by simp))

theorem add_lit0 (b o j : Nat) : (⟨b, o, none⟩ : Addr).add j = ⟨b, o + j, none⟩ := by unfold Addr.add; split <;> simp_all
theorem rd1_olds {W : World} {B : Nat} {A : Option Addr} {n : Nat} {vs : List Value} (h : Rd1 W B A n vs) : ∀ b, A = some b → ∀ j u, vs[j]? = some u → W.cell? (b.add j) = some u := by
  intro b hb j u hu
  obtain ⟨b', off, hA, _, hc⟩ := h.get hu
  rw [hb] at hA; cases hA
  rw [add_lit0]; exact hc
theorem blk_news {W : World} {g : Nat} {e : TypeId} {k : Value} (h : Blk W g e #[k]) : ∀ j u, [k][j]? = some u → W.cell? ((⟨g, 0, none⟩ : Addr).add j) = some u := by
  intro j u hu
  have : j = 0 := by have := (List.getElem?_eq_some_iff.1 hu).1; simp at this; omega
  subst this
  rw [add_lit0, Nat.zero_add, h.cell]
  simpa using hu

set_option maxHeartbeats 2000000 in
theorem named_any (g : Gr) (a : GA) (w : World) (hg : GrAt w w.heap.size g a) (hs : Small g) :
    Calls Tryz.prog 63 #[gval g a] w fun e w' => e = .returned (.int .i64 (if shortB g = true then 5 else if nameB g = false then 12 else 0)) ∧ Below w.heap.size w w' := by
  obtain ⟨ta, tc, na, nc, pa, pc⟩ := a
  obtain ⟨R, hR⟩ : ∃ R : Int, R = if shortB g = true then 5 else if nameB g = false then 12 else 0 := ⟨_, rfl⟩
  rw [← hR]
  replace hR := Lib.hid hR
  have hs1 := hs.t
  have hs2 := hs.n
  clear hs
  have hG0 := GB.start hg
  clear hg
  have htc := hG0.2.1.tc
  have htm := hG0.2.1.tm
  unfold gval at *
  unfold gcells at *
  dsimp only at *
  by_cases ht0 : g.toks.length = 0
  · have hR2 : R = 5 := by rw [hR.out, if_pos]; simp [shortB, ht0]
    subst hR2
    have htb : ((g.toks.length : Int) == 0) = true := by simp [ht0]
    clear ht0
    go_enter Tryz.func63, Tryz.ntmps63
    go_wp2_with fail
    go_ret
    exact ⟨rfl, hG0.2.2⟩
  have htb : ((g.toks.length : Int) == 0) = false := by simpa using ht0
  by_cases hn0 : g.names.length = 0
  · have hR2 : R = 5 := by rw [hR.out, if_pos]; simp [shortB, hn0]
    subst hR2
    have hnb : ((g.names.length : Int) == 0) = true := by simp [hn0]
    clear ht0 hn0
    go_enter Tryz.func63, Tryz.ntmps63
    go_wp2_with fail
    go_ret
    exact ⟨rfl, hG0.2.2⟩
  have hnb : ((g.names.length : Int) == 0) = false := by simpa using hn0
  have hsh : shortB g = false := by unfold shortB; rw [decide_eq_false ht0, decide_eq_false hn0]; rfl
  have hR1 : R = if nameB g = false then 12 else 0 := by rw [hR.out, if_neg (by rw [hsh]; simp)]
  replace hR1 := Lib.hid hR1
  clear hsh hR
  obtain ⟨tb, toff, hta, htlt, htcells⟩ : ∃ b off, ta = some ⟨b, off, none⟩ ∧ b < w.heap.size ∧ True := by
    rcases hG0.2.1.toks.2 with h | ⟨b, off, h, hlt, _⟩
    · exact absurd h ht0
    · exact ⟨b, off, h, hlt, trivial⟩
  clear ht0 hn0 htcells
  subst hta
  have hz0 : (0 : Int) ≤ g.toks.length := by omega
  have hz1 : (g.toks.length : Int) ≤ tc := by omega
  have hz2 : (g.toks.length : Int) ≤ g.toks.length := by omega
  go_enter Tryz.func63, Tryz.ntmps63
  go_wp2_with fail
  obtain ⟨w0, hw0⟩ : ∃ w0, w0 = w.alloc (.cells #[.int .i64 g.k, .slice (some ⟨tb, toff, none⟩) g.toks.length tc, .string g.sep, .slice na g.names.length nc, .int .i64 g.start, .slice pa g.prods.length pc] 25) := ⟨_, rfl⟩
  rw [← hw0] at hG0 ⊢
  clear hw0
  have hlt := hG0.lt
  have hsn : SP w g ⟨some ⟨tb, toff, none⟩, tc, na, nc, pa, pc⟩ w0 := hG0
  clear hG0
  go_cut [29, 30, 31] (fun s29 s30 s31 wx => Own1 wx w.heap.size 9 s29 (strs (g.toks ++ [g.sep])) ∧ s30 = .int .i64 (g.toks.length + 1 : Nat) ∧ s31 = .int .i64 0 ∧ SP w g ⟨some ⟨tb, toff, none⟩, tc, na, nc, pa, pc⟩ wx)
  case first =>
    have hsq : SP w g ⟨some ⟨tb, toff, none⟩, tc, na, nc, pa, pc⟩ (w0.alloc (.cells #[.string g.sep] 9)).drew := (hsn.alloc _).drew
    have holds := rd1_olds hsq.2.1.toks
    have hnews : ∀ j u, [Value.string g.sep][j]? = some u → (w0.alloc (.cells #[.string g.sep] 9)).drew.cell? ((⟨w0.heap.size, 0, none⟩ : Addr).add j) = some u := blk_news (W := (w0.alloc (.cells #[.string g.sep] 9)).drew) (Blk.new w0 9 #[.string g.sep])
    obtain ⟨i0, hi0, hq0, hq1, hq2⟩ := info_parts info9
    have hos : w.heap.size ≤ (w0.alloc (.cells #[.string g.sep] 9)).drew.heap.size := by simp; omega
    go_region_held3 (fun w' => w'.cell? ⟨w.heap.size, 1, none⟩ = some (.slice (some ⟨tb, toff, none⟩) g.toks.length tc) ∧ w'.cell? ⟨w.heap.size, 2, none⟩ = some (.string g.sep) ∧ w'.cell? ⟨w.heap.size, 3, none⟩ = some (.slice na g.names.length nc) ∧ SP w g ⟨some ⟨tb, toff, none⟩, tc, na, nc, pa, pc⟩ w')
      ((refine SP.all (a := ⟨some ⟨tb, toff, none⟩, tc, na, nc, pa, pc⟩) ?_; first | assumption | exact SP.drew hsn | exact hsq))
      ((refine step_append_grows (by rfl) _ _ 22 (by rfl) 9 i0 _ 1 16 under23 hi0 hq0 hq1 hq2 (by rfl) (by omega) (some ⟨tb, toff, none⟩) g.toks.length g.toks.length (strs g.toks) (by rfl) (by simp) (by simp [strs]) holds ⟨w0.heap.size, 0, none⟩ 1 1 [.string g.sep] (by rfl) (by rfl) hnews (by simp [Value.oneCell']) (by omega) (by unfold maxLen; omega) (by omega) ?_; intro v1 w1 hown1 hg1; obtain ⟨g1, cap1, hv1⟩ := ownsRow_succ hown1; subst hv1; have hs1 : SP w g ⟨some ⟨tb, toff, none⟩, tc, na, nc, pa, pc⟩ w1 := hsq.grown0 hg1))
    all_goals
      go_wp2_with fail
      go_meet
      refine ⟨?_, rfl, rfl, hs1⟩
      have := Own1.mono (base := (w0.alloc (.cells #[.string g.sep] 9)).drew.heap.size) (l := strs g.toks ++ [.string g.sep]) (by unfold Own1; rw [show (strs g.toks ++ [Value.string g.sep]).length = g.toks.length + 1 by simp [strs]]; exact hown1) hos
      rw [show strs (g.toks ++ [g.sep]) = strs g.toks ++ [.string g.sep] by simp [strs]]
      exact this
  case rest =>
    clear hsn hlt
    obtain ⟨ho, rfl, rfl, hG⟩ := hcut
    obtain ⟨A, c, rfl, hrd, hc1, hc2, hbl⟩ := ho.reads
    have hG : GB w g ⟨some ⟨tb, toff, none⟩, tc, na, nc, pa, pc⟩ wc := hG
    have hsl : (strs (g.toks ++ [g.sep])).length = (g.toks ++ [g.sep]).length := by simp [strs]
    rw [hsl] at hrd hc1
    rw [hsl]
    clear hsl ho
    have hsz : ∀ s ∈ g.toks ++ [g.sep], s.size ≤ maxLen := by
      intro s hs
      rcases List.mem_append.1 hs with h | h
      · exact hG.2.1.ts s h
      · simp at h; rw [h]; exact hG.2.1.sep
    have hsn : ∀ s ∈ g.names, s.size ≤ maxLen := hG.2.1.ns
    obtain ⟨L, hL⟩ : ∃ L, L = g.toks ++ [g.sep] := ⟨_, rfl⟩
    have hNB : nameB g = (L.all smallB && g.names.all capB) := by rw [hL]; rfl
    have hLl : L.length = g.toks.length + 1 := by rw [hL]; simp
    rw [← hL] at hrd hc1 hsz ⊢
    clear hL
    rw [← hLl]
    have hLn : L.length ≤ 100001 := by omega
    replace hLl := Lib.hid hLl
    replace hNB := Lib.hid hNB
    have hcap := Lib.hid (fun (s : ByteArray) (hs : s ∈ g.names) (w : World) => cap_any s w (hsn s hs))
    have hsm := Lib.hid (fun (s : ByteArray) (hs : s ∈ L) (w : World) => small_any s w (hsz s hs))
    clear hz0 hz1 hz2
    go_wp2_with fail
    go_loopg [31] L.length (fun gk s31 wr => ∃ i : Nat, s31 = .int .i64 i ∧ i + gk = L.length ∧ (∀ s ∈ L.take i, smallB s = true) ∧ Rd1 wr wc.heap.size A L.length (strs L) ∧ GB w g ⟨some ⟨tb, toff, none⟩, tc, na, nc, pa, pc⟩ wr ∧ Below wc.heap.size wc wr)
    case atStart => exact ⟨0, rfl, by omega, by simp, hrd, hG, Below.refl _ _⟩
    case round =>
      clear hrd hG
      obtain ⟨i, rfl, hi, hP, hrd, hG, hbc⟩ := hrel
      replace hi := Lib.hid hi
      replace hP := Lib.hid hP
      by_cases hin : i < L.length
      · have hxi : L[i]? = some L[i] := List.getElem?_eq_getElem hin
        obtain ⟨b, off, rfl, hbt, x0⟩ := hrd.get (i := i) (v := .string L[i]) (by simp [strs, hxi])
        have hmem := List.getElem_mem hin
        have htk : L.take (i + 1) = L.take i ++ [L[i]] := List.take_succ_eq_append_getElem hin
        have hsi := Lib.hid (hsm.out L[i] hmem)
        generalize L[i] = x at *
        have hzi : (0 : Int) ≤ i := by omega
        have hzn : (i : Int) < L.length := by omega
        replace hxi := Lib.hid hxi
        replace htk := Lib.hid htk
        replace hmem := Lib.hid hmem
        cases hsb : smallB x with
        | true =>
          have hGG := Lib.hid (show ∀ s ∈ L.take (i + 1), smallB s = true by
            intro s hs
            rw [htk.out] at hs
            rcases List.mem_append.1 hs with h | h
            · exact hP.out s h
            · simp at h; rw [h]; exact hsb)
          rw [hsb] at hsi
          replace hsb := Lib.hid hsb
          go_wp2_with (go_at_call 101; refine (hsi.out _).mono ?_; rintro e w' ⟨rfl, hb1⟩)
          go_roundg (L.length - (i + 1))
          case measure => have := hi.out; omega
          case rel => exact ⟨i + 1, by go_num, by have := hi.out; omega, hGG.out, hrd.below (hb1.mono hbc.size), hG.step hb1, bStep hbc hb1⟩
        | false =>
          have hnF : R = 12 := by
            rw [hR1.out, if_pos]
            rw [hNB.out, Bool.and_eq_false_iff]
            left
            rw [List.all_eq_false]
            exact ⟨x, hmem.out, by simp [hsb]⟩
          subst hnF
          rw [hsb] at hsi
          replace hsb := Lib.hid hsb
          go_wp2_with (go_at_call 101; refine (hsi.out _).mono ?_; rintro e w' ⟨rfl, hb1⟩)
          go_ret
          exact ⟨rfl, bStep hG.2.2 hb1⟩
      · have hAll : L.all smallB = true := by
          rw [List.all_eq_true]
          intro s hs
          refine hP.out s ?_
          rwa [List.take_of_length_le (by omega)]
        have hNB2 := hNB.out
        rw [hAll, Bool.true_and] at hNB2
        replace hNB2 := Lib.hid hNB2
        clear hAll hNB
        obtain ⟨c0, c1, c2, c3, c4, c5⟩ := hG.cells
        dsimp only at c1 c3 c5
        go_wp2_with fail
        go_loopg [42] g.names.length (fun gk s42 wr2 => ∃ i : Nat, s42 = .int .i64 i ∧ i + gk = g.names.length ∧ (∀ s ∈ g.names.take i, capB s = true) ∧ GB w g ⟨some ⟨tb, toff, none⟩, tc, na, nc, pa, pc⟩ wr2)
        case atStart => exact ⟨0, rfl, by omega, by simp, hG⟩
        case round =>
          clear hrd hG hbc c0 c1 c2 c3 c4 c5
          obtain ⟨i, rfl, hi, hP, hG⟩ := hrel
          replace hi := Lib.hid hi
          replace hP := Lib.hid hP
          by_cases hin : i < g.names.length
          · have hxi : g.names[i]? = some g.names[i] := List.getElem?_eq_getElem hin
            obtain ⟨b, off, hA, hbt, x0⟩ := hG.2.1.names.get (i := i) (v := .string g.names[i]) (by simp [strs, hxi])
            dsimp only at hA
            subst hA
            have hmem := List.getElem_mem hin
            have htk : g.names.take (i + 1) = g.names.take i ++ [g.names[i]] := List.take_succ_eq_append_getElem hin
            have hsi := Lib.hid (hcap.out g.names[i] hmem)
            generalize g.names[i] = x at *
            have hzi : (0 : Int) ≤ i := by omega
            have hzn : (i : Int) < g.names.length := by omega
            replace hxi := Lib.hid hxi
            replace htk := Lib.hid htk
            replace hmem := Lib.hid hmem
            cases hsb : capB x with
            | true =>
              have hGG := Lib.hid (show ∀ s ∈ g.names.take (i + 1), capB s = true by
                intro s hs
                rw [htk.out] at hs
                rcases List.mem_append.1 hs with h | h
                · exact hP.out s h
                · simp at h; rw [h]; exact hsb)
              rw [hsb] at hsi
              replace hsb := Lib.hid hsb
              go_wp2_with (go_at_call 102; refine (hsi.out _).mono ?_; rintro e w' ⟨rfl, hb1⟩)
              go_roundg (g.names.length - (i + 1))
              case measure => have := hi.out; omega
              case rel => exact ⟨i + 1, by go_num, by have := hi.out; omega, hGG.out, hG.step hb1⟩
            | false =>
              have hnF : R = 12 := by
                rw [hR1.out, if_pos]
                rw [hNB2.out, List.all_eq_false]
                exact ⟨x, hmem.out, by simp [hsb]⟩
              subst hnF
              rw [hsb] at hsi
              replace hsb := Lib.hid hsb
              go_wp2_with (go_at_call 102; refine (hsi.out _).mono ?_; rintro e w' ⟨rfl, hb1⟩)
              go_ret
              exact ⟨rfl, bStep hG.2.2 hb1⟩
          · have hAll : g.names.all capB = true := by
              rw [List.all_eq_true]
              intro s hs
              refine hP.out s ?_
              rwa [List.take_of_length_le (by omega)]
            have hR2 : R = 0 := by rw [hR1.out, if_neg (by rw [hNB2.out, hAll]; simp)]
            subst hR2
            go_wp2_with fail
            go_ret
            exact ⟨rfl, hG.2.2⟩
end Go.Proofs.YtnnkfgekiaaehaaGreat

/- grammar.different. -/
namespace Go.Proofs.YtnnkfgekiaaehaaGreat
open Go.ChangeShapes Go.WideShapes Go.ChangeAt Go.RowKit
set_option linter.unusedVariables false

def SD (w : World) (g : Gr) (a : GA) (w' : World) : Prop := GB w g a w' ∧ MapK strKey w' (w.heap.size + 1) []
theorem SD.all {w : World} {g : Gr} {a : GA} {w' : World} (h : SD w g a w') : w'.cell? ⟨w.heap.size, 1, none⟩ = some (.slice a.ta g.toks.length a.tc) ∧ w'.cell? ⟨w.heap.size, 2, none⟩ = some (.string g.sep) ∧ w'.cell? ⟨w.heap.size, 3, none⟩ = some (.slice a.na g.names.length a.nc) ∧ SD w g a w' :=
  ⟨h.1.1.cell 1, h.1.1.cell 2, h.1.1.cell 3, h⟩
theorem SD.step {w : World} {g : Gr} {a : GA} {w' w1 : World} (h : SD w g a w') (hb : Below w'.heap.size w' w1) : SD w g a w1 := ⟨h.1.step hb, h.2.step hb⟩
theorem SD.drew {w : World} {g : Gr} {a : GA} {w' : World} (h : SD w g a w') : SD w g a w'.drew := h.step (Below.refl _ _).drew
theorem SD.alloc {w : World} {g : Gr} {a : GA} {w' : World} (h : SD w g a w') (o : Obj) : SD w g a (w'.alloc o) := h.step ((Below.refl _ _).alloc (Nat.le_refl _) o)
theorem SD.grown {w : World} {g : Gr} {a : GA} {w' w1 : World} {row : Option Nat} (h : SD w g a w') (hg : w'.grownBy w1 row) (hr : ∀ k, row = some k → w.heap.size + 1 < k) : SD w g a w1 :=
  ⟨⟨h.1.1.grown hg (fun e => by have := hr _ e.symm; omega), h.1.2.1.below ((Below.refl _ _).grown hg h.1.2.2.size (fun k hk => by have := hr k hk; omega)), h.1.2.2.grown hg h.1.2.2.size (fun k hk => by have := hr k hk; omega)⟩, h.2.grown hg (fun e => by have := hr _ e.symm; omega)⟩
theorem Rd1.grown {w w' : World} {B : Nat} {A : Option Addr} {n : Nat} {l : List Value} {row : Option Nat} (h : Rd1 w B A n l) (hg : w.grownBy w' row) (hB : B ≤ w.heap.size) (hne : ∀ a, A = some a → some a.block ≠ row) : Rd1 w' B A n l := by
  refine ⟨h.1, ?_⟩
  rcases h.2 with h0 | ⟨b, off, rfl, hlt, hc⟩
  · exact .inl h0
  · exact .inr ⟨b, off, rfl, hlt, fun i x hx => (World.cell?_of_block (a := ⟨b, off + i, none⟩) (hg.block b (by omega) (hne _ rfl))).trans (hc i x hx)⟩
theorem own_map_ne {α : Type} {E : KeyEnc α} {w : World} {base b : Nat} {e : TypeId} {v : Value} {vs : List Value} {s : List α} (h : Own1 w base e v vs) (hm : MapK E w b s) : ∀ k, v.ownBlock = some k → k ≠ b := by
  intro k hk e'
  subst e'
  obtain ⟨es, clock, hb, _⟩ := hm
  rcases h.2 with ⟨rfl, _⟩ | ⟨g, cap, cur, rfl, _, hg, _⟩
  · cases hk
  · simp [Value.ownBlock] at hk
    subst hk
    rw [hb] at hg; cases hg
theorem mapk_new {α : Type} (E : KeyEnc α) (w : World) (b : Nat) (hb : b = w.heap.size) : MapK E (w.alloc (.map #[] 0)) b [] := by
  subst hb
  exact ⟨#[], 0, heap_alloc_new w _, by simp, by simp, by simp, by simp, (MapKept.stamped_iff _ _).2 (by simp)⟩
theorem under107 : Tryz.prog.underlying 142 = some (.map 9 4) := by kernel_rfl

set_option maxHeartbeats 4000000 in
theorem different_any (g : Gr) (a : GA) (w : World) (hg : GrAt w w.heap.size g a) (hs : Small g) (ht0 : g.toks.length ≠ 0) :
    Calls Tryz.prog 64 #[gval g a] w fun e w' => e = .returned (.int .i64 (if ((g.toks ++ [g.sep]) ++ g.names).Nodup then 0 else 8)) ∧ Below w.heap.size w w' := by
  obtain ⟨ta, tc, na, nc, pa, pc⟩ := a
  obtain ⟨R, hR⟩ : ∃ R : Int, R = if ((g.toks ++ [g.sep]) ++ g.names).Nodup then 0 else 8 := ⟨_, rfl⟩
  rw [← hR]
  replace hR := Lib.hid hR
  have hs1 := hs.t
  have hs2 := hs.n
  clear hs
  have hG0 := GB.start hg
  clear hg
  have htc := hG0.2.1.tc
  have htm := hG0.2.1.tm
  unfold gval at *
  unfold gcells at *
  dsimp only at *
  obtain ⟨tb, toff, hta, htlt, htcells⟩ : ∃ b off, ta = some ⟨b, off, none⟩ ∧ b < w.heap.size ∧ True := by
    rcases hG0.2.1.toks.2 with h | ⟨b, off, h, hlt, _⟩
    · exact absurd h ht0
    · exact ⟨b, off, h, hlt, trivial⟩
  clear ht0 htcells
  subst hta
  have hz0 : (0 : Int) ≤ g.toks.length := by omega
  have hz1 : (g.toks.length : Int) ≤ tc := by omega
  have hz2 : (g.toks.length : Int) ≤ g.toks.length := by omega
  have hmm := @run_makeMap Tryz.prog
  go_enter Tryz.func64, Tryz.ntmps64
  go_wp2_with fail
  obtain ⟨w0, hw0⟩ : ∃ w0, w0 = (w.alloc (.cells #[.int .i64 g.k, .slice (some ⟨tb, toff, none⟩) g.toks.length tc, .string g.sep, .slice na g.names.length nc, .int .i64 g.start, .slice pa g.prods.length pc] 25)).alloc (.map #[] 0) := ⟨_, rfl⟩
  have hsn : SD w g ⟨some ⟨tb, toff, none⟩, tc, na, nc, pa, pc⟩ w0 := by rw [hw0]; exact ⟨hG0.alloc _, mapk_new _ _ _ (by simp)⟩
  rw [← hw0]
  clear hw0 hG0 hmm
  have hlt := hsn.2.lt
  go_cut [22, 23, 24] (fun s22 s23 s24 wx => Own1 wx w.heap.size 9 s22 (strs ((g.toks ++ [g.sep]) ++ g.names)) ∧ s23 = .int .i64 (((g.toks ++ [g.sep]) ++ g.names).length : Nat) ∧ s24 = .int .i64 0 ∧ SD w g ⟨some ⟨tb, toff, none⟩, tc, na, nc, pa, pc⟩ wx ∧ w.heap.size + 1 < wx.heap.size)
  case first =>
    have hsq : SD w g ⟨some ⟨tb, toff, none⟩, tc, na, nc, pa, pc⟩ (w0.alloc (.cells #[.string g.sep] 9)).drew := (hsn.alloc _).drew
    have holds := rd1_olds hsq.1.2.1.toks
    have hnews : ∀ j u, [Value.string g.sep][j]? = some u → (w0.alloc (.cells #[.string g.sep] 9)).drew.cell? ((⟨w0.heap.size, 0, none⟩ : Addr).add j) = some u := blk_news (W := (w0.alloc (.cells #[.string g.sep] 9)).drew) (Blk.new w0 9 #[.string g.sep])
    obtain ⟨i0, hi0, hq0, hq1, hq2⟩ := info_parts info9
    have hos : w.heap.size + 2 ≤ (w0.alloc (.cells #[.string g.sep] 9)).drew.heap.size := by simp; omega
    have hsl1 : (strs g.toks ++ [Value.string g.sep]).length = g.toks.length + 1 := by simp [strs]
    have hsl2 : (strs g.toks ++ [Value.string g.sep]).length + g.names.length ≤ 1000000 := by rw [hsl1]; omega
    have hsl3 : (strs g.toks ++ [Value.string g.sep] ++ strs g.names).length = ((g.toks ++ [g.sep]) ++ g.names).length := by simp [strs]
    have hsl4 : strs ((g.toks ++ [g.sep]) ++ g.names) = strs g.toks ++ [Value.string g.sep] ++ strs g.names := by simp [strs]
    replace hsl4 := Lib.hid hsl4
    obtain ⟨N, hN⟩ : ∃ N, N = (strs g.toks ++ [Value.string g.sep] ++ strs g.names).length := ⟨_, rfl⟩
    replace hN := Lib.hid hN
    replace hsl1 := Lib.hid hsl1
    replace hsl3 := Lib.hid hsl3
    go_region_held3 (fun w' => w'.cell? ⟨w.heap.size, 1, none⟩ = some (.slice (some ⟨tb, toff, none⟩) g.toks.length tc) ∧ w'.cell? ⟨w.heap.size, 2, none⟩ = some (.string g.sep) ∧ w'.cell? ⟨w.heap.size, 3, none⟩ = some (.slice na g.names.length nc) ∧ SD w g ⟨some ⟨tb, toff, none⟩, tc, na, nc, pa, pc⟩ w')
      ((refine SD.all (a := ⟨some ⟨tb, toff, none⟩, tc, na, nc, pa, pc⟩) ?_; first | assumption | exact SD.drew hsn | exact hsq))
      (first
        | (refine step_append_grows (by rfl) _ _ 22 (by rfl) 9 i0 _ 1 16 under23 hi0 hq0 hq1 hq2 (by rfl) (by omega) (some ⟨tb, toff, none⟩) g.toks.length g.toks.length (strs g.toks) (by rfl) (by simp) (by simp [strs]) holds ⟨w0.heap.size, 0, none⟩ 1 1 [.string g.sep] (by rfl) (by rfl) hnews (by simp [Value.oneCell']) (by omega) (by unfold maxLen; omega) (by omega) ?_; intro v1 w1 hown1 hg1
           have hs1 : SD w g ⟨some ⟨tb, toff, none⟩, tc, na, nc, pa, pc⟩ w1 := hsq.grown hg1 (by simp)
           have ho1 : Own1 w1 (w.heap.size + 2) 9 v1 (strs g.toks ++ [.string g.sep]) := Own1.mono (base := (w0.alloc (.cells #[.string g.sep] 9)).drew.heap.size) (by unfold Own1; rw [hsl1.out]; exact hown1) hos)
        | (refine step_of_wp _ (by rfl) (wp_join1 _ _ _ 22 (by rfl) (w.heap.size + 2) 9 _ 16 under23 info9 (by rfl) v1 _ (by rfl) ho1 w.heap.size na g.names.length nc (strs g.names) (by rfl) hs1.1.2.1.names strs_one hsl2 (by simp) (by have := hg1.size; omega) ?_); intro v2 w2 hown2 hg2 hat2 hb2; obtain ⟨A2, k2, hv2, hd2, hk2, hm2, hbb2⟩ := hown2.reads; rw [← hN.out] at hv2; subst hv2
           have hs2 : SD w g ⟨some ⟨tb, toff, none⟩, tc, na, nc, pa, pc⟩ w2 := hs1.grown hg2 (fun k hk => by have := (own_in ho1 k hk).1; omega)))
    all_goals
      go_wp2_with fail
      go_meet
      refine ⟨?_, ?_, rfl, hs2, hs2.2.lt⟩
      · rw [hsl4.out]; exact Own1.mono (base := w.heap.size + 2) hown2 (by omega)
      · rw [← hsl3.out, hN.out]
  case rest =>
    clear hsn hlt
    obtain ⟨ho, rfl, rfl, hG, hmlt⟩ := hcut
    obtain ⟨A, c, rfl, hrd, hc1, hc2, hbl⟩ := ho.reads
    have hsl : (strs ((g.toks ++ [g.sep]) ++ g.names)).length = ((g.toks ++ [g.sep]) ++ g.names).length := by simp [strs]
    rw [hsl] at hrd hc1
    rw [hsl]
    have hnm : ∀ a, A = some a → a.block ≠ w.heap.size + 1 := fun a ha => own_map_ne ho hG.2 a.block (by rw [ha]; rfl)
    clear hsl ho
    have hsz : ∀ s ∈ (g.toks ++ [g.sep]) ++ g.names, s.size ≤ maxLen := by
      intro s hs
      rcases List.mem_append.1 hs with h | h
      · rcases List.mem_append.1 h with h | h
        · exact hG.1.2.1.ts s h
        · simp at h; rw [h]; exact hG.1.2.1.sep
      · exact hG.1.2.1.ns s h
    obtain ⟨L, hL⟩ : ∃ L, L = (g.toks ++ [g.sep]) ++ g.names := ⟨_, rfl⟩
    have hLl : L.length ≤ 200001 := by rw [hL]; simp; omega
    rw [← hL] at hrd hc1 hsz hR ⊢
    clear hL hz0 hz1 hz2
    replace hsz := Lib.hid hsz
    have hG1 := hG.1
    have hG2 := hG.2
    clear hG
    go_wp2_with fail
    go_loopg [24] L.length (fun gk s24 wr => ∃ i : Nat, s24 = .int .i64 i ∧ i + gk = L.length ∧ MapK strKey wr (w.heap.size + 1) (L.take i) ∧ Rd1 wr wc.heap.size A L.length (strs L) ∧ Below w.heap.size w wr ∧ (∀ a, A = some a → a.block ≠ w.heap.size + 1) ∧ wc.heap.size ≤ wr.heap.size)
    case atStart => exact ⟨0, rfl, by omega, by simpa using hG2, hrd, hG1.2.2, hnm, Nat.le_refl _⟩
    case round =>
      clear hrd hG1 hG2 hnm
      obtain ⟨i, rfl, hi, hM, hrd, hb, hne, hle⟩ := hrel
      replace hi := Lib.hid hi
      by_cases hin : i < L.length
      · have hxi : L[i]? = some L[i] := List.getElem?_eq_getElem hin
        obtain ⟨b, off, rfl, hbt, x0⟩ := hrd.get (i := i) (v := .string L[i]) (by simp [strs, hxi])
        have hmem := List.getElem_mem hin
        have htk : L.take (i + 1) = L.take i ++ [L[i]] := List.take_succ_eq_append_getElem hin
        have hok : strKey.ok L[i] := hsz.out _ hmem
        have hnod : L[i] ∈ L.take i → ¬ L.Nodup := by
          intro hm hn
          rw [← List.take_append_drop i L, List.nodup_append] at hn
          exact hn.2.2 _ hm _ (by rw [List.drop_eq_getElem_cons hin]; exact List.mem_cons_self) rfl
        generalize L[i] = x at *
        have hzi : (0 : Int) ≤ i := by omega
        have hzn : (i : Int) < L.length := by omega
        replace hxi := Lib.hid hxi
        replace htk := Lib.hid htk
        replace hmem := Lib.hid hmem
        replace hnod := Lib.hid hnod
        replace hne := Lib.hid hne
        by_cases hxm : x ∈ L.take i
        · have hR2 : R = 8 := by rw [hR.out, if_neg (hnod.out hxm)]
          subst hR2
          have hd : true = true ↔ x ∈ L.take i := ⟨fun _ => hxm, fun _ => rfl⟩
          replace hd := Lib.hid hd
          replace hxm := Lib.hid hxm
          go_wp2_with (at_lookup; refine wpList_lookK (E := strKey) _ under107 rfl _ _ rfl (w.heap.size + 1) (L.take i) x true hd.out rfl rfl hM hok ?_)
          go_ret
          exact ⟨rfl, hb⟩
        · have hd : false = true ↔ x ∈ L.take i := ⟨fun h => (by cases h), fun h => absurd h hxm⟩
          have hif : (x ∈ L.take i ∧ L.take (i + 1) = L.take i) ∨ (x ∉ L.take i ∧ L.take (i + 1) = L.take i ++ [x]) := .inr ⟨hxm, htk.out⟩
          replace hd := Lib.hid hd
          replace hif := Lib.hid hif
          replace hxm := Lib.hid hxm
          go_wp2_with (first | (at_lookup; refine wpList_lookK (E := strKey) _ under107 rfl _ _ rfl (w.heap.size + 1) (L.take i) x false hd.out rfl rfl hM hok ?_) | (at_mapUpdate; refine wpList_layK (E := strKey) _ under107 rfl _ _ _ rfl (w.heap.size + 1) (L.take i) (L.take (i + 1)) x hif.out rfl rfl rfl hM hok ?_; intro w1 hM1 ht1))
          have hg1 := turned_grown ht1
          go_roundg (L.length - (i + 1))
          case measure => have := hi.out; omega
          case rel => exact ⟨i + 1, by go_num, by have := hi.out; omega, hM1, hrd.grown hg1 hle (fun a ha => by have := hne.out a ha; simpa using this), hb.grown hg1 hb.size (by intro k hk; cases hk; omega), hne.out, Nat.le_trans hle hg1.size⟩
      · have hR2 : R = 0 := by
          rw [hR.out, if_pos]
          have := hM
          obtain ⟨_, _, _, _, _, _, hn, _⟩ := this
          rwa [List.take_of_length_le (by omega)] at hn
        subst hR2
        go_wp2_with fail
        go_ret
        exact ⟨rfl, hb⟩
end Go.Proofs.YtnnkfgekiaaehaaGreat

/- slices.All over the productions, at elements that bear what is known of them. -/
namespace Go.Proofs.YtnnkfgekiaaehaaGreat
open Go.RowKit Go.Shelf
set_option linter.unusedVariables false
attribute [local go_sem] Oper.semAt_some

def uptoF {β : Type} (f : Nat → β) (k : Nat) : List β := (List.range k).map f
theorem uptoF_succ {β : Type} (f : Nat → β) (k : Nat) : uptoF f (k + 1) = uptoF f k ++ [f k] := by simp [uptoF, List.range_succ]
theorem uptoF_length {β : Type} (f : Nat → β) (k : Nat) : (uptoF f k).length = k := by simp [uptoF]

set_option maxRecDepth 100000 in
set_option maxHeartbeats 2000000 in
theorem allg1_in {β : Type} (f : Nat → β) (encs : β → Array Value) (n : Nat) (hn : 1 ≤ n) (l Bs n₀ : Nat) (A : Option Addr) (len cap : Nat) (vs : List PV) (hlen : len ≤ 1000000) (hf : ∀ k, k < len → encs (f k) = encP (k, vs.getD k default)) (J Jx : List β → World → Prop)
    (hY : ∀ pre x W, J pre W → pre.length < len → YieldAt Fence.wide (n - 1) Tryz.prog l (encs x) W fun e W' =>
      (e = .returned (.bool true) ∧ J (pre ++ [x]) W' ∧ Below n₀ W W') ∨ (e = .returned (.bool false) ∧ Jx (pre ++ [x]) W'))
    (W : World) (hJ : AbidesFrom W.heap.size J) (hn0 : n₀ ≤ W.heap.size) (hBs : W.cell? ⟨Bs, 0, none⟩ = some (.slice A len cap)) (hR : RdV W n₀ A len vs) (h0 : J [] W) :
    CallsIn Fence.wide n Tryz.prog 160 #[.func (.yield l) #[] #[], .pointer (some ⟨Bs, 0, none⟩)] W fun e W' => (∃ v, e = .returned v) ∧
      ((∃ ys, ys = uptoF f len ∧ J ys W') ∨ (∃ pre, (∃ k, k ≤ len ∧ pre = uptoF f k) ∧ Jx pre W')) := by
  refine callsIn_of_wp Tryz.func160 rfl trivial ?_ rfl
  simp only [Tryz.ntmps160, List.size_toArray, List.length_cons, List.length_nil, Nat.reduceAdd, Nat.reduceSub, Array.replicate_succ, Array.replicate_zero, List.push_toArray, List.append_toArray, List.nil_append, List.cons_append]
  gi_wp2
  gi_loopw [7] (fun i wr => ∃ k : Nat, k ≤ len ∧ i = .int .i64 k ∧ J (uptoF f k) wr ∧ Below n₀ W wr ∧ W.heap.size ≤ wr.heap.size)
    (fun i _ => len - (intOf i).toNat)
  case atStart => exact ⟨0, Nat.zero_le _, rfl, h0, Below.refl _ _, Nat.le_refl _⟩
  case round =>
    obtain ⟨k, hk, rfl, hJs, hnx, hge⟩ := hrel
    by_cases hlt : k < len
    · rcases hR.2 with hz | ⟨b, off, rfl, hb, hcs⟩
      · omega
      have hkl : k < vs.length := by rw [hR.1]; exact hlt
      obtain ⟨h1, h2⟩ := hcs k vs[k] (List.getElem?_eq_getElem hkl)
      have hgd : vs.getD k default = vs[k] := by simp [List.getD_eq_getElem?_getD, hkl]
      have x0 : wr.cell? ⟨b, off + k * 2, none⟩ = some (.int .i64 vs[k].p.left) := (hnx.cell (p := ⟨b, off + k * 2, none⟩) hb).trans h1
      have x1 : wr.cell? ⟨b, off + k * 2 + 1, none⟩ = some (.slice vs[k].ra vs[k].p.right.length vs[k].rc) := (hnx.cell (p := ⟨b, off + k * 2 + 1, none⟩) hb).trans h2
      have hsu := uptoF_succ f k
      have hfk := hf k hlt
      rw [hgd] at hfk
      replace hsu := Lib.hid hsu
      generalize vs[k] = x at *
      replace hgd := Lib.hid hgd
      have hJ1 := hJ _ _ _ none hJs (World.grownBy_alloc wr (.cells #[.int .i64 x.p.left, .slice x.ra x.p.right.length x.rc] 47) none) (by simp)
      have hbA : Below n₀ wr (wr.alloc (.cells #[.int .i64 x.p.left, .slice x.ra x.p.right.length x.rc] 47)) := (Below.refl _ _).alloc (by omega) _
      obtain ⟨fn, tmps, assign, body, hy, hR2⟩ := hY _ (f k) _ hJ1 (by rw [uptoF_length]; exact hlt)
      rw [hfk] at hy
      dsimp only [encP] at hy
      replace hfk := Lib.hid hfk
      gi_wp2
      refine hR2.mono ?_
      rintro e W3 (⟨rfl, hJ3, hk3⟩ | ⟨rfl, hJx3⟩)
      · gi_wp2
        go_roundw
        case rel => exact ⟨k + 1, by omega, by simp, by rw [hsu.out]; exact hJ3, hnx.trans (hbA.trans hk3), by have := hk3.size; simp at this; omega⟩
        case measure => simp [intOf]; omega
      · gi_wp2
        refine bodyPost_ret (results_none rfl _ _ _) rfl ?_
        exact ⟨⟨_, rfl⟩, .inr ⟨_, ⟨k + 1, by omega, hsu.out.symm⟩, hJx3⟩⟩
    · obtain rfl : k = len := by omega
      gi_wp2
      go_end0
      exact ⟨⟨_, rfl⟩, .inl ⟨_, rfl, hJs⟩⟩

theorem allg_stops {β : Type} (f : Nat → β) (encs : β → Array Value) (n : Nat) (hn : 1 ≤ n) (Bs n₀ : Nat) (A : Option Addr) (len cap : Nat) (vs : List PV) (hlen : len ≤ 1000000) (hf : ∀ k, k < len → encs (f k) = encP (k, vs.getD k default)) (w : World) (hBs : Bs < w.heap.size) (hn₀ : n₀ ≤ w.heap.size)
    (hc : w.cell? ⟨Bs, 0, none⟩ = some (.slice A len cap)) (hI : RdV w n₀ A len vs) :
    SeqStopsK Fence.wide n Tryz.prog 160 #[.pointer (some ⟨Bs, 0, none⟩)] encs (Below n₀) (fun ys => ys = uptoF f len) (fun pre => ∃ k, k ≤ len ∧ pre = uptoF f k) len w := fun l J Jx W hW hJ _ hY h0 => by
  have hc' := (hW.cell (p := ⟨Bs, 0, none⟩) hBs).trans hc
  exact allg1_in f encs n hn l Bs n₀ A len cap vs hlen hf J Jx hY W hJ (Nat.le_trans hn₀ hW.size) hc' (hI.below (hW.mono hn₀)) h0

/-- a production that reads, and is not too long -/
def PVk (w : World) (x : PV) : Prop := PVok w w.heap.size x ∧ x.p.right.length ≤ 1000000
/-- a production that is known to read, with its number -/
def PX (w : World) : Type := { x : Nat × PV // PVk w x.2 }
theorem pvok_default (w : World) : PVk w default := ⟨⟨Rd1.nil _ _ _, Nat.le_refl _, by simp [maxLen, show (default : PV).rc = 0 from rfl]⟩, by simp [show (default : PV).p.right = [] from rfl]⟩
theorem pvok_getD {w : World} {vs : List PV} (h : ∀ x ∈ vs, PVk w x) (k : Nat) : PVk w (vs.getD k default) := by
  rw [List.getD_eq_getElem?_getD]
  cases hk : vs[k]? with
  | none => exact pvok_default w
  | some x => exact h x (List.mem_of_getElem? hk)
def pxAt {w : World} {vs : List PV} (h : ∀ x ∈ vs, PVk w x) (k : Nat) : PX w := ⟨(k, vs.getD k default), pvok_getD h k⟩
def encX {w : World} (x : PX w) : Array Value := encP x.1
theorem px_mem {w : World} {vs : List PV} (h : ∀ x ∈ vs, PVk w x) {k : Nat} {y : PX w} (hk : k ≤ vs.length) (hy : y ∈ uptoF (pxAt h) k) : vs[y.1.1]? = some y.1.2 ∧ y.1.1 < k := by
  unfold uptoF at hy
  obtain ⟨j, hj, rfl⟩ := List.mem_map.1 hy
  have hj := List.mem_range.1 hj
  have hl : j < vs.length := by omega
  exact ⟨by simp [pxAt, List.getD_eq_getElem?_getD, hl], hj⟩
theorem px_at {w : World} {vs : List PV} (h : ∀ x ∈ vs, PVk w x) {k : Nat} (hk : k < vs.length) : (pxAt h k).1.2 = vs[k] := by simp [pxAt, List.getD_eq_getElem?_getD, hk]
end Go.Proofs.YtnnkfgekiaaehaaGreat

/- grammar.symbols. -/
namespace Go.Proofs.YtnnkfgekiaaehaaGreat
open Go.RowKit Go.Shelf
set_option linter.unusedVariables false
attribute [local go_sem] Oper.semAt_some

theorem GB.grown {w : World} {g : Gr} {a : GA} {W W1 : World} {row : Option Nat} (h : GB w g a W) (hg : W.grownBy W1 row) (hr : ∀ k, row = some k → w.heap.size < k) : GB w g a W1 :=
  ⟨h.1.grown hg (fun e => by have := hr _ e.symm; omega), h.2.1.below ((Below.refl _ _).grown hg h.2.2.size (fun k hk => by have := hr k hk; omega)), h.2.2.grown hg h.2.2.size (fun k hk => by have := hr k hk; omega)⟩
theorem keeps_below {B : Nat} {W W1 : World} (h : Below W.heap.size W W1) : KeepsFrom B W W1 := ⟨h.size, fun k o _ hk _ => (h.block k (Array.getElem?_eq_some_iff.1 hk).1).trans hk⟩
/-- between two rounds: what has come is right; the result's box; the grammar -/
def SyI (w : World) (g : Gr) (a : GA) (q : List (PX w) → Bool) (r : Int) (pre : List (PX w)) (W : World) : Prop := q pre = true ∧ Blk W (w.heap.size + 1) 29 #[.int .i64 r] ∧ GB w g a W
def SyX (w : World) (g : Gr) (a : GA) (q : List (PX w) → Bool) (r : Int) (c : Code) (pre : List (PX w)) (W : World) : Prop := (c = .ret ∧ q pre = false) ∧ Blk W (w.heap.size + 1) 29 #[.int .i64 r] ∧ GB w g a W
theorem syI_own {B : Nat} (w : World) (g : Gr) (a : GA) (q : List (PX w) → Bool) (r : Int) (h : w.heap.size + 1 < B) : OwnFrom B (SyI w g a q r) := fun s X Y row hs hg hr =>
  ⟨hs.1, hs.2.1.grown hg (fun e => by have := (hr _ e.symm).1; omega), hs.2.2.grown hg (fun k hk => by have := (hr k hk).1; omega)⟩
theorem syX_own {B : Nat} (w : World) (g : Gr) (a : GA) (q : List (PX w) → Bool) (r : Int) (h : w.heap.size + 1 < B) (c : Code) : OwnFrom B (SyX w g a q r c) := fun s X Y row hs hg hr =>
  ⟨hs.1, hs.2.1.grown hg (fun e => by have := (hr _ e.symm).1; omega), hs.2.2.grown hg (fun k hk => by have := (hr k hk).1; omega)⟩
/-- all that has come is right -/
def allQ {w : World} (q : Pr → Bool) (pre : List (PX w)) : Bool := pre.all fun y => q y.1.2.p
theorem allQ_snoc {w : World} (q : Pr → Bool) (pre : List (PX w)) (x : PX w) : allQ q (pre ++ [x]) = (allQ q pre && q x.1.2.p) := by simp [allQ]
theorem allQ_all {w : World} {vs : List PV} (h : ∀ x ∈ vs, PVk w x) {q : Pr → Bool} (hq : allQ q (uptoF (pxAt h) vs.length) = true) : (vs.map PV.p).all q = true := by
  rw [List.all_eq_true]
  intro p hp
  obtain ⟨x, hx, rfl⟩ := List.mem_map.1 hp
  obtain ⟨i, hi, rfl⟩ := List.mem_iff_getElem.1 hx
  have := (List.all_eq_true.1 hq) (pxAt h i) (List.mem_map.2 ⟨i, List.mem_range.2 hi, rfl⟩)
  rwa [px_at h hi] at this
theorem allQ_not {w : World} {vs : List PV} (h : ∀ x ∈ vs, PVk w x) {q : Pr → Bool} {k : Nat} (hk : k ≤ vs.length) (hq : allQ q (uptoF (pxAt h) k) = false) : (vs.map PV.p).all q = false := by
  rw [List.all_eq_false]
  obtain ⟨y, hy, hyq⟩ := List.all_eq_false.1 hq
  exact ⟨y.1.2.p, List.mem_map_of_mem (List.mem_of_getElem? (px_mem h hk hy).1), hyq⟩

set_option maxRecDepth 100000 in
set_option maxHeartbeats 8000000 in
theorem symbols_any (g : Gr) (a : GA) (w : World) (hg : GrAt w w.heap.size g a) (hs : Small g) :
    Calls Tryz.prog 65 #[gval g a] w fun e w' => e = .returned (.int .i64 (if symB g = false then 14 else 0)) ∧ Below w.heap.size w w' := by
  obtain ⟨ta, tc, na, nc, pa, pc⟩ := a
  obtain ⟨R, hR⟩ : ∃ R : Int, R = if symB g = false then 14 else 0 := ⟨_, rfl⟩
  rw [← hR]
  replace hR := Lib.hid hR
  have hs1 := hs.t
  have hs2 := hs.n
  have hs3 := hs.p
  have hs4 := Lib.hid hs.r
  clear hs
  obtain ⟨vs, hvs1, hvs2, hvs3⟩ := hg.prods.vals
  have hvl : vs.length = g.prods.length := by rw [← hvs1]; simp
  have hvr : ∀ x ∈ vs, x.p.right.length ≤ 1000000 := fun x hx => hs4.out _ (by rw [← hvs1]; exact List.mem_map_of_mem hx)
  replace hvs3 : ∀ x ∈ vs, PVk w x := fun x hx => ⟨hvs3 x hx, hvr x hx⟩
  have hG0 := GB.start hg
  clear hg
  have hPr := Lib.hid (fun w => prods_any g ⟨ta, tc, na, nc, pa, pc⟩ w)
  have hN := Lib.hid (fun s w => nonterm_any g ⟨ta, tc, na, nc, pa, pc⟩ s w (by omega))
  have hS : symB g = (ntB g g.start && (vs.map PV.p).all (prB g)) := by rw [hvs1]; rfl
  have hC := Lib.hid (fun b0 A n c l w hb hr hl => consym_any g ⟨ta, tc, na, nc, pa, pc⟩ b0 A n c l w hb hs1 hs2 hr hl)
  clear hvs1 hs4
  unfold gval at *
  unfold gcells at hPr hN hG0 ⊢
  dsimp only at *
  refine (callsIn_wide (n := 6)).1 ?_
  cases hst : ntB g g.start with
  | false =>
    have hR3 : R = 14 := by rw [hR.out, if_pos]; rw [hS, hst]; rfl
    subst hR3
    have hN2 := Lib.hid (hN.out g.start)
    rw [hst] at hN2
    replace hst := Lib.hid hst
    refine callsIn_wide.2 ?_
    go_enter Tryz.func65, Tryz.ntmps65
    go_wp2_with fail
    refine (hN2.out _).mono ?_
    rintro e w1 ⟨rfl, hb1⟩
    have q2 : Blk w1 (w.heap.size + 1) 29 #[.int .i64 0] := (Blk.newAt _ _ _ _ (by simp)).step hb1
    have r0 := q2.cell 0
    have f0 := q2.frozen 0
    simp only [List.getElem?_toArray, List.getElem?_cons_zero, List.getElem?_cons_succ] at r0
    go_wp2_with fail
    exact bodyPost_ret (results_cell30 rfl _ _ _ _ rfl ((q2.put 0 _).cell 0)) rfl ⟨rfl, bSet (bStep (bAlc hG0.2.2 _) hb1) _ _ (by simp)⟩
  | true =>
    have hR2 : R = if (vs.map PV.p).all (prB g) = false then 14 else 0 := by rw [hR.out, hS, hst, Bool.true_and]
    replace hR2 := Lib.hid hR2
    have hN2 := Lib.hid (hN.out g.start)
    rw [hst] at hN2
    replace hst := Lib.hid hst
    clear hS hR
    refine callsIn_of_wp_marks Tryz.func65 rfl trivial ?_ rfl
    simp only [Tryz.ntmps65, List.size_toArray, List.length_cons, List.length_nil, Nat.reduceAdd, Nat.reduceSub, Array.replicate_succ, Array.replicate_zero, List.push_toArray, List.append_toArray, List.nil_append, List.cons_append]
    replace hvl := Lib.hid hvl
    gi_wp2_with (first
      | (refine ⟨trivial, ?_⟩; gi_at_call 103; refine (callsIn_wide.2 (hN2.out _)).mono ?_; rintro e w1 ⟨rfl, hb1⟩; have hG1 := (hG0.alloc _).step hb1; obtain ⟨c0, c1, c2, c3, c4, c5⟩ := hG1.cells; dsimp only at c1 c3 c5)
      | (refine ⟨trivial, ?_⟩; gi_at_call 100; refine (callsIn_wide.2 (hPr.out _)).mono ?_; rintro e w2 ⟨B, rfl, hB1, hB2, hB3⟩))
    have bR0 : Blk w1 (w.heap.size + 1) 29 #[.int .i64 0] := (Blk.newAt _ _ _ _ (by simp)).step hb1
    have bR := bR0.step hB3
    have hG := hG1.step hB3
    have hw2 := bR.lt
    clear c0 c1 c2 c3 c4 c5 hG0
    refine wpIn_rangeFunc_ownH (F := Fence.wide) rfl (by omega) (gf := 160) (lb := #[.pointer (some ⟨B, 0, none⟩)]) rfl trivial (enters_of Tryz.func160 (by kernel_rfl) rfl)
      (allg_stops (pxAt hvs3) encX 5 (by omega) B w.heap.size pa g.prods.length pc vs (by omega) (fun k hk => rfl) w2 hB2 hG.2.2.size hB1 (hvs2.below hG.2.2)) belowK_t (belowK_b hG.2.2.size) (Below.refl _ _) (fun _ => rfl)
      (SyI w g ⟨ta, tc, na, nc, pa, pc⟩ (allQ (prB g)) 0) (SyX w g ⟨ta, tc, na, nc, pa, pc⟩ (allQ (prB g)) 14) (syI_own w g _ _ 0 hw2) (syX_own w g _ _ 14 hw2)
      ⟨rfl, bR, hG⟩
      (fun x a' W => ∃ Bx, w.heap.size + 1 < Bx ∧ Blk W Bx 47 #[.int .i64 x.1.2.p.left, .slice x.1.2.ra x.1.2.p.right.length x.1.2.rc] ∧ ∃ (u0 u3 u5 u6 u7 u8 u9 u10 u11 u12 u13 u14 u15 u16 u17 u18 u19 u20 u21 u22 u23 u24 : Value), a' = { tmps := #[u0, .pointer (some ⟨w.heap.size, 0, none⟩), .pointer (some ⟨w.heap.size + 1, 0, none⟩), u3, .pointer (some ⟨Bx, 0, none⟩), u5, u6, u7, u8, u9, u10, u11, u12, u13, u14, u15, u16, u17, u18, u19, u20, u21, u22, u23, u24], defers := [] })
      (fun x a' _ X Y row hs hg hr => by obtain ⟨Bx, h1, h2, h3⟩ := hs; exact ⟨Bx, h1, blk_own Bx 47 (fun (_ : Unit) => #[.int .i64 x.1.2.p.left, .slice x.1.2.ra x.1.2.p.right.length x.1.2.rc]) () X Y row h2 hg (fun r e => (hr r e).2), h3⟩)
      ?assign ?body ?done ?stop
    case assign =>
      rintro l pre x W K ⟨hp, bR1, hG1⟩ hK
      dsimp only [encX, encP]
      gi_wp2
      exact hK _ _ ((KeepsOthers.alloc _ _).from _) ((Below.refl _ W).alloc hG1.2.2.size _) ⟨hp, bR1.alloc _, hG1.alloc _⟩ ⟨W.heap.size, by have := bR1.lt; omega, Blk.new W 47 _, _, _, _, _, _, _, _, _, _, _, _, _, _, _, _, _, _, _, _, _, _, _, rfl⟩
    case body =>
      rintro l pre x a' W hl ⟨r, hr⟩ ⟨hp, bR1, hG1⟩ ⟨Bx, hBx, bX, u0, u3, u5, u6, u7, u8, u9, u10, u11, u12, u13, u14, u15, u16, u17, u18, u19, u20, u21, u22, u23, u24, rfl⟩ hlt
      have p0 := bX.cell 0
      have p1 := bX.cell 1
      simp only [List.getElem?_toArray, List.getElem?_cons_zero, List.getElem?_cons_succ] at p0 p1
      obtain ⟨c0, c1, c2, c3, c4, c5⟩ := hG1.cells
      dsimp only at c1 c3 c5
      have hxk := x.2
      obtain ⟨⟨hxr, hxc, hxm⟩, hx6⟩ := hxk
      have hq := Lib.hid (allQ_snoc (prB g) pre x)
      have hN3 := Lib.hid (hN.out x.1.2.p.left)
      have hp' := Lib.hid hp
      clear hp
      cases hnl : ntB g x.1.2.p.left with
      | false =>
        have hpr : prB g x.1.2.p = false := by unfold prB; rw [hnl]; rfl
        have hqF : allQ (prB g) (pre ++ [x]) = false := by rw [hq.out, hpr, Bool.and_false]
        rw [hnl] at hN3
        replace hnl := Lib.hid hnl
        replace hpr := Lib.hid hpr
        replace hqF := Lib.hid hqF
        gi_wp2_with (refine ⟨trivial, ?_⟩; gi_at_call 103; refine (CallsIn.inRound l (callsIn_wide.2 (hN3.out _))).mono ?_; rintro e w3 ⟨rfl, hb3⟩; have bR2 := bR1.step hb3; have r0 := bR2.cell 0; have f0 := bR2.frozen 0; simp only [List.getElem?_toArray, List.getElem?_cons_zero, List.getElem?_cons_succ] at r0)
        refine ⟨trivial, ?_⟩
        gi_wp2
        exact ⟨(keeps_below hb3).trans ((KeepsOthers.setCell _ _ _).from _), ⟨rfl, hqF.out⟩, bR2.put 0 _, (hG1.step hb3).far _ _ (by simp)⟩
      | true =>
        have hpr : prB g x.1.2.p = x.1.2.p.right.all (syB g) := by unfold prB; rw [hnl]; rfl
        rw [hnl] at hN3
        replace hnl := Lib.hid hnl
        cases hall : x.1.2.p.right.all (syB g) with
        | false =>
          have hqF : allQ (prB g) (pre ++ [x]) = false := by rw [hq.out, hpr, hall, Bool.and_false]
          have hC2 := Lib.hid (fun W hb hr => hC.out w.heap.size x.1.2.ra x.1.2.p.right.length x.1.2.rc x.1.2.p.right W hb hr hx6)
          rw [hall] at hC2
          replace hpr := Lib.hid hpr
          replace hqF := Lib.hid hqF
          replace hall := Lib.hid hall
          gi_wp2_with (first
            | (refine ⟨trivial, ?_⟩; gi_at_call 103; refine (CallsIn.inRound l (callsIn_wide.2 (hN3.out _))).mono ?_; rintro e w3 ⟨rfl, hb3⟩; have bX3 := (bX.step hb3).cell 1; have hG3 := hG1.step hb3; simp only [List.getElem?_toArray, List.getElem?_cons_zero, List.getElem?_cons_succ] at bX3)
            | (refine ⟨trivial, ?_⟩; gi_at_call 104; refine (CallsIn.inRound l (callsIn_wide.2 (hC2.out w3 hG3.1 (((hxr.below hG3.2.2)).mono hG3.2.2.size)))).mono ?_; rintro e w4 ⟨rfl, hb4⟩; have bR4 := (bR1.step hb3).step hb4; have r0 := bR4.cell 0; have f0 := bR4.frozen 0; simp only [List.getElem?_toArray, List.getElem?_cons_zero, List.getElem?_cons_succ] at r0))
          exact ⟨((keeps_below hb3).trans (keeps_below hb4)).trans ((KeepsOthers.setCell _ _ _).from _), ⟨rfl, hqF.out⟩, bR4.put 0 _, (hG3.step hb4).far _ _ (by simp)⟩
        | true =>
          have hqT : allQ (prB g) (pre ++ [x]) = true := by rw [hq.out, hp'.out, hpr, hall]; rfl
          have hC2 := Lib.hid (fun W hb hr => hC.out w.heap.size x.1.2.ra x.1.2.p.right.length x.1.2.rc x.1.2.p.right W hb hr hx6)
          rw [hall] at hC2
          replace hpr := Lib.hid hpr
          replace hqT := Lib.hid hqT
          replace hall := Lib.hid hall
          gi_wp2_with (first
            | (refine ⟨trivial, ?_⟩; gi_at_call 103; refine (CallsIn.inRound l (callsIn_wide.2 (hN3.out _))).mono ?_; rintro e w3 ⟨rfl, hb3⟩; have bX3 := (bX.step hb3).cell 1; have hG3 := hG1.step hb3; simp only [List.getElem?_toArray, List.getElem?_cons_zero, List.getElem?_cons_succ] at bX3)
            | (refine ⟨trivial, ?_⟩; gi_at_call 104; refine (CallsIn.inRound l (callsIn_wide.2 (hC2.out w3 hG3.1 (((hxr.below hG3.2.2)).mono hG3.2.2.size)))).mono ?_; rintro e w4 ⟨rfl, hb4⟩))
          exact ⟨(keeps_below hb3).trans (keeps_below hb4), (bStep hb3 hb4).mono hG1.2.2.size, hqT.out, (bR1.step hb3).step hb4, hG3.step hb4⟩
    case done =>
      rintro D ys W hD rfl ⟨hp, bR1, hG1⟩ hK
      have hR3 : R = 0 := by
        rw [hR2.out, if_neg]
        rw [allQ_all hvs3 (by rw [hvl.out]; exact hp)]; simp
      subst hR3
      have r0 := bR1.cell 0
      have f0 := bR1.frozen 0
      simp only [List.getElem?_toArray, List.getElem?_cons_zero, List.getElem?_cons_succ] at r0
      replace hp := Lib.hid hp
      gi_wp2
      have hK' := (KeepsOthers.setCell W ⟨w.heap.size + 1, 0, none⟩ (.int .i64 0)).same D _ hK rfl
      refine ⟨by simp, .inl ⟨_, _, rfl, run_takeDeferred hK', ?_⟩⟩
      have b2 := (bR1.put 0 (.int .i64 0)).grown (grownBy_putObj' _ D (.deferred none)) (by simp; omega)
      exact ⟨_, results_cell30 rfl _ _ _ _ rfl (b2.cell 0), rfl, (bSet hG1.2.2 _ _ (by simp <;> omega)).trans (belowK_b (w := w) (Nat.le_refl _) _ D _ _ (by omega) hK' rfl rfl)⟩
    case stop =>
      rintro D c pre W hD ⟨k, hk, rfl⟩ ⟨⟨rfl, hqF⟩, bR1, hG1⟩ hK
      have hR3 : R = 14 := by rw [hR2.out, if_pos (allQ_not hvs3 (by rw [hvl.out]; exact hk) hqF)]
      subst hR3
      replace hqF := Lib.hid hqF
      gi_wp2
      refine ⟨by simp, .inl ⟨_, _, rfl, run_takeDeferred hK, ?_⟩⟩
      have b2 := bR1.grown (grownBy_putObj' _ D (.deferred none)) (by simp; omega)
      exact ⟨_, results_cell30 rfl _ _ _ _ rfl (b2.cell 0), rfl, hG1.2.2.trans (belowK_b (w := w) (Nat.le_refl _) _ D _ _ (by omega) hK rfl rfl)⟩
end Go.Proofs.YtnnkfgekiaaehaaGreat

/- A drawn region that only reads, inside a round of a range over a function. -/
namespace Go
section
variable {F : Fence} {n : Nat} {P : Program} {ops : Array Oper} {md : Region.Mode} {C : World → Prop}

theorem Oper.wpIn_of_quietR {l : Nat} {o : Oper} {a : Act} {K : Act → Prop} {K' : Act → World → Prop} {Q' : Exit → Act → World → Prop} {w : World} (hro : F.round = some l) (hd : ∀ c, o.op ≠ .defer c) (hw : C w) (h : ∀ a w', C w' → K a → K' a w')
    (ha : o.askedIn F P a C) (hh : o.quietIn F n P a C K) : o.wpIn F n P a w K' Q' := by
  obtain ⟨v, h1, h2⟩ := hh
  have h3 := h1 w hw
  unfold Oper.quietAtIn at h3
  unfold Oper.wpIn
  refine ⟨ha w hw, ?_⟩
  rw [hro, Oper.semAt_some l _ _ hd]
  generalize (execOp a.eval o).run P w = r at *
  cases r with
  | ok x w' =>
    cases x <;> simp only [Oper.quietUponIn] at h3 <;> simp only [Oper.uponIn]
    case value u =>
      obtain ⟨e1, e2⟩ := h3
      rw [e1, e2]
      exact h _ _ hw h2
    case skip =>
      obtain ⟨e1, e2⟩ := h3
      rw [e1, ← e2]
      exact h _ _ hw h2
    case enter f args =>
      obtain ⟨e1, hd, hc⟩ := h3
      rw [e1]
      exact ⟨hd, hc.mono fun e w'' ⟨he, hw''⟩ => by subst he; exact h _ _ hw'' h2⟩
  | halt x w' => simp only [Oper.quietUponIn] at h3

/-- no operation of the region is a defer statement -/
def noDefer (ops : Array Oper) : Bool := ops.all fun o => match o.op with | .defer _ => false | _ => true

theorem noDefer_spec {ops : Array Oper} (h : noDefer ops = true) (i : Nat) (o : Oper) (hi : ops[i]? = some o) : ∀ c, o.op ≠ .defer c := by
  intro c he
  have := Array.all_eq_true'.1 h o (Array.mem_of_getElem? hi)
  simp [he] at this

theorem wpOpIn_of_qOpInR {l i : Nat} {a : Act} {K : Act → Prop} {K' : Act → World → Prop} {Q' : Exit → Act → World → Prop} {w : World} (hro : F.round = some l) (hnd : noDefer ops = true) (hC : C w) (h : ∀ a w', C w' → K a → K' a w')
    (hh : qOpIn F n P ops C i K a) : wpOpIn F n P ops Q' i K' a w := by
  unfold qOpIn at hh
  unfold wpOpIn
  split
  · rename_i ho; simp only [ho] at hh; exact h _ _ hC hh
  · rename_i o ho
    simp only [ho] at hh
    obtain ⟨ha, hh⟩ := hh
    split
    · rename_i hw; simp only [hw, if_true] at hh; exact Oper.wpIn_of_quietR hro (noDefer_spec hnd i o ho) hC h ha hh
    · rename_i hw; simp only [hw] at hh; exact ⟨ha w hC, h _ _ hC hh⟩

theorem wpAnyIn_of_quietR {l : Nat} {Q : Act → Prop} {Q' : Exit → Act → World → Prop} (hro : F.round = some l) (hnd : noDefer ops = true) (hQ : ∀ a w, C w → Q a → Q' .normal a w) : ∀ (fuel : Nat) (listed : Array Bool) (a : Act) (w : World), C w →
    wpAnyQIn F n P md ops C Q fuel listed a → wpAnyIn F n P md ops Q' fuel listed a w
  | 0, _, _, _, hw, h => ⟨h.1, hQ _ _ hw h.2⟩
  | fuel + 1, _, _, _, hw, h => ⟨fun h0 => hQ _ _ hw (h.1 h0), fun i hi => wpOpIn_of_qOpInR hro hnd hw (fun a' w' hw' => wpAnyIn_of_quietR hro hnd hQ fuel _ a' w' hw') (h.2 i hi)⟩

theorem wpIn_region_quietR {id l : Nat} {Q : Exit → Act → World → Prop} {a : Act} {w : World} (hro : F.round = some l) (hnd : noDefer ops = true) (hm : P.follows .mixedOrders = true) (hB : Region.lexB .any ops = true) (hC : C { w with drawn := w.drawn + 1 })
    (h : wpQuietIn F n P ops C (fun a' => ∀ w', C w' → Q .normal a' w') ops.toList a) : (Code.region id ops true).wpIn F n P Q a w := by
  simp only [Region.lexB, Bool.and_eq_true] at hB
  refine wpIn_region_any hm (wpAnyIn_of_quietR (Q := fun a' => ∀ w', C w' → Q .normal a' w') hro hnd (fun _ w' hw' h => h w' hw') _ _ _ _ hC ?_)
  have := wpAnyQIn_lex (F := F) (n := n) (C := C) (md := .any) hB.1 ops.toList 0 (Array.replicate ops.size false) a (by simp) (by simpa using hB.2) h
  simpa using this

theorem wpIn_region_quietR_lit {id l : Nat} {Q : Exit → Act → World → Prop} {a : Act} {w : World} {ol : List Oper} (hro : F.round = some l) (hnd : noDefer ol.toArray = true) (hm : P.follows .mixedOrders = true) (hB : Region.lexB .any ol.toArray = true)
    (h : wpQuietIn F n P ol.toArray (fun w' => ∃ n, w' = w.drewN n) (fun a' => ∀ w', (∃ n, w' = w.drewN n) → Q .normal a' w') ol a) : (Code.region id ol.toArray true).wpIn F n P Q a w :=
  wpIn_region_quietR (C := fun w' => ∃ n, w' = w.drewN n) hro hnd hm hB ⟨1, rfl⟩ (by simpa using h)
end
end Go

/- grammar.ordered. -/
namespace Go.Proofs.YtnnkfgekiaaehaaGreat
open Go.RowKit Go.Shelf
set_option linter.unusedVariables false
attribute [local go_sem] Oper.semAt_some

def OX (n : Nat) : Type := { x : Nat × PV // x.1 ≤ n }
def oxAt (vs : List PV) (k : Nat) : OX vs.length := ⟨(min k vs.length, vs.getD k default), Nat.min_le_right _ _⟩
def encO {n : Nat} (x : OX n) : Array Value := encP x.1
/-- this production is not before the one ahead of it -/
def oxOk (vs : List PV) (x : OX vs.length) : Bool := decide (x.1.1 = 0) || decide ((vs.getD (x.1.1 - 1) default).p.left ≤ x.1.2.p.left)
def oxAll (vs : List PV) (pre : List (OX vs.length)) : Bool := pre.all (oxOk vs)
theorem oxAll_snoc (vs : List PV) (pre : List (OX vs.length)) (x : OX vs.length) : oxAll vs (pre ++ [x]) = (oxAll vs pre && oxOk vs x) := by simp [oxAll]
def OrI (w : World) (g : Gr) (a : GA) (vs : List PV) (r : Int) (pre : List (OX vs.length)) (W : World) : Prop := oxAll vs pre = true ∧ Blk W (w.heap.size + 1) 29 #[.int .i64 r] ∧ GB w g a W
def OrX (w : World) (g : Gr) (a : GA) (vs : List PV) (r : Int) (c : Code) (pre : List (OX vs.length)) (W : World) : Prop := (c = .ret ∧ oxAll vs pre = false) ∧ Blk W (w.heap.size + 1) 29 #[.int .i64 r] ∧ GB w g a W
theorem orI_own {B : Nat} (w : World) (g : Gr) (a : GA) (vs : List PV) (r : Int) (h : w.heap.size + 1 < B) : OwnFrom B (OrI w g a vs r) := fun s X Y row hs hg hr =>
  ⟨hs.1, hs.2.1.grown hg (fun e => by have := (hr _ e.symm).1; omega), hs.2.2.grown hg (fun k hk => by have := (hr k hk).1; omega)⟩
theorem orX_own {B : Nat} (w : World) (g : Gr) (a : GA) (vs : List PV) (r : Int) (h : w.heap.size + 1 < B) (c : Code) : OwnFrom B (OrX w g a vs r c) := fun s X Y row hs hg hr =>
  ⟨hs.1, hs.2.1.grown hg (fun e => by have := (hr _ e.symm).1; omega), hs.2.2.grown hg (fun k hk => by have := (hr k hk).1; omega)⟩
theorem ox_ord (g : Gr) (vs : List PV) (hvs : vs.map PV.p = g.prods) (k : Nat) (hk : k ≤ vs.length) : (oxAll vs (uptoF (oxAt vs) k) = true ↔ ∀ (j : Nat) (p q : Pr), j + 1 < k → g.prods[j]? = some p → g.prods[j + 1]? = some q → p.left ≤ q.left) := by
  unfold oxAll
  rw [List.all_eq_true]
  constructor
  · intro h j p q hjk hp hq
    have hj1 : j + 1 < vs.length := by omega
    have := h (oxAt vs (j + 1)) (List.mem_map.2 ⟨j + 1, List.mem_range.2 hjk, rfl⟩)
    have hm : min (j + 1) vs.length = j + 1 := by omega
    simp only [oxOk, oxAt, hm] at this
    rw [← hvs, List.getElem?_map] at hp hq
    have hj0 : j < vs.length := by omega
    simp [hj0] at hp
    simp [hj1] at hq
    subst hp; subst hq
    simpa [List.getD_eq_getElem?_getD, hj0, hj1] using this
  · intro h y hy
    unfold uptoF at hy
    obtain ⟨i, hi, rfl⟩ := List.mem_map.1 hy
    have hi := List.mem_range.1 hi
    have hm : min i vs.length = i := by omega
    cases i with
    | zero => simp [oxOk, oxAt]
    | succ j =>
      have hj0 : j < vs.length := by omega
      have hj1 : j + 1 < vs.length := by omega
      have := h j vs[j].p vs[j + 1].p hi (by rw [← hvs]; simp [hj0]) (by rw [← hvs]; simp [hj1])
      simp only [oxOk, oxAt, hm]
      simpa [List.getD_eq_getElem?_getD, hj0, hj1] using this

set_option maxRecDepth 100000 in
set_option maxHeartbeats 8000000 in
theorem ordered_any (g : Gr) (a : GA) (w : World) (hg : GrAt w w.heap.size g a) (hs : Small g) :
    Calls Tryz.prog 66 #[gval g a] w fun e w' => e = .returned (.int .i64 (if ordB g = false then 9 else 0)) ∧ Below w.heap.size w w' := by
  obtain ⟨ta, tc, na, nc, pa, pc⟩ := a
  obtain ⟨R, hR⟩ : ∃ R : Int, R = if ordB g = false then 9 else 0 := ⟨_, rfl⟩
  rw [← hR]
  replace hR := Lib.hid hR
  have hs3 := hs.p
  clear hs
  obtain ⟨vs, hvs1, hvs2, hvs3⟩ := hg.prods.vals
  have hvl : vs.length = g.prods.length := by rw [← hvs1]; simp
  have hG0 := GB.start hg
  clear hg hvs3
  have hO := Lib.hid (ord_iff g)
  have hX := Lib.hid (ox_ord g vs hvs1)
  have hPr := Lib.hid (fun w => prods_any g ⟨ta, tc, na, nc, pa, pc⟩ w)
  have hVp := Lib.hid (show ∀ j, j < vs.length → ∃ p, g.prods[j]? = some p ∧ (vs.getD j default).p.left = p.left from fun j hj => ⟨vs[j].p, by rw [← hvs1]; simp [hj], by simp [List.getD_eq_getElem?_getD, hj]⟩)
  clear hvs1
  unfold gval at *
  unfold gcells at *
  dsimp only at *
  refine (callsIn_wide (n := 6)).1 ?_
  refine callsIn_of_wp_marks Tryz.func66 rfl trivial ?_ rfl
  simp only [Tryz.ntmps66, List.size_toArray, List.length_cons, List.length_nil, Nat.reduceAdd, Nat.reduceSub, Array.replicate_succ, Array.replicate_zero, List.push_toArray, List.append_toArray, List.nil_append, List.cons_append]
  replace hvl := Lib.hid hvl
  gi_wp2_with (refine ⟨trivial, ?_⟩; gi_at_call 100; refine (callsIn_wide.2 (hPr.out _)).mono ?_; rintro e w2 ⟨B, rfl, hB1, hB2, hB3⟩)
  have bR : Blk w2 (w.heap.size + 1) 29 #[.int .i64 0] := (Blk.newAt _ _ _ _ (by simp)).step hB3
  have hG := (hG0.alloc _).step hB3
  have hw2 := bR.lt
  clear hG0
  refine wpIn_rangeFunc_ownH (F := Fence.wide) rfl (by omega) (gf := 160) (lb := #[.pointer (some ⟨B, 0, none⟩)]) rfl trivial (enters_of Tryz.func160 (by kernel_rfl) rfl)
    (allg_stops (oxAt vs) encO 5 (by omega) B w.heap.size pa g.prods.length pc vs (by omega) (fun k hk => by have := hvl.out; show encP (min k vs.length, vs.getD k default) = _; rw [show min k vs.length = k by omega]) w2 hB2 hG.2.2.size hB1 (hvs2.below hG.2.2)) belowK_t (belowK_b hG.2.2.size) (Below.refl _ _) (fun _ => rfl)
    (OrI w g ⟨ta, tc, na, nc, pa, pc⟩ vs 0) (OrX w g ⟨ta, tc, na, nc, pa, pc⟩ vs 9) (orI_own w g _ _ 0 hw2) (orX_own w g _ _ 9 hw2)
    ⟨rfl, bR, hG⟩
    (fun x a' W => ∃ Bx, w.heap.size + 1 < Bx ∧ Blk W Bx 47 #[.int .i64 x.1.2.p.left, .slice x.1.2.ra x.1.2.p.right.length x.1.2.rc] ∧ ∃ (u0 u5 u6 u7 u8 u9 u10 u11 u12 u13 u14 u15 u16 u17 u18 u19 u20 u21 u22 : Value), a' = { tmps := #[u0, .pointer (some ⟨w.heap.size, 0, none⟩), .pointer (some ⟨w.heap.size + 1, 0, none⟩), .int .i64 (x.1.1 : Int), .pointer (some ⟨Bx, 0, none⟩), u5, u6, u7, u8, u9, u10, u11, u12, u13, u14, u15, u16, u17, u18, u19, u20, u21, u22], defers := [] })
    (fun x a' _ X Y row hs hg hr => by obtain ⟨Bx, h1, h2, h3⟩ := hs; exact ⟨Bx, h1, blk_own Bx 47 (fun (_ : Unit) => #[.int .i64 x.1.2.p.left, .slice x.1.2.ra x.1.2.p.right.length x.1.2.rc]) () X Y row h2 hg (fun r e => (hr r e).2), h3⟩)
    ?assign ?body ?done ?stop
  case assign =>
    rintro l pre x W K ⟨hp, bR1, hG1⟩ hK
    dsimp only [encO, encP]
    gi_wp2
    exact hK _ _ ((KeepsOthers.alloc _ _).from _) ((Below.refl _ W).alloc hG1.2.2.size _) ⟨hp, bR1.alloc _, hG1.alloc _⟩ ⟨W.heap.size, by have := bR1.lt; omega, Blk.new W 47 _, _, _, _, _, _, _, _, _, _, _, _, _, _, _, _, _, _, _, _, rfl⟩
  case body =>
    rintro l pre x a' W hl ⟨r, hr⟩ ⟨hp, bR1, hG1⟩ ⟨Bx, hBx, bX, u0, u5, u6, u7, u8, u9, u10, u11, u12, u13, u14, u15, u16, u17, u18, u19, u20, u21, u22, rfl⟩ hlt
    have p0 := bX.cell 0
    have r0 := bR1.cell 0
    have f0 := bR1.frozen 0
    simp only [List.getElem?_toArray, List.getElem?_cons_zero, List.getElem?_cons_succ] at p0 r0
    obtain ⟨c0, c1, c2, c3, c4, c5⟩ := hG1.cells
    dsimp only at c1 c3 c5
    have hq := Lib.hid (oxAll_snoc vs pre x)
    have hp' := Lib.hid hp
    clear hp
    obtain ⟨⟨i, y⟩, hix⟩ := x
    dsimp only at hix p0 bX ⊢
    cases i with
    | zero =>
      have hqT : oxAll vs (pre ++ [⟨(0, y), hix⟩]) = true := by rw [hq.out, hp'.out]; simp [oxOk]
      replace hqT := Lib.hid hqT
      gi_wp2
      refine wpIn_region_quietR_lit rfl (by kernel_rfl) (by kernel_rfl) (by kernel_rfl) ?_
      repeat (gi_big_quiet_step (fail))
      refine wpQuietIn_nil ?_
      intro _ hw'
      obtain ⟨nq, hw''⟩ := hw'
      subst hw''
      gi_wp2
      exact ⟨keeps_below (bDrwN' W _), (bDrwN' W _).mono hG1.2.2.size, hqT.out, bR1.drewN _, hG1.drewN _⟩
    | succ j =>
      have hjn : j < g.prods.length := by have := hvl.out; omega
      obtain ⟨p, hpj, hpl⟩ := hVp.out j (by omega)
      obtain ⟨b, off, hA, hbt, z0, RA, rc, z1, hz2, hz3, hz4⟩ := hG1.2.1.prods.get hpj
      dsimp only at hA
      subst hA
      replace hpl := Lib.hid hpl
      replace hpj := Lib.hid hpj
      have zI : ((j + 1 : Nat) : Int) - 1 = (j : Int) := by omega
      have zw : IntKind.i64.wrap (j : Int) = j := IntWalk.i64_in _ (by omega)
      have z0' : (0 : Int) < ((j + 1 : Nat) : Int) := by omega
      have z2 : (0 : Int) ≤ j := by omega
      have z5 : (j : Int) < g.prods.length := by omega
      generalize p.left = pl at *
      generalize hyl : y.p.left = yl at *
      by_cases hle : yl < pl
      · have hqF : oxAll vs (pre ++ [⟨(j + 1, y), hix⟩]) = false := by
          rw [hq.out, hp'.out, Bool.true_and]
          simp only [oxOk]
          rw [show j + 1 - 1 = j from rfl, hpl.out, hyl]
          simp; omega
        replace hqF := Lib.hid hqF
        replace hyl := Lib.hid hyl
        gi_wp2
        refine wpIn_region_quietR_lit rfl (by kernel_rfl) (by kernel_rfl) (by kernel_rfl) ?_
        repeat (gi_big_quiet_step (fail))
        refine wpQuietIn_nil ?_
        intro _ hw'
        obtain ⟨nq, hw''⟩ := hw'
        subst hw''
        gi_wp2
        exact ⟨(keeps_below (bDrwN' W _)).trans ((KeepsOthers.setCell _ _ _).from _), ⟨rfl, hqF.out⟩, (bR1.drewN _).put 0 _, (hG1.drewN _).far _ _ (by simp)⟩
      · have hqT : oxAll vs (pre ++ [⟨(j + 1, y), hix⟩]) = true := by
          rw [hq.out, hp'.out, Bool.true_and]
          simp only [oxOk]
          rw [show j + 1 - 1 = j from rfl, hpl.out, hyl]
          simp; omega
        replace hqT := Lib.hid hqT
        replace hyl := Lib.hid hyl
        gi_wp2
        refine wpIn_region_quietR_lit rfl (by kernel_rfl) (by kernel_rfl) (by kernel_rfl) ?_
        repeat (gi_big_quiet_step (fail))
        refine wpQuietIn_nil ?_
        intro _ hw'
        obtain ⟨nq, hw''⟩ := hw'
        subst hw''
        gi_wp2
        exact ⟨keeps_below (bDrwN' W _), (bDrwN' W _).mono hG1.2.2.size, hqT.out, bR1.drewN _, hG1.drewN _⟩
  case done =>
    rintro D ys W hD rfl ⟨hp, bR1, hG1⟩ hK
    have hoT : ordB g = true := by
      rw [hO.out]
      intro j p q hp1 hq1
      have := (List.getElem?_eq_some_iff.1 hq1).1
      exact (hX.out g.prods.length (by have := hvl.out; omega)).1 hp j p q (by omega) hp1 hq1
    have hR3 : R = 0 := by rw [hR.out, if_neg (by rw [hoT]; simp)]
    subst hR3
    have r0 := bR1.cell 0
    have f0 := bR1.frozen 0
    simp only [List.getElem?_toArray, List.getElem?_cons_zero, List.getElem?_cons_succ] at r0
    replace hp := Lib.hid hp
    replace hoT := Lib.hid hoT
    gi_wp2
    have hK' := (KeepsOthers.setCell W ⟨w.heap.size + 1, 0, none⟩ (.int .i64 0)).same D _ hK rfl
    refine ⟨by simp, .inl ⟨_, _, rfl, run_takeDeferred hK', ?_⟩⟩
    have b2 := (bR1.put 0 (.int .i64 0)).grown (grownBy_putObj' _ D (.deferred none)) (by simp; omega)
    exact ⟨_, results_cell30 rfl _ _ _ _ rfl (b2.cell 0), rfl, (bSet hG1.2.2 _ _ (by simp <;> omega)).trans (belowK_b (w := w) (Nat.le_refl _) _ D _ _ (by omega) hK' rfl rfl)⟩
  case stop =>
    rintro D c pre W hD ⟨k, hk, rfl⟩ ⟨⟨rfl, hqF⟩, bR1, hG1⟩ hK
    have hoF : ordB g = false := by
      cases ho : ordB g with
      | false => rfl
      | true =>
        have := (hX.out k (by have := hvl.out; omega)).2 (fun j p q _ h1 h2 => (hO.out.1 ho) j p q h1 h2)
        rw [this] at hqF; cases hqF
    have hR3 : R = 9 := by rw [hR.out, if_pos hoF]
    subst hR3
    replace hqF := Lib.hid hqF
    replace hoF := Lib.hid hoF
    gi_wp2
    refine ⟨by simp, .inl ⟨_, _, rfl, run_takeDeferred hK, ?_⟩⟩
    have b2 := bR1.grown (grownBy_putObj' _ D (.deferred none)) (by simp; omega)
    exact ⟨_, results_cell30 rfl _ _ _ _ rfl (b2.cell 0), rfl, hG1.2.2.trans (belowK_b (w := w) (Nat.le_refl _) _ D _ _ (by omega) hK rfl rfl)⟩
end Go.Proofs.YtnnkfgekiaaehaaGreat

/- grammar.Check. -/
namespace Go.Proofs.YtnnkfgekiaaehaaGreat
open Go.ChangeShapes Go.WideShapes Go.ChangeAt Go.RowKit
set_option linter.unusedVariables false

/-- the six questions, in their order -/
def stepE (g : Gr) : Nat → Int
  | 0 => if fullB g = false then 6 else 0
  | 1 => if shortB g = true then 5 else if nameB g = false then 12 else 0
  | 2 => if ((g.toks ++ [g.sep]) ++ g.names).Nodup then 0 else 8
  | 3 => if symB g = false then 14 else 0
  | 4 => if ordB g = false then 9 else 0
  | _ => if compB g = false then 7 else 0

theorem small_not_cap (s : ByteArray) (h1 : smallB s = true) (h2 : capB s = true) : False := by
  unfold smallB at h1; unfold capB at h2
  simp only [Bool.and_eq_true, decide_eq_true_eq] at h1 h2
  omega

theorem diff_of_name (g : Gr) (h : nameB g = true) : (((g.toks ++ [g.sep]) ++ g.names).Nodup ↔ diffB g = true) := by
  unfold nameB at h
  unfold diffB
  rw [Bool.and_eq_true, List.all_eq_true, List.all_eq_true] at h
  rw [List.nodup_append]
  simp only [Bool.and_eq_true, decide_eq_true_eq]
  constructor
  · intro hh; exact ⟨hh.1, hh.2.1⟩
  · intro hh; exact ⟨hh.1, hh.2, fun a ha b hb e => small_not_cap a (h.1 a ha) (by rw [e]; exact h.2 b hb)⟩

theorem gchk_step (g : Gr) (hk : ¬ (g.k < 1 ∨ 4 < g.k)) (j : Nat) (hj : j < 6) (h0 : ∀ i, i < j → stepE g i = 0) (h1 : stepE g j ≠ 0) : gchk g = stepE g j := by
  have a0 := fun h => h0 0 h
  have a1 := fun h => h0 1 h
  have a2 := fun h => h0 2 h
  have a3 := fun h => h0 3 h
  have a4 := fun h => h0 4 h
  unfold gchk
  rw [if_neg hk]
  have hd := diff_of_name g
  have e4 : nameB g = true → (diffB g = false ↔ ¬ ((g.toks ++ [g.sep]) ++ g.names).Nodup) := fun h => by rw [hd h]; simp
  simp only [List.append_assoc, List.cons_append, List.nil_append] at e4
  clear hd
  rcases (show j = 0 ∨ j = 1 ∨ j = 2 ∨ j = 3 ∨ j = 4 ∨ j = 5 by omega) with rfl | rfl | rfl | rfl | rfl | rfl <;>
    simp [stepE] at a0 a1 a2 a3 a4 h1 ⊢ <;> (cases hsh : shortB g <;> cases hnm : nameB g <;> simp_all)

theorem gchk_last (g : Gr) (hk : ¬ (g.k < 1 ∨ 4 < g.k)) (h0 : ∀ i, i < 6 → stepE g i = 0) : gchk g = 0 := by
  have a0 := h0 0 (by omega)
  have a1 := h0 1 (by omega)
  have a2 := h0 2 (by omega)
  have a3 := h0 3 (by omega)
  have a4 := h0 4 (by omega)
  have a5 := h0 5 (by omega)
  unfold gchk
  rw [if_neg hk]
  have hd := diff_of_name g
  have e4 : nameB g = true → (diffB g = false ↔ ¬ ((g.toks ++ [g.sep]) ++ g.names).Nodup) := fun h => by rw [hd h]; simp
  simp only [List.append_assoc, List.cons_append, List.nil_append] at e4
  clear hd
  simp [stepE] at a0 a1 a2 a3 a4 a5 ⊢
  cases hsh : shortB g <;> cases hnm : nameB g <;> simp_all

theorem zeros_succ {f : Nat → Int} {n : Nat} (h : ∀ i, i < n → f i = 0) (h2 : f n = 0) : ∀ i, i < n + 1 → f i = 0 := fun i hi => by
  rcases Nat.lt_succ_iff_lt_or_eq.1 hi with h3 | rfl
  · exact h i h3
  · exact h2

def chkFuns : Array Value := #[.func (.func 62) #[] #[], .func (.func 63) #[] #[], .func (.func 64) #[] #[], .func (.func 65) #[] #[], .func (.func 66) #[] #[], .func (.func 67) #[] #[]]

set_option maxHeartbeats 4000000 in
theorem gcheck_any (g : Gr) (a : GA) (w : World) (hg : GrAt w w.heap.size g a) (hs : Small g) : Calls Tryz.prog 33 #[gval g a] w fun e w' => e = .returned (.int .i64 (gchk g)) ∧ Below w.heap.size w w' := by
  obtain ⟨ta, tc, na, nc, pa, pc⟩ := a
  obtain ⟨R, hR⟩ : ∃ R : Int, R = gchk g := ⟨_, rfl⟩
  rw [← hR]
  replace hR := Lib.hid hR
  have hG0 := GB.start hg
  have hS := Lib.hid (gchk_step g)
  have hL := Lib.hid (gchk_last g)
  have hA := Lib.hid (fun W (h : GrAt W W.heap.size g ⟨ta, tc, na, nc, pa, pc⟩) => show Calls Tryz.prog 62 #[gval g ⟨ta, tc, na, nc, pa, pc⟩] W fun e w' => e = .returned (.int .i64 (stepE g 0)) ∧ Below W.heap.size W w' from many_any g ⟨ta, tc, na, nc, pa, pc⟩ W h hs)
  have hB := Lib.hid (fun W (h : GrAt W W.heap.size g ⟨ta, tc, na, nc, pa, pc⟩) => show Calls Tryz.prog 63 #[gval g ⟨ta, tc, na, nc, pa, pc⟩] W fun e w' => e = .returned (.int .i64 (stepE g 1)) ∧ Below W.heap.size W w' from named_any g ⟨ta, tc, na, nc, pa, pc⟩ W h hs)
  have hC := Lib.hid (fun W (h : GrAt W W.heap.size g ⟨ta, tc, na, nc, pa, pc⟩) (h1 : stepE g 1 = 0) => show Calls Tryz.prog 64 #[gval g ⟨ta, tc, na, nc, pa, pc⟩] W fun e w' => e = .returned (.int .i64 (stepE g 2)) ∧ Below W.heap.size W w' from different_any g ⟨ta, tc, na, nc, pa, pc⟩ W h hs (fun h0 => by simp [stepE, shortB, h0] at h1))
  have hD := Lib.hid (fun W (h : GrAt W W.heap.size g ⟨ta, tc, na, nc, pa, pc⟩) => show Calls Tryz.prog 65 #[gval g ⟨ta, tc, na, nc, pa, pc⟩] W fun e w' => e = .returned (.int .i64 (stepE g 3)) ∧ Below W.heap.size W w' from symbols_any g ⟨ta, tc, na, nc, pa, pc⟩ W h hs)
  have hE := Lib.hid (fun W (h : GrAt W W.heap.size g ⟨ta, tc, na, nc, pa, pc⟩) => show Calls Tryz.prog 66 #[gval g ⟨ta, tc, na, nc, pa, pc⟩] W fun e w' => e = .returned (.int .i64 (stepE g 4)) ∧ Below W.heap.size W w' from ordered_any g ⟨ta, tc, na, nc, pa, pc⟩ W h hs)
  have hF := Lib.hid (fun W (h : GrAt W W.heap.size g ⟨ta, tc, na, nc, pa, pc⟩) => show Calls Tryz.prog 67 #[gval g ⟨ta, tc, na, nc, pa, pc⟩] W fun e w' => e = .returned (.int .i64 (stepE g 5)) ∧ Below W.heap.size W w' from complete_any g ⟨ta, tc, na, nc, pa, pc⟩ W h hs)
  clear hg hs
  unfold gval at *
  unfold gcells at hA hB hC hD hE hF hG0 ⊢
  dsimp only at *
  go_enter Tryz.func33, Tryz.ntmps33
  go_wp2_with fail
  go_step3
  go_upto_region 1 with (fail)
  obtain ⟨W, hW⟩ : ∃ W, W = w.alloc (.cells #[.int .i64 g.k, .slice ta g.toks.length tc, .string g.sep, .slice na g.names.length nc, .int .i64 g.start, .slice pa g.prods.length pc] 25) := ⟨_, rfl⟩
  rw [← hW] at hG0 ⊢
  clear hW
  obtain ⟨c0, c1, c2, c3, c4, c5⟩ := hG0.cells
  dsimp only at c1 c3 c5
  by_cases k1 : g.k < 1
  · have hR1 : R = 2 := hR.out.trans (gchk_1 (.inl k1))
    subst hR1
    go_wp2_with fail
    try rw [Exit.noGoto_ret]
    go_ret
    exact ⟨rfl, hG0.2.2⟩
  by_cases k2 : 4 < g.k
  · have hR1 : R = 2 := hR.out.trans (gchk_1 (.inr k2))
    subst hR1
    go_wp2_with fail
    try rw [Exit.noGoto_ret]
    go_ret
    exact ⟨rfl, hG0.2.2⟩
  have hk : ¬ (g.k < 1 ∨ 4 < g.k) := by omega
  replace hk := Lib.hid hk
  obtain ⟨B, hB0⟩ : ∃ B, B = W.heap.size := ⟨_, rfl⟩
  have hbF : Blk (W.alloc (.cells chkFuns 64)) B 64 chkFuns := Blk.newAt _ _ _ _ hB0
  have hG := hG0.alloc (.cells chkFuns 64)
  have hBw : w.heap.size < B := by rw [hB0]; exact hG0.lt
  clear hG0
  unfold chkFuns at hbF hG
  replace hB0 := Lib.hid hB0
  go_wp2_with fail
  go_step3
  go_wp2_with fail
  rw [← hB0.out]
  clear hB0 c0 c1 c2 c3 c4 c5
  go_loopg [15, 2] 6 (fun gk s15 s2 wr => ∃ j : Nat, s15 = .int .i64 j ∧ s2 = .int .i64 0 ∧ j + gk = 6 ∧ GB w g ⟨ta, tc, na, nc, pa, pc⟩ wr ∧ Blk wr B 64 #[.func (.func 62) #[] #[], .func (.func 63) #[] #[], .func (.func 64) #[] #[], .func (.func 65) #[] #[], .func (.func 66) #[] #[], .func (.func 67) #[] #[]] ∧ ∀ i, i < j → stepE g i = 0)
  case atStart => exact ⟨0, rfl, rfl, rfl, hG, hbF, by intro i h; omega⟩
  case round =>
    clear hG hbF
    obtain ⟨j, rfl, rfl, hj, hG, hbF, h0⟩ := hrel
    replace h0 := Lib.hid h0
    have cB0 := hbF.cell 0
    have cB1 := hbF.cell 1
    have cB2 := hbF.cell 2
    have cB3 := hbF.cell 3
    have cB4 := hbF.cell 4
    have cB5 := hbF.cell 5
    simp only [List.getElem?_toArray, List.getElem?_cons_zero, List.getElem?_cons_succ] at cB0 cB1 cB2 cB3 cB4 cB5
    obtain ⟨c0, c1, c2, c3, c4, c5⟩ := hG.cells
    dsimp only at c1 c3 c5
    by_cases hj6 : j = 6
    · subst hj6
      have hR3 : R = 0 := hR.out.trans (hL.out hk.out h0.out)
      subst hR3
      go_wp2_with fail
      try rw [Exit.noGoto_ret]
      go_ret
      exact ⟨rfl, hG.2.2⟩
    rcases (show j = 0 ∨ j = 1 ∨ j = 2 ∨ j = 3 ∨ j = 4 ∨ j = 5 by omega) with rfl | rfl | rfl | rfl | rfl | rfl
    · obtain ⟨E, hE0⟩ : ∃ E, E = stepE g 0 := ⟨_, rfl⟩
      have hc := Lib.hid (hA.out wr (hG.2.1.mono hG.2.2.size))
      rw [← hE0] at hc
      replace hE0 := Lib.hid hE0
      by_cases hz : E = 0
      · have hzz := Lib.hid (hE0.out.symm.trans hz)
        subst hz
        go_wp2_with (go_at_call 62; refine hc.out.mono ?_; rintro e w3 ⟨rfl, hb3⟩)
        go_roundg (6 - (0 + 1))
        case measure => omega
        case rel => exact ⟨0 + 1, by go_num, rfl, by omega, hG.step hb3, hbF.step hb3, zeros_succ h0.out hzz.out⟩
      · have hR3 : R = E := by rw [hR.out, hS.out hk.out 0 (by omega) h0.out (by rw [← hE0.out]; exact hz), ← hE0.out]
        subst hR3
        have hzb : (R == 0) = false := by simpa using hz
        go_wp2_with (go_at_call 62; refine hc.out.mono ?_; rintro e w3 ⟨rfl, hb3⟩)
        try rw [Exit.noGoto_ret]
        go_ret
        exact ⟨rfl, (hG.step hb3).2.2⟩
    · obtain ⟨E, hE0⟩ : ∃ E, E = stepE g 1 := ⟨_, rfl⟩
      have hc := Lib.hid (hB.out wr (hG.2.1.mono hG.2.2.size))
      rw [← hE0] at hc
      replace hE0 := Lib.hid hE0
      by_cases hz : E = 0
      · have hzz := Lib.hid (hE0.out.symm.trans hz)
        subst hz
        go_wp2_with (go_at_call 63; refine hc.out.mono ?_; rintro e w3 ⟨rfl, hb3⟩)
        go_roundg (6 - (1 + 1))
        case measure => omega
        case rel => exact ⟨1 + 1, by go_num, rfl, by omega, hG.step hb3, hbF.step hb3, zeros_succ h0.out hzz.out⟩
      · have hR3 : R = E := by rw [hR.out, hS.out hk.out 1 (by omega) h0.out (by rw [← hE0.out]; exact hz), ← hE0.out]
        subst hR3
        have hzb : (R == 0) = false := by simpa using hz
        go_wp2_with (go_at_call 63; refine hc.out.mono ?_; rintro e w3 ⟨rfl, hb3⟩)
        try rw [Exit.noGoto_ret]
        go_ret
        exact ⟨rfl, (hG.step hb3).2.2⟩
    · obtain ⟨E, hE0⟩ : ∃ E, E = stepE g 2 := ⟨_, rfl⟩
      have hc := Lib.hid (hC.out wr (hG.2.1.mono hG.2.2.size) (h0.out 1 (by omega)))
      rw [← hE0] at hc
      replace hE0 := Lib.hid hE0
      by_cases hz : E = 0
      · have hzz := Lib.hid (hE0.out.symm.trans hz)
        subst hz
        go_wp2_with (go_at_call 64; refine hc.out.mono ?_; rintro e w3 ⟨rfl, hb3⟩)
        go_roundg (6 - (2 + 1))
        case measure => omega
        case rel => exact ⟨2 + 1, by go_num, rfl, by omega, hG.step hb3, hbF.step hb3, zeros_succ h0.out hzz.out⟩
      · have hR3 : R = E := by rw [hR.out, hS.out hk.out 2 (by omega) h0.out (by rw [← hE0.out]; exact hz), ← hE0.out]
        subst hR3
        have hzb : (R == 0) = false := by simpa using hz
        go_wp2_with (go_at_call 64; refine hc.out.mono ?_; rintro e w3 ⟨rfl, hb3⟩)
        try rw [Exit.noGoto_ret]
        go_ret
        exact ⟨rfl, (hG.step hb3).2.2⟩
    · obtain ⟨E, hE0⟩ : ∃ E, E = stepE g 3 := ⟨_, rfl⟩
      have hc := Lib.hid (hD.out wr (hG.2.1.mono hG.2.2.size))
      rw [← hE0] at hc
      replace hE0 := Lib.hid hE0
      by_cases hz : E = 0
      · have hzz := Lib.hid (hE0.out.symm.trans hz)
        subst hz
        go_wp2_with (go_at_call 65; refine hc.out.mono ?_; rintro e w3 ⟨rfl, hb3⟩)
        go_roundg (6 - (3 + 1))
        case measure => omega
        case rel => exact ⟨3 + 1, by go_num, rfl, by omega, hG.step hb3, hbF.step hb3, zeros_succ h0.out hzz.out⟩
      · have hR3 : R = E := by rw [hR.out, hS.out hk.out 3 (by omega) h0.out (by rw [← hE0.out]; exact hz), ← hE0.out]
        subst hR3
        have hzb : (R == 0) = false := by simpa using hz
        go_wp2_with (go_at_call 65; refine hc.out.mono ?_; rintro e w3 ⟨rfl, hb3⟩)
        try rw [Exit.noGoto_ret]
        go_ret
        exact ⟨rfl, (hG.step hb3).2.2⟩
    · obtain ⟨E, hE0⟩ : ∃ E, E = stepE g 4 := ⟨_, rfl⟩
      have hc := Lib.hid (hE.out wr (hG.2.1.mono hG.2.2.size))
      rw [← hE0] at hc
      replace hE0 := Lib.hid hE0
      by_cases hz : E = 0
      · have hzz := Lib.hid (hE0.out.symm.trans hz)
        subst hz
        go_wp2_with (go_at_call 66; refine hc.out.mono ?_; rintro e w3 ⟨rfl, hb3⟩)
        go_roundg (6 - (4 + 1))
        case measure => omega
        case rel => exact ⟨4 + 1, by go_num, rfl, by omega, hG.step hb3, hbF.step hb3, zeros_succ h0.out hzz.out⟩
      · have hR3 : R = E := by rw [hR.out, hS.out hk.out 4 (by omega) h0.out (by rw [← hE0.out]; exact hz), ← hE0.out]
        subst hR3
        have hzb : (R == 0) = false := by simpa using hz
        go_wp2_with (go_at_call 66; refine hc.out.mono ?_; rintro e w3 ⟨rfl, hb3⟩)
        try rw [Exit.noGoto_ret]
        go_ret
        exact ⟨rfl, (hG.step hb3).2.2⟩
    · obtain ⟨E, hE0⟩ : ∃ E, E = stepE g 5 := ⟨_, rfl⟩
      have hc := Lib.hid (hF.out wr (hG.2.1.mono hG.2.2.size))
      rw [← hE0] at hc
      replace hE0 := Lib.hid hE0
      by_cases hz : E = 0
      · have hzz := Lib.hid (hE0.out.symm.trans hz)
        subst hz
        go_wp2_with (go_at_call 67; refine hc.out.mono ?_; rintro e w3 ⟨rfl, hb3⟩)
        go_roundg (6 - (5 + 1))
        case measure => omega
        case rel => exact ⟨5 + 1, by go_num, rfl, by omega, hG.step hb3, hbF.step hb3, zeros_succ h0.out hzz.out⟩
      · have hR3 : R = E := by rw [hR.out, hS.out hk.out 5 (by omega) h0.out (by rw [← hE0.out]; exact hz), ← hE0.out]
        subst hR3
        have hzb : (R == 0) = false := by simpa using hz
        go_wp2_with (go_at_call 67; refine hc.out.mono ?_; rintro e w3 ⟨rfl, hb3⟩)
        try rw [Exit.noGoto_ret]
        go_ret
        exact ⟨rfl, (hG.step hb3).2.2⟩
end Go.Proofs.YtnnkfgekiaaehaaGreat

/- grammar.Nonterm, follow.nonterm. -/
namespace Go.Proofs.YtnnkfgekiaaehaaGreat
open Go.ChangeShapes Go.WideShapes Go.ChangeAt Go.RowKit
set_option linter.unusedVariables false

/-- the error of a nonterminal -/
def nonE (g : Gr) (s : Int) : Int := if gchk g = 0 then (if ntB g s then 0 else 14) else gchk g
def nonV (g : Gr) (s : Int) : Int := if nonE g s = 0 then s - 16 else 0

set_option maxHeartbeats 2000000 in
theorem nonterm42_any (g : Gr) (a : GA) (s : Int) (w : World) (hg : GrAt w w.heap.size g a) (hs : Small g) (h64 : -1000000 ≤ s) (h64' : s ≤ 1000000) :
    Calls Tryz.prog 96 #[gval g a, .int .i64 s] w fun e w' => e = .returned (.tuple #[.int .i64 (nonV g s), .int .i64 (nonE g s)]) ∧ Below w.heap.size w w' := by
  obtain ⟨ta, tc, na, nc, pa, pc⟩ := a
  obtain ⟨V, hV⟩ : ∃ V : Int, V = nonV g s := ⟨_, rfl⟩
  obtain ⟨E, hE⟩ : ∃ E : Int, E = nonE g s := ⟨_, rfl⟩
  rw [← hV, ← hE]
  have hV' := hV
  have hE' := hE
  rw [nonV, ← hE] at hV
  rw [nonE] at hE
  have hG0 := GB.start hg
  have hC := Lib.hid (fun W (h : GrAt W W.heap.size g ⟨ta, tc, na, nc, pa, pc⟩) => gcheck_any g ⟨ta, tc, na, nc, pa, pc⟩ W h hs)
  have hN := Lib.hid (fun W => nonterm_any g ⟨ta, tc, na, nc, pa, pc⟩ s W (by have := hs.n; omega))
  clear hg hs hV' hE'
  obtain ⟨C, hCv⟩ : ∃ C : Int, C = gchk g := ⟨_, rfl⟩
  rw [← hCv] at hE hC
  clear hCv
  unfold gval gcells at *
  dsimp only at *
  go_enter Tryz.func96, Tryz.ntmps96
  go_upto_region 1 with (fail)
  obtain ⟨W, hW⟩ : ∃ W, W = w.alloc (.cells #[.int .i64 g.k, .slice ta g.toks.length tc, .string g.sep, .slice na g.names.length nc, .int .i64 g.start, .slice pa g.prods.length pc] 25) := ⟨_, rfl⟩
  rw [← hW] at hG0 ⊢
  clear hW
  obtain ⟨c0, c1, c2, c3, c4, c5⟩ := hG0.cells
  dsimp only at c1 c3 c5
  by_cases hz : C = 0
  · subst hz
    rw [if_pos rfl] at hE
    cases hn : ntB g s with
    | true =>
      rw [hn] at hN
      rw [hn, if_pos rfl] at hE
      subst hE
      rw [if_pos rfl] at hV
      subst hV
      replace hn := Lib.hid hn
      go_wp2_with (first
        | (go_at_call 33; refine (hC.out _ (hG0.2.1.mono hG0.2.2.size)).mono ?_; rintro e w1 ⟨rfl, hb1⟩; have hG1 := hG0.step hb1; obtain ⟨d0, d1, d2, d3, d4, d5⟩ := hG1.cells; dsimp only at d1 d3 d5)
        | (go_at_call 103; refine (hN.out _).mono ?_; rintro e w2 ⟨rfl, hb2⟩))
      go_ret2
      exact ⟨rfl, (hG1.step hb2).2.2⟩
    | false =>
      rw [hn] at hN
      rw [hn, if_neg (by simp)] at hE
      subst hE
      rw [if_neg (by simp)] at hV
      subst hV
      replace hn := Lib.hid hn
      go_wp2_with (first
        | (go_at_call 33; refine (hC.out _ (hG0.2.1.mono hG0.2.2.size)).mono ?_; rintro e w1 ⟨rfl, hb1⟩; have hG1 := hG0.step hb1; obtain ⟨d0, d1, d2, d3, d4, d5⟩ := hG1.cells; dsimp only at d1 d3 d5)
        | (go_at_call 103; refine (hN.out _).mono ?_; rintro e w2 ⟨rfl, hb2⟩))
      go_ret2
      exact ⟨rfl, (hG1.step hb2).2.2⟩
  · rw [if_neg hz] at hE
    subst hE
    rw [if_neg hz] at hV
    subst hV
    have hzb : (E == 0) = false := by simpa using hz
    have hzn : (E != 0) = true := by simpa using hz
    go_wp2_with (go_at_call 33; refine (hC.out _ (hG0.2.1.mono hG0.2.2.size)).mono ?_; rintro e w1 ⟨rfl, hb1⟩)
    go_ret2
    exact ⟨rfl, (hG0.step hb1).2.2⟩

set_option maxHeartbeats 2000000 in
theorem nonterm24_any (g : Gr) (a : GA) (s : Int) (w : World) (hg : GrAt w w.heap.size g a) (hs : Small g) (h64 : -1000000 ≤ s) (h64' : s ≤ 1000000) :
    Calls Tryz.prog 48 #[gval g a, .int .i64 s] w fun e w' => e = .returned (.tuple #[.int .i64 (nonV g s), .int .i64 (nonE g s)]) ∧ Below w.heap.size w w' := by
  obtain ⟨ta, tc, na, nc, pa, pc⟩ := a
  obtain ⟨V, hV⟩ : ∃ V : Int, V = nonV g s := ⟨_, rfl⟩
  obtain ⟨E, hE⟩ : ∃ E : Int, E = nonE g s := ⟨_, rfl⟩
  have hN := Lib.hid (fun W (h : GrAt W W.heap.size g ⟨ta, tc, na, nc, pa, pc⟩) => nonterm42_any g ⟨ta, tc, na, nc, pa, pc⟩ s W h hs h64 h64')
  rw [← hV, ← hE] at hN ⊢
  have hG0 := GB.start hg
  have hC := Lib.hid (fun W (h : GrAt W W.heap.size g ⟨ta, tc, na, nc, pa, pc⟩) => gcheck_any g ⟨ta, tc, na, nc, pa, pc⟩ W h hs)
  obtain ⟨C, hCv⟩ : ∃ C : Int, C = gchk g := ⟨_, rfl⟩
  have hCE : C ≠ 0 → E = C ∧ V = 0 := fun h => by
    have e : nonE g s = C := by unfold nonE; rw [← hCv, if_neg h]
    rw [hE, hV]; unfold nonV; rw [e, if_neg h]; exact ⟨rfl, rfl⟩
  rw [← hCv] at hC
  replace hCE := Lib.hid hCE
  clear hCv hV hE hg hs
  unfold gval gcells at *
  dsimp only at *
  go_enter Tryz.func48, Tryz.ntmps48
  go_upto_region 1 with (fail)
  obtain ⟨W, hW⟩ : ∃ W, W = w.alloc (.cells #[.int .i64 g.k, .slice ta g.toks.length tc, .string g.sep, .slice na g.names.length nc, .int .i64 g.start, .slice pa g.prods.length pc] 25) := ⟨_, rfl⟩
  rw [← hW] at hG0 ⊢
  clear hW
  obtain ⟨c0, c1, c2, c3, c4, c5⟩ := hG0.cells
  dsimp only at c1 c3 c5
  by_cases hz : C = 0
  · subst hz
    go_wp2_with (first
      | (go_at_call 33; refine (hC.out _ (hG0.2.1.mono hG0.2.2.size)).mono ?_; rintro e w1 ⟨rfl, hb1⟩; have hG1 := hG0.step hb1; obtain ⟨d0, d1, d2, d3, d4, d5⟩ := hG1.cells; dsimp only at d1 d3 d5)
      | (go_at_call 96; refine (hN.out _ (hG1.2.1.mono hG1.2.2.size)).mono ?_; rintro e w2 ⟨rfl, hb2⟩))
    go_ret2
    exact ⟨rfl, (hG1.step hb2).2.2⟩
  · obtain ⟨rfl, rfl⟩ := hCE.out hz
    have hzb : (E == 0) = false := by simpa using hz
    have hzn : (E != 0) = true := by simpa using hz
    go_wp2_with (go_at_call 33; refine (hC.out _ (hG0.2.1.mono hG0.2.2.size)).mono ?_; rintro e w1 ⟨rfl, hb1⟩)
    go_ret2
    exact ⟨rfl, (hG0.step hb1).2.2⟩
end Go.Proofs.YtnnkfgekiaaehaaGreat

/- follow.plus. -/
namespace Go.Proofs.YtnnkfgekiaaehaaGreat
open Go.ChangeShapes Go.WideShapes Go.ChangeAt Go.RowKit
set_option linter.unusedVariables false

set_option maxHeartbeats 2000000 in
theorem plus_any (k : Nat) (x y : Lk) (Bk : Nat) (w : World) (hk : k ≤ 4) (hx : x.right 8) (hy : y.right 8) (hxk : x.l.length ≤ k) (hc : w.cell? ⟨Bk, 0, none⟩ = some (.int .i64 k)) (hBk : Bk < w.heap.size) :
    Calls Tryz.prog 75 #[x.v, y.v, .pointer (some ⟨Bk, 0, none⟩)] w fun e w' => e = .returned (lplus k x y).v ∧ Below w.heap.size w w' := by
  have hD := Lib.hid (Lk.cellAt y)
  have h2 := ((right_iff y 8).1 hy).2.1
  have hY := Lib.hid (fun i => s_getD hy i)
  have hlx := (right_l hx).1
  have hly := (right_l hy).1
  have hxo := (right_l hx).2.2.1
  obtain ⟨m, hm⟩ := Int.eq_ofNat_of_zero_le h2.1
  clear hx hy
  have hR : lplus k x y = Lk.of ((x.l ++ y.l).take k) := rfl
  rw [hR]
  clear hR
  generalize x.l = t at *
  subst hxo
  unfold Lk.v
  generalize y.l = u at *
  rw [hm] at hly
  obtain rfl : m = u.length := by omega
  clear hly hlx
  generalize y.s = s' at *
  generalize y.n = yn at *
  subst hm
  obtain ⟨x, hxt⟩ : ∃ x, x = Lk.of t := ⟨_, rfl⟩
  have hx0 : x.cells = (Lk.of t).cells := by rw [hxt]
  rw [← hxt]
  replace hxt := Lib.hid hxt
  unfold Lk.cells at hx0
  replace hx0 := Lib.hid hx0
  go_enter Tryz.func75, Tryz.ntmps75
  go_wp2_with fail
  have q0 : Blk (((w.alloc (.cells #[.int .i64 x.n, .int .i64 x.a, .int .i64 x.b, .int .i64 x.c, .int .i64 x.d] 41)).alloc (.cells #[.int .i64 u.length, .int .i64 y.a, .int .i64 y.b, .int .i64 y.c, .int .i64 y.d] 41)).alloc (.cells #[.int .i64 0, .int .i64 0, .int .i64 0, .int .i64 0, .int .i64 0] 41)) w.heap.size 41 (Lk.of (t ++ u.take 0)).cells := by
    have := ((Blk.new w 41 #[.int .i64 x.n, .int .i64 x.a, .int .i64 x.b, .int .i64 x.c, .int .i64 x.d]).alloc (.cells #[.int .i64 u.length, .int .i64 y.a, .int .i64 y.b, .int .i64 y.c, .int .i64 y.d] 41)).alloc (.cells #[.int .i64 0, .int .i64 0, .int .i64 0, .int .i64 0, .int .i64 0] 41)
    rw [hx0.out] at this ⊢
    simpa [Lk.cells] using this
  have q1 : Blk (((w.alloc (.cells #[.int .i64 x.n, .int .i64 x.a, .int .i64 x.b, .int .i64 x.c, .int .i64 x.d] 41)).alloc (.cells #[.int .i64 u.length, .int .i64 y.a, .int .i64 y.b, .int .i64 y.c, .int .i64 y.d] 41)).alloc (.cells #[.int .i64 0, .int .i64 0, .int .i64 0, .int .i64 0, .int .i64 0] 41)) (w.heap.size + 1) 41 #[.int .i64 u.length, .int .i64 y.a, .int .i64 y.b, .int .i64 y.c, .int .i64 y.d] := (Blk.newAt _ _ _ _ (by simp)).alloc _
  have q2 : Blk (((w.alloc (.cells #[.int .i64 x.n, .int .i64 x.a, .int .i64 x.b, .int .i64 x.c, .int .i64 x.d] 41)).alloc (.cells #[.int .i64 u.length, .int .i64 y.a, .int .i64 y.b, .int .i64 y.c, .int .i64 y.d] 41)).alloc (.cells #[.int .i64 0, .int .i64 0, .int .i64 0, .int .i64 0, .int .i64 0] 41)) (w.heap.size + 1 + 1) 41 (Lk.of []).cells := Blk.newAt _ _ _ _ (by simp)
  have q4 := bAlc (bAlc (bAlc (Below.refl w.heap.size w) (.cells #[.int .i64 x.n, .int .i64 x.a, .int .i64 x.b, .int .i64 x.c, .int .i64 x.d] 41)) (.cells #[.int .i64 u.length, .int .i64 y.a, .int .i64 y.b, .int .i64 y.c, .int .i64 y.d] 41)) (.cells #[.int .i64 0, .int .i64 0, .int .i64 0, .int .i64 0, .int .i64 0] 41)
  go_loopg [6] u.length (fun gk i wr => ∃ r : Nat, i = .int .i64 r ∧ t.length + r ≤ k ∧ r + gk = u.length ∧
    Blk wr w.heap.size 41 (Lk.of (t ++ u.take r)).cells ∧ Blk wr (w.heap.size + 1) 41 #[.int .i64 u.length, .int .i64 y.a, .int .i64 y.b, .int .i64 y.c, .int .i64 y.d] ∧
    Blk wr (w.heap.size + 1 + 1) 41 (Lk.of []).cells ∧ Below w.heap.size w wr)
  case atStart => exact ⟨0, rfl, by omega, by omega, q0, q1, q2, q4⟩
  case round =>
    clear q0 q1 q2 q4
    obtain ⟨r, rfl, hk1, hr, q0, q1, q2, q4⟩ := hrel
    have c10 := q1.cell 0
    have c00 := q0.cell 0
    have hck : wr.cell? ⟨Bk, 0, none⟩ = some (.int .i64 k) := (q4.cell (p := ⟨Bk, 0, none⟩) hBk).trans hc
    have hr' := Lib.hid hr
    clear hr
    have hul : (u.take r).length = r := by rw [List.length_take]; have := hr'.out; omega
    have hpr : (t ++ u.take r).length = t.length + r := by rw [List.length_append, hul]
    rw [of_cell0, hpr] at c00
    replace hul := Lib.hid hul
    simp only [List.getElem?_toArray, List.getElem?_cons_zero, List.getElem?_cons_succ] at c10
    by_cases hrk : r < u.length ∧ t.length + r < k
    · obtain ⟨hr1, hr2⟩ := hrk
      have hr4 : r < 4 := by omega
      have c1r := q1.cell (1 + r)
      rw [hD.out r hr4] at c1r
      have c0r := q0.cell (1 + (t.length + r))
      have e3 : (Lk.of (t ++ u.take r)).cells[1 + (t.length + r)]? = some (.int .i64 ((Lk.of (t ++ u.take r)).s (t.length + r))) := Lk.cellAt _ (t.length + r) (by omega)
      rw [e3] at c0r
      have f0r := q0.frozen (1 + (t.length + r))
      have f00 := q0.frozen 0
      replace hpr := Lib.hid hpr
      clear e3
      go_wp2_with fail
      go_region
      all_goals go_wp2_with fail
      have hq := plus_put (v := s' r) q0.drew hpr.out (by omega)
      have hts := take_snocI u r hr1
      rw [← hY.out r] at hts
      rw [List.append_assoc, ← hts, Int.natCast_add] at hq
      go_roundg (u.length - (r + 1))
      case measure => have := hr'.out; omega
      case rel =>
        exact ⟨r + 1, by go_num, by omega, by have := hr'.out; omega, hq, (q1.drew.far (by simp <;> omega) _).far (by simp <;> omega) _, (q2.drew.far (by simp <;> omega) _).far (by simp <;> omega) _, bSet (bSet (bDrw q4) _ _ (by simp <;> omega)) _ _ (by simp <;> omega)⟩
    · have hend : t ++ u.take r = (t ++ u).take k := by
        have := hr'.out
        rw [List.take_append, List.take_of_length_le (by omega : t.length ≤ k)]
        congr 1
        by_cases hru : r < u.length
        · rw [show k - t.length = r by omega]
        · rw [List.take_of_length_le (by omega), List.take_of_length_le (by omega)]
      replace hend := Lib.hid hend
      have d0 := q0.cell 0
      have d1 := q0.cell 1
      have d2 := q0.cell 2
      have d3 := q0.cell 3
      have d4 := q0.cell 4
      have z0 := q2.frozen 0
      have z1 := q2.frozen 1
      have z2 := q2.frozen 2
      have z3 := q2.frozen 3
      have z4 := q2.frozen 4
      have y0 := q2.cell 0
      have y1 := q2.cell 1
      have y2 := q2.cell 2
      have y3 := q2.cell 3
      have y4 := q2.cell 4
      clear c00
      have hfn : (Lk.of (t ++ u.take r)).n = ((t.length + r : Nat) : Int) := by rw [of_n, hpr]
      replace hfn := Lib.hid hfn
      generalize t ++ u.take r = f at *
      simp only [Lk.cells, List.getElem?_toArray, List.getElem?_cons_zero, List.getElem?_cons_succ] at d0 d1 d2 d3 d4 y0 y1 y2 y3 y4
      by_cases hr1 : r < u.length
      · have hk4 : ¬ (Lk.of f).n < (k : Int) := by rw [hfn.out]; intro h; exact hrk ⟨hr1, by omega⟩
        clear hrk
        go_wp2_with fail
        exact bodyPost_ret (results_look rfl _ _ _ (Lk.of f) rfl (put5 q2 (Lk.of f))) rfl ⟨by rw [← hend.out]; rfl, bSet5 q4 (by omega) _ _ _ _ _⟩
      · clear hrk
        go_wp2_with fail
        exact bodyPost_ret (results_look rfl _ _ _ (Lk.of f) rfl (put5 q2 (Lk.of f))) rfl ⟨by rw [← hend.out]; rfl, bSet5 q4 (by omega) _ _ _ _ _⟩

/-- the function that follow.plus hands back -/
def RetP (w : World) (k : Nat) (e : Ending) (w' : World) : Prop :=
  ∃ B, e = .returned (.func (.func 75) #[] #[.pointer (some ⟨B, 0, none⟩)]) ∧ w'.cell? ⟨B, 0, none⟩ = some (.int .i64 k) ∧ w.heap.size ≤ B ∧ B < w'.heap.size ∧ Below w.heap.size w w'
theorem mkplus_any (k : Nat) (w : World) : Calls Tryz.prog 38 #[.int .i64 k] w (RetP w k) := by
  have hP := Lib.hid (fun (B : Nat) (w' : World) (h1 : w'.cell? ⟨B, 0, none⟩ = some (.int .i64 k)) (h0 : w.heap.size ≤ B) (h2 : B < w'.heap.size) (h3 : Below w.heap.size w w') =>
    (show RetP w k (.returned (.func (.func 75) #[] #[.pointer (some ⟨B, 0, none⟩)])) w' from ⟨B, rfl, h1, h0, h2, h3⟩))
  go_enter Tryz.func38, Tryz.ntmps38
  go_wp2_with fail
  go_ret
  exact hP.out _ _ (by simp) (Nat.le_refl _) (by simp) (bAlc (Below.refl _ _) _)
end Go.Proofs.YtnnkfgekiaaehaaGreat

/- follow.joined. -/
namespace Go.Proofs.YtnnkfgekiaaehaaGreat
open Go.ChangeShapes Go.WideShapes Go.ChangeAt Go.RowKit
set_option linter.unusedVariables false

/-- one look more -/
def addL (s : List Lk) (z : Lk) : List Lk := if z ∈ s then s else s ++ [z]
def addAll (s l : List Lk) : List Lk := l.foldl addL s
/-- the sums of one look with a list -/
def rowJ (k : Nat) (x : Lk) (lb : List Lk) : List Lk := lb.map (lplus k x)
/-- the sums of two lists -/
def sumsJ (k : Nat) (la lb : List Lk) : List Lk := la.flatMap fun x => rowJ k x lb
theorem addL_len (s : List Lk) (z : Lk) : s.length ≤ (addL s z).length := by unfold addL; split <;> simp
theorem addAll_snoc (s l : List Lk) (z : Lk) : addAll s (l ++ [z]) = addL (addAll s l) z := by simp [addAll]
theorem addAll_app (s l m : List Lk) : addAll s (l ++ m) = addAll (addAll s l) m := by simp [addAll]
theorem addAll_len (s l : List Lk) : s.length ≤ (addAll s l).length := by
  induction l generalizing s with
  | nil => exact Nat.le_refl _
  | cons z l ih => exact Nat.le_trans (addL_len s z) (ih _)
theorem addL_mem (s : List Lk) (z x : Lk) : x ∈ addL s z ↔ x ∈ s ∨ x = z := by
  unfold addL
  split
  · rename_i h
    exact ⟨.inl, fun h' => h'.elim id (fun e => e ▸ h)⟩
  · simp
theorem addAll_mem (s l : List Lk) (x : Lk) : x ∈ addAll s l ↔ x ∈ s ∨ x ∈ l := by
  induction l generalizing s with
  | nil => simp [addAll]
  | cons z l ih =>
    have : addAll s (z :: l) = addAll (addL s z) l := rfl
    rw [this, ih, addL_mem, List.mem_cons]
    constructor <;> intro h <;> rcases h with h | h
    · rcases h with h | h
      · exact .inl h
      · exact .inr (.inl h)
    · exact .inr (.inr h)
    · exact .inl (.inl h)
    · rcases h with h | h
      · exact .inl (.inr h)
      · exact .inr h
theorem addAll_same (s l : List Lk) (h : (addAll s l).length = s.length) : addAll s l = s ∧ ∀ x ∈ l, x ∈ s := by
  have key : ∀ (l s : List Lk), ∃ e, addAll s l = s ++ e := by
    intro l
    induction l with
    | nil => intro s; exact ⟨[], by simp [addAll]⟩
    | cons z l ih =>
      intro s
      obtain ⟨e, he⟩ := ih (addL s z)
      have h1 : addAll s (z :: l) = addAll (addL s z) l := rfl
      rw [h1, he]
      unfold addL
      split
      · exact ⟨e, rfl⟩
      · exact ⟨z :: e, by simp⟩
  obtain ⟨e, he⟩ := key l s
  have : e = [] := by
    rw [he, List.length_append] at h
    exact List.eq_nil_of_length_eq_zero (by omega)
  subst this
  rw [List.append_nil] at he
  exact ⟨he, fun x hx => by rw [← he]; exact (addAll_mem s l x).2 (.inr hx)⟩

def lookKey : KeyEnc Lk where
  K := 41
  enc := Lk.v
  ok := Lk.wf
  keyed := lookKeyed
  key := look_key
  inj := fun _ _ h => Lk.v_inj h

/-- a look laid into a block of its own -/
def lay5 (W : World) (x : Lk) : World := W.alloc (.cells #[.int .i64 x.n, .int .i64 x.a, .int .i64 x.b, .int .i64 x.c, .int .i64 x.d] 41)
theorem lay5_blk (W : World) (x : Lk) : Blk (lay5 W x) W.heap.size 41 x.cells := Blk.new W 41 _
theorem lay5_below (W : World) (x : Lk) : Below W.heap.size W (lay5 W x) := bAlc (Below.refl _ _) _

theorem grown_of_below {W W' : World} (h : Below W.heap.size W W') : W.grownBy W' none := ⟨h.os, h.tape, h.output, h.size, fun i hi _ => h.block i hi⟩

/-- what stands while two lists are joined into the map b -/
def JW (w : World) (b Bk k : Nat) (A1 A2 : Option Addr) (n1 n2 : Nat) (la lb : List Lk) (cur : List Lk) (W : World) : Prop :=
  MapK lookKey W b cur ∧ w.grownBy W (some b) ∧ RdL W w.heap.size A1 n1 la ∧ RdL W w.heap.size A2 n2 lb ∧ W.cell? ⟨Bk, 0, none⟩ = some (.int .i64 k) ∧ b < w.heap.size ∧ Bk < w.heap.size
section
variable {w W W' : World} {b Bk k : Nat} {A1 A2 : Option Addr} {n1 n2 : Nat} {la lb cur cur' : List Lk}
theorem JW.step (h : JW w b Bk k A1 A2 n1 n2 la lb cur W) (hb : Below W.heap.size W W') : JW w b Bk k A1 A2 n1 n2 la lb cur W' :=
  ⟨h.1.step hb, h.2.1.andThen (grown_of_below hb) (fun j hj => by cases hj), h.2.2.1.below (hb.mono h.2.1.size), h.2.2.2.1.below (hb.mono h.2.1.size), cell_later hb h.2.2.2.2.1, h.2.2.2.2.2⟩
theorem rdl_map {A : Option Addr} {n B : Nat} {l : List Lk} (h : RdL W B A n l) (hm : MapK lookKey W b cur) (hg : W.grownBy W' (some b)) (hB : B ≤ W.heap.size) : RdL W' B A n l := by
  refine ⟨h.1, ?_⟩
  rcases h.2 with h0 | ⟨g, off, rfl, hlt, hc⟩
  · exact .inl h0
  · by_cases hn : l = []
    · left; rw [← h.1, hn]; rfl
    · refine .inr ⟨g, off, rfl, hlt, fun i x hx j hj => ?_⟩
      have hcc := hc i x hx j hj
      have hne : g ≠ b := by
        rintro rfl
        obtain ⟨es, clock, hb, _⟩ := hm
        have hj5 : ∃ v, x.cells[j]? = some v := ⟨x.cells[j]'(by simpa [Lk.cells] using hj), by simp⟩
        obtain ⟨v, hv⟩ := hj5
        rw [hv] at hcc
        simp [World.cell?, hb] at hcc
      exact (World.cell?_of_block (a := ⟨g, off + i * 5 + j, none⟩) (hg.block g (by omega) (by simpa using hne))).trans hcc
theorem cell_map {a : Addr} {v : Value} (h : W.cell? a = some v) (hm : MapK lookKey W b cur) (hg : W.grownBy W' (some b)) : W'.cell? a = some v := by
  refine hg.cell h ?_
  intro e
  injection e with e
  obtain ⟨es, clock, hb, _⟩ := hm
  rw [← e] at hb
  simp [World.cell?, hb] at h
theorem JW.turned (h : JW w b Bk k A1 A2 n1 n2 la lb cur W) (ht : W.mapTurned W' b) (hm : MapK lookKey W' b cur') : JW w b Bk k A1 A2 n1 n2 la lb cur' W' :=
  ⟨hm, h.2.1.andThen (turned_grown ht) (fun j hj => by cases hj; exact .inr rfl), rdl_map h.2.2.1 h.1 (turned_grown ht) h.2.1.size, rdl_map h.2.2.2.1 h.1 (turned_grown ht) h.2.1.size, cell_map h.2.2.2.2.1 h.1 (turned_grown ht), h.2.2.2.2.2⟩
end
end Go.Proofs.YtnnkfgekiaaehaaGreat
