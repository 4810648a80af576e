/- Walks and plain laws, part 2 of 7: The reference 09: prods, named; The reference 09: symbols, Check; The reference 09: Check; What forms derive, plainly: no program in sight; Sets of texts in memory; derive.nonterm, derive.shortest; slices.All over the productions of a grammar; grammar.prods; grammar.many; grammar: the closures of symbols and complete, and the library's IndexFunc, ContainsFunc at them; grammar.complete, and the library's ContainsFunc; A map of keys to true, whatever the keys. Conditions: none beyond those that each theorem states. -/
import Derived.Test.YtlngbphchhbpbaaGreatA1
import Derived.Deep.RegionHeld3
import Derived.Deep.DeepCutAuto
import Derived.Deep.CutBlock
import Derived.IntWalk
import Derived.RangeFuncNested
import Derived.RangeFuncBound
import Derived.RangeFuncCalls
import Derived.RangeFuncLeaves
import Derived.RangeFuncBox
import Derived.Shelf.Abstract
import Derived.Shelf.RegionOpen
import Derived.OwnWalkIn
import Derived.TacticsInMore
import Derived.LoopNIn
import Derived.LoopIn
import Derived.Maps.Keyed
import Derived.StringKeys
/- The reference 09: prods, named. -/
namespace Go.Proofs.YtlngbphchhbpbaaGreat
open Go.ChangeShapes Go.WideShapes Go.ChangeAt Go.RowKit
set_option linter.unusedVariables false

/-- the numbers of the productions of s among the first n -/
def prIdx (ps : List Pr) (s : Int) (n : Nat) : List Int := ((List.range n).filter fun i => decide ((ps.getD i default).left = s)).map fun i : Nat => (i : Int)
theorem prIdx_succ (ps : List Pr) (s : Int) (n : Nat) : prIdx ps s (n + 1) = if (ps.getD n default).left = s then prIdx ps s n ++ [(n : Int)] else prIdx ps s n := by
  unfold prIdx
  rw [List.range_succ, List.filter_append, List.map_append]
  by_cases h : (ps.getD n default).left = s
  · rw [if_pos h, List.filter_cons, if_pos (decide_eq_true h)]; rfl
  · rw [if_neg h, List.filter_cons, if_neg (by simpa using h)]; simp
theorem prIdx_len (ps : List Pr) (s : Int) (n : Nat) : (prIdx ps s n).length ≤ n := by
  unfold prIdx
  rw [List.length_map]
  exact Nat.le_trans (List.length_filter_le _ _) (by simp)
def RetI (w : World) (l : List Int) (e : Ending) (w' : World) : Prop := ∃ v, e = .returned v ∧ Own1 w' w.heap.size 3 v (ints l) ∧ Below w.heap.size w w'

set_option maxHeartbeats 1000000 in
theorem rprods_any (g : Gr) (a : GA) (s : Int) (w : World) (hg : GrAt w w.heap.size g a) (hp : g.prods.length ≤ 100000) :
    Calls Tryz.prog 78 #[gval g a, .int .i64 s] w (RetI w (prIdx g.prods s g.prods.length)) := by
  obtain ⟨ta, tc, na, nc, pa, pc⟩ := a
  have hP := Lib.hid (fun (v : Value) (w' : World) (h1 : Own1 w' w.heap.size 3 v (ints (prIdx g.prods s g.prods.length))) (h2 : Below w.heap.size w w') => (show RetI w (prIdx g.prods s g.prods.length) (.returned v) w' from ⟨v, rfl, h1, h2⟩))
  have q0 := Blk.new w 25 (gcells g ⟨ta, tc, na, nc, pa, pc⟩)
  have hg0 := hg.below (bAlc (Below.refl w.heap.size w) (.cells (gcells g ⟨ta, tc, na, nc, pa, pc⟩) 25))
  have hb0 := bAlc (Below.refl w.heap.size w) (.cells (gcells g ⟨ta, tc, na, nc, pa, pc⟩) 25)
  clear hg
  unfold gval
  unfold gcells at *
  dsimp only at *
  go_enter Tryz.func78, Tryz.ntmps78
  go_wp2_with fail
  go_loopg [5, 6] g.prods.length (fun gk s5 s6 wr => ∃ i : Nat, s6 = .int .i64 i ∧ i + gk = g.prods.length ∧ Own1 wr w.heap.size 3 s5 (ints (prIdx g.prods s i)) ∧
    Blk wr w.heap.size 25 #[.int .i64 g.k, .slice ta g.toks.length tc, .string g.sep, .slice na g.names.length nc, .int .i64 g.start, .slice pa g.prods.length pc] ∧ GrAt wr w.heap.size g ⟨ta, tc, na, nc, pa, pc⟩ ∧ Below w.heap.size w wr ∧ (∀ k, s5.ownBlock = some k → k ≠ w.heap.size))
  case atStart => exact ⟨0, rfl, by omega, Own1.nil _ _ _, q0, hg0, hb0, by simp [Value.ownBlock]⟩
  case round =>
    clear q0 hg0 hb0
    obtain ⟨i, rfl, hi, ho, q0, hga, hb, hne⟩ := hrel
    replace hi := Lib.hid hi
    have c5 := q0.cell 5
    have hq0 := q0.lt
    simp only [List.getElem?_toArray, List.getElem?_cons_zero, List.getElem?_cons_succ] at c5
    by_cases hin : i < g.prods.length
    · have hxi : g.prods[i]? = some g.prods[i] := List.getElem?_eq_getElem hin
      obtain ⟨b, off, hA, hbt, x0, RA, rc, x1, hx2, hx3, hx4⟩ := hga.prods.get hxi
      dsimp only at hA
      subst hA
      have hsucc := prIdx_succ g.prods s i
      have hgd : g.prods.getD i default = g.prods[i] := by simp [List.getD_eq_getElem?_getD, hxi]
      rw [hgd] at hsucc
      have hlen := prIdx_len g.prods s i
      generalize g.prods[i] = p at *
      replace hxi := Lib.hid hxi
      replace hgd := Lib.hid hgd
      have hzi : (0 : Int) ≤ i := by omega
      have hzn : (i : Int) < g.prods.length := by omega
      by_cases h6 : p.left = s
      · have hsb : (p.left == s) = true := by simp [h6]
        rw [if_pos h6] at hsucc
        replace hsucc := Lib.hid hsucc
        clear h6
        go_wp2_with (at_builtin; refine wpList_join1 _ rfl _ _ 26 rfl w.heap.size 3 _ 8 under22 info3 rfl _ _ rfl (ho.alloc _) _ _ 1 1 [.int .i64 (i : Int)] rfl (rd_blk (Blk.new _ _ _)) (by simp [Value.oneCell']) (by simp only [ints, List.length_map]; omega) (by simp) (by have := hb.size; simp; omega) ?_; intro v' w1 hown1 hg1 hat1 hb1)
        have hb2 : Below w.heap.size wr w1 := hb1 wr ((Below.refl _ _).alloc hb.size _)
        have hne1 : ∀ k, v'.ownBlock = some k → k ≠ w.heap.size := by
          intro k hk
          rcases hat1 with h | h
          · exact hne k (h ▸ hk)
          · rw [h] at hk
            have : k = (wr.alloc (.cells #[.int .i64 (i : Int)] 3)).heap.size := by injection hk with hk; exact hk.symm
            rw [this]; simp; omega
        have q1 : Blk w1 w.heap.size 25 #[.int .i64 g.k, .slice ta g.toks.length tc, .string g.sep, .slice na g.names.length nc, .int .i64 g.start, .slice (some ⟨b, off, none⟩) g.prods.length pc] :=
          (q0.alloc _).grown hg1 (fun e => hne _ e.symm rfl)
        go_roundg (g.prods.length - (i + 1))
        case measure => have := hi.out; omega
        case rel => exact ⟨i + 1, by go_num, by have := hi.out; omega, by rw [hsucc.out, ints, List.map_append]; exact hown1, q1, hga.below hb2, hb1 w (bAlc hb _), hne1⟩
      · have hsb : (p.left == s) = false := by simp [h6]
        rw [if_neg h6] at hsucc
        replace hsucc := Lib.hid hsucc
        clear h6
        go_wp2_with fail
        go_roundg (g.prods.length - (i + 1))
        case measure => have := hi.out; omega
        case rel => exact ⟨i + 1, by go_num, by have := hi.out; omega, by rw [hsucc.out]; exact ho, q0, hga, hb, hne⟩
    · have hii : i = g.prods.length := by have := hi.out; omega
      subst hii
      go_wp2_with fail
      go_ret
      exact hP.out _ _ ho hb

theorem Own1.drew {w : World} {base : Nat} {e : TypeId} {v : Value} {l : List Value} (h : Own1 w base e v l) : Own1 w.drew base e v l := h
theorem Own1.emptyAt (w : World) (base : Nat) (e : TypeId) (g : Nat) (hg : g = w.heap.size) (h : base ≤ w.heap.size) : Own1 (w.alloc (.cells #[] e)) base e (.slice (some ⟨g, 0, none⟩) 0 0) [] := by
  subst hg; exact Own1.empty w base e h
theorem own1_far {w : World} {base : Nat} {e : TypeId} {v : Value} {l : List Value} (h : Own1 w base e v l) {w1 : World} (hg : w.grownBy w1 none) : Own1 w1 base e v l := World.ownsRow.kept h hg (by cases hv : v.ownBlock <;> simp)
/-- a world of the region that lays small names: the grammar's box, the grammar, what was there -/
def SN (w w0 : World) (g : Gr) (a : GA) (w' : World) : Prop := Blk w' w.heap.size 25 (gcells g a) ∧ GrAt w' w.heap.size g a ∧ Below w.heap.size w w' ∧ Below w.heap.size w0 w'
theorem SN.drew {w w0 : World} {g : Gr} {a : GA} {w' : World} (h : SN w w0 g a w') : SN w w0 g a w'.drew := ⟨h.1, h.2.1.below (Below.refl _ _).drew, h.2.2.1.drew, h.2.2.2.drew⟩
theorem SN.alloc {w w0 : World} {g : Gr} {a : GA} {w' : World} (h : SN w w0 g a w') (o : Obj) : SN w w0 g a (w'.alloc o) :=
  ⟨h.1.alloc o, h.2.1.below ((Below.refl _ _).alloc h.2.2.1.size o), bAlc h.2.2.1 o, h.2.2.2.alloc h.2.2.1.size o⟩
theorem SN.grown {w w0 : World} {g : Gr} {a : GA} {w' w1 : World} {v : Value} (h : SN w w0 g a w') (hg : w'.grownBy w1 v.ownBlock) (hv : ∀ k, v.ownBlock = some k → w.heap.size < k) : SN w w0 g a w1 := by
  have hr : ∀ k, v.ownBlock = some k → w.heap.size ≤ k := fun k hk => by have := hv k hk; omega
  exact ⟨h.1.grown hg (fun e => by have := hv _ e.symm; omega), h.2.1.below ((Below.refl _ _).grown hg h.2.2.1.size hr), h.2.2.1.grown hg h.2.2.1.size hr, h.2.2.2.grown hg h.2.2.1.size hr⟩
theorem SN.all {w w0 : World} {g : Gr} {a : GA} {w' : World} (h : SN w w0 g a w') : w'.cell? ⟨w.heap.size, 1, none⟩ = some (.slice a.ta g.toks.length a.tc) ∧ w'.cell? ⟨w.heap.size, 2, none⟩ = some (.string g.sep) ∧ SN w w0 g a w' :=
  ⟨h.1.cell 1, h.1.cell 2, h⟩
theorem SN.size {w w0 : World} {g : Gr} {a : GA} {w' : World} (h : SN w w0 g a w') : w.heap.size < w'.heap.size := h.1.lt

set_option maxHeartbeats 1000000 in
theorem rnamed_any (g : Gr) (a : GA) (w : World) (hg : GrAt w w.heap.size g a) (ht : g.toks.length ≤ 100000) (hn : g.names.length ≤ 100000) :
    Calls Tryz.prog 57 #[gval g a] w fun e w' => e = .returned (.int .i64 (if nameB g = false then 12 else if diffB g = false then 8 else 0)) ∧ Below w.heap.size w w' := by
  obtain ⟨ta, tc, na, nc, pa, pc⟩ := a
  obtain ⟨R, hR⟩ : ∃ R : Int, R = if nameB g = false then 12 else if diffB g = false then 8 else 0 := ⟨_, rfl⟩
  rw [← hR]
  replace hR := Lib.hid hR
  have q0 := Blk.new w 25 (gcells g ⟨ta, tc, na, nc, pa, pc⟩)
  have hg0 := hg.below (bAlc (Below.refl w.heap.size w) (.cells (gcells g ⟨ta, tc, na, nc, pa, pc⟩) 25))
  have hb0 := bAlc (Below.refl w.heap.size w) (.cells (gcells g ⟨ta, tc, na, nc, pa, pc⟩) 25)
  clear hg
  unfold gval
  unfold gcells at *
  dsimp only at *
  go_enter Tryz.func57, Tryz.ntmps57
  go_wp2_with fail
  obtain ⟨w0, hw0⟩ : ∃ w0, w0 = w.alloc (.cells #[.int .i64 g.k, .slice ta g.toks.length tc, .string g.sep, .slice na g.names.length nc, .int .i64 g.start, .slice pa g.prods.length pc] 25) := ⟨_, rfl⟩
  have hsz : w.heap.size < w0.heap.size := by rw [hw0]; simp
  rw [← hw0] at q0 hg0 hb0 ⊢
  clear hw0
  have c1 := q0.cell 1
  have c2 := q0.cell 2
  simp only [List.getElem?_toArray, List.getElem?_cons_zero, List.getElem?_cons_succ] at c1 c2
  go_cut [3] (fun s3 wx => Own1 wx w.heap.size 9 s3 (strs (g.toks ++ [g.sep])) ∧ Blk wx w.heap.size 25 #[.int .i64 g.k, .slice ta g.toks.length tc, .string g.sep, .slice na g.names.length nc, .int .i64 g.start, .slice pa g.prods.length pc] ∧ GrAt wx w.heap.size g ⟨ta, tc, na, nc, pa, pc⟩ ∧ Below w.heap.size w wx)
  case first =>
    have hsn : SN w w0 g ⟨ta, tc, na, nc, pa, pc⟩ w0 := ⟨q0, hg0, hb0, Below.refl _ _⟩
    clear q0 hg0 hb0 c1 c2
    have e1 : Own1 (w0.alloc (.cells #[] 9)).drew (w.heap.size + 1) 9 (.slice (some ⟨w0.heap.size, 0, none⟩) 0 0) [] := Own1.emptyAt w0 _ 9 _ rfl (by omega)
    have e2 : Own1 ((w0.alloc (.cells #[] 9)).alloc (.cells #[.string g.sep] 9)).drew (w.heap.size + 1) 9 (.slice (some ⟨w0.heap.size, 0, none⟩) 0 0) [] := (Own1.emptyAt w0 (w.heap.size + 1) 9 _ rfl (by omega)).alloc _
    have e3 : Own1 ((w0.alloc (.cells #[.string g.sep] 9)).alloc (.cells #[] 9)).drew (w.heap.size + 1) 9 (.slice (some ⟨w0.heap.size + 1, 0, none⟩) 0 0) [] := Own1.emptyAt (w0.alloc _) _ 9 _ (by simp) (by simp; omega)
    have n1 : SN w w0 g ⟨ta, tc, na, nc, pa, pc⟩ (w0.alloc (.cells #[] 9)).drew := (hsn.alloc _).drew
    have n2 : SN w w0 g ⟨ta, tc, na, nc, pa, pc⟩ ((w0.alloc (.cells #[] 9)).alloc (.cells #[.string g.sep] 9)).drew := ((hsn.alloc _).alloc _).drew
    have n3 : SN w w0 g ⟨ta, tc, na, nc, pa, pc⟩ ((w0.alloc (.cells #[.string g.sep] 9)).alloc (.cells #[] 9)).drew := ((hsn.alloc _).alloc _).drew
    have d2 : Blk ((w0.alloc (.cells #[] 9)).alloc (.cells #[.string g.sep] 9)).drew (w0.heap.size + 1) 9 #[.string g.sep] := Blk.newAt (w0.alloc _) _ _ _ (by simp)
    have d3 : Blk ((w0.alloc (.cells #[.string g.sep] 9)).alloc (.cells #[] 9)).drew w0.heap.size 9 #[.string g.sep] := (Blk.new w0 9 _).alloc _
    have ne2 : some (w0.heap.size + 1) ≠ some w0.heap.size := by simp
    have ne3 : some w0.heap.size ≠ some (w0.heap.size + 1) := by simp
    have m2 : ∀ k, some w0.heap.size = some k → w.heap.size < k := by intro k hk; injection hk with hk; omega
    have m3 : ∀ k, some (w0.heap.size + 1) = some k → w.heap.size < k := by intro k hk; injection hk with hk; omega
    go_region_held3 (fun w' => w'.cell? ⟨w.heap.size, 1, none⟩ = some (.slice ta g.toks.length tc) ∧ w'.cell? ⟨w.heap.size, 2, none⟩ = some (.string g.sep) ∧ SN w w0 g ⟨ta, tc, na, nc, pa, pc⟩ w')
      ((refine SN.all (a := ⟨ta, tc, na, nc, pa, pc⟩) ?_; repeat (first | assumption | refine SN.drew ?_ | refine SN.alloc ?_ _)))
      (first
        | (refine step_of_wp _ (by rfl) (wp_join1 _ _ _ 22 (by rfl) (w.heap.size + 1) 9 _ 16 under23 info9 (by rfl) v1 (strs g.toks) (by rfl) (by first | exact hown1 | exact hown1.alloc _) _ _ 1 1 [.string g.sep] (by rfl) (by first | exact rd_blk (Blk.new _ _ _) | exact rd_blk (d2.grown hg1 ne2) | exact rd_blk (d3.grown hg1 ne3)) (by simp [Value.oneCell']) (by simp [strs]; omega) (by simp) (by have := hs1.size; simp; omega) ?_); intro v2 w2 hown2 hg2 hat2 hb2
           have hs2 : SN w w0 g ⟨ta, tc, na, nc, pa, pc⟩ w2 := SN.grown (by first | exact hs1 | exact hs1.alloc _) hg2 (fun k hk => (own_in hown1 k hk).1))
        | (refine step_of_wp _ (by rfl) (wp_join1 _ _ _ 22 (by rfl) (w.heap.size + 1) 9 _ 16 under23 info9 (by rfl) _ [] (by rfl) (by first | exact e1 | exact e2 | exact e3) w.heap.size ta g.toks.length tc (strs g.toks) (by rfl) (by first | exact n1.2.1.toks | exact n2.2.1.toks | exact n3.2.1.toks) strs_one (by simp; omega) (by simp) (by simp; omega) ?_); intro v1 w1 hown1 hg1 hat1 hb1; simp only [List.nil_append] at hown1
           have hs1 : SN w w0 g ⟨ta, tc, na, nc, pa, pc⟩ w1 := (by first | exact SN.grown n1 hg1 m2 | exact SN.grown n2 hg1 m2 | exact SN.grown n3 hg1 m3)))
    all_goals
      go_wp2_with fail
      go_meet
      exact ⟨by rw [strs, List.map_append]; exact hown2.mono (by omega), hs2.1, hs2.2.1, hs2.2.2.1⟩
  case rest =>
    clear q0 hg0 hb0 c1 c2 hsz
    obtain ⟨ho, q0, hga, hb⟩ := hcut
    obtain ⟨A, c, rfl, hrd, hc1, hc2, hbl⟩ := ho.reads
    have hsl : (strs (g.toks ++ [g.sep])).length = (g.toks ++ [g.sep]).length := by simp [strs]
    rw [hsl] at hrd hc1
    rw [hsl]
    clear hsl ho
    have hsz : ∀ s ∈ g.toks ++ [g.sep], s.size ≤ maxLen := by
      intro s hs
      rcases List.mem_append.1 hs with h | h
      · exact hga.ts s h
      · simp at h; rw [h]; exact hga.sep
    obtain ⟨L, hL⟩ : ∃ L, L = g.toks ++ [g.sep] := ⟨_, rfl⟩
    have hNB : nameB g = (L.all smallB && g.names.all capB) := by rw [hL]; rfl
    have hDB : diffB g = (decide L.Nodup && decide g.names.Nodup) := by rw [hL]; rfl
    have hLl : L.length ≤ 100001 := by rw [hL]; simp; omega
    rw [← hL] at hrd hc1 hsz ⊢
    clear hL
    replace hNB := Lib.hid hNB
    replace hDB := Lib.hid hDB
    have c3 := q0.cell 3
    simp only [List.getElem?_toArray, List.getElem?_cons_zero, List.getElem?_cons_succ] at c3
    have hcap := Lib.hid (fun (s : ByteArray) (hs : s ∈ g.names) (w : World) => rcap_any s w (hga.ns s hs))
    have hsm := Lib.hid (fun (s : ByteArray) (hs : s ∈ L) (w : World) => rsmall_any s w (hsz s hs))
    go_wp2_with fail
    go_loopg [4] L.length (fun gk s4 wr => ∃ i : Nat, wr = wc ∧ s4 = .int .i64 i ∧ i + gk = L.length ∧ ∀ s ∈ L.take i, smallB s = true)
    case atStart => exact ⟨0, rfl, rfl, by omega, by simp⟩
    case round =>
      obtain ⟨i, rfl, rfl, hi, hP⟩ := hrel
      replace hi := Lib.hid hi
      replace hP := Lib.hid hP
      by_cases hin : i < L.length
      · have hxi : L[i]? = some L[i] := List.getElem?_eq_getElem hin
        obtain ⟨b, off, rfl, hbt, x0⟩ := hrd.get (i := i) (v := .string L[i]) (by simp [strs, hxi])
        have hmem := List.getElem_mem hin
        have htk : L.take (i + 1) = L.take i ++ [L[i]] := List.take_succ_eq_append_getElem hin
        have hsi := Lib.hid (hsm.out L[i] hmem)
        generalize L[i] = x at *
        have hzi : (0 : Int) ≤ i := by omega
        have hzn : (i : Int) < L.length := by omega
        replace hxi := Lib.hid hxi
        replace htk := Lib.hid htk
        replace hmem := Lib.hid hmem
        cases hsb : smallB x with
        | true =>
          have hG := Lib.hid (show ∀ s ∈ L.take (i + 1), smallB s = true by
            intro s hs
            rw [htk.out] at hs
            rcases List.mem_append.1 hs with h | h
            · exact hP.out s h
            · simp at h; rw [h]; exact hsb)
          rw [hsb] at hsi
          replace hsb := Lib.hid hsb
          go_wp2_with (go_at_call 73; refine (hsi.out _).mono ?_; rintro e w' ⟨rfl, rfl⟩)
          go_roundg (L.length - (i + 1))
          case measure => have := hi.out; omega
          case rel => exact ⟨i + 1, rfl, by go_num, by have := hi.out; omega, hG.out⟩
        | false =>
          have hnF : R = 12 := by
            rw [hR.out, if_pos]
            rw [hNB.out, Bool.and_eq_false_iff]
            left
            rw [List.all_eq_false]
            exact ⟨x, hmem.out, by simp [hsb]⟩
          subst hnF
          rw [hsb] at hsi
          replace hsb := Lib.hid hsb
          go_wp2_with (go_at_call 73; refine (hsi.out _).mono ?_; rintro e w' ⟨rfl, rfl⟩)
          go_ret
          exact ⟨rfl, hb⟩
      · have hAll : L.all smallB = true := by
          rw [List.all_eq_true]
          intro s hs
          refine hP.out s ?_
          rwa [List.take_of_length_le (by omega)]
        have hNB2 := hNB.out
        rw [hAll, Bool.true_and] at hNB2
        replace hNB2 := Lib.hid hNB2
        clear hAll hNB
        go_wp2_with fail
        go_loopg [5] g.names.length (fun gk s5 wr2 => ∃ i : Nat, wr2 = wr ∧ s5 = .int .i64 i ∧ i + gk = g.names.length ∧ ∀ s ∈ g.names.take i, capB s = true)
        case atStart => exact ⟨0, rfl, rfl, by omega, by simp⟩
        case round =>
          obtain ⟨i, rfl, rfl, hi, hP⟩ := hrel
          replace hi := Lib.hid hi
          replace hP := Lib.hid hP
          by_cases hin : i < g.names.length
          · have hxi : g.names[i]? = some g.names[i] := List.getElem?_eq_getElem hin
            obtain ⟨b, off, hA, hbt, x0⟩ := hga.names.get (i := i) (v := .string g.names[i]) (by simp [strs, hxi])
            dsimp only at hA
            subst hA
            have hmem := List.getElem_mem hin
            have htk : g.names.take (i + 1) = g.names.take i ++ [g.names[i]] := List.take_succ_eq_append_getElem hin
            have hsi := Lib.hid (hcap.out g.names[i] hmem)
            generalize g.names[i] = x at *
            have hzi : (0 : Int) ≤ i := by omega
            have hzn : (i : Int) < g.names.length := by omega
            replace hxi := Lib.hid hxi
            replace htk := Lib.hid htk
            replace hmem := Lib.hid hmem
            cases hsb : capB x with
            | true =>
              have hG := Lib.hid (show ∀ s ∈ g.names.take (i + 1), capB s = true by
                intro s hs
                rw [htk.out] at hs
                rcases List.mem_append.1 hs with h | h
                · exact hP.out s h
                · simp at h; rw [h]; exact hsb)
              rw [hsb] at hsi
              replace hsb := Lib.hid hsb
              go_wp2_with (go_at_call 74; refine (hsi.out _).mono ?_; rintro e w' ⟨rfl, rfl⟩)
              go_roundg (g.names.length - (i + 1))
              case measure => have := hi.out; omega
              case rel => exact ⟨i + 1, rfl, by go_num, by have := hi.out; omega, hG.out⟩
            | false =>
              have hnF : R = 12 := by
                rw [hR.out, if_pos]
                rw [hNB2.out, List.all_eq_false]
                exact ⟨x, hmem.out, by simp [hsb]⟩
              subst hnF
              rw [hsb] at hsi
              replace hsb := Lib.hid hsb
              go_wp2_with (go_at_call 74; refine (hsi.out _).mono ?_; rintro e w' ⟨rfl, rfl⟩)
              go_ret
              exact ⟨rfl, hb⟩
          · have hAll : g.names.all capB = true := by
              rw [List.all_eq_true]
              intro s hs
              refine hP.out s ?_
              rwa [List.take_of_length_le (by omega)]
            have hR2 : R = if diffB g = false then 8 else 0 := by rw [hR.out, if_neg (by rw [hNB2.out, hAll]; simp)]
            rw [hDB.out] at hR2
            have hcc := bcell (Below.refl wr.heap.size wr)
            have hq0 := q0.lt
            cases hd1 : decide L.Nodup with
            | false =>
              rw [hd1, Bool.false_and, if_pos rfl] at hR2
              subst hR2
              have hT := Lib.hid (fun (w : World) (hrd) => rtwice_any A L.length c L w hrd (by omega))
              rw [hd1] at hT
              replace hd1 := Lib.hid hd1
              go_wp2_with (go_at_call 75; refine (hT.out _ hrd).mono ?_; rintro e w1 ⟨rfl, hb1⟩)
              go_ret
              exact ⟨rfl, bStep hb hb1⟩
            | true =>
              rw [hd1, Bool.true_and] at hR2
              have hT := Lib.hid (fun (w : World) (hrd) => rtwice_any A L.length c L w hrd (by omega))
              have hT2 := Lib.hid (fun (w : World) (hrd) => rtwice_any na g.names.length nc g.names w hrd (by omega))
              rw [hd1] at hT
              replace hd1 := Lib.hid hd1
              cases hd2 : decide g.names.Nodup with
              | false =>
                rw [hd2, if_pos rfl] at hR2
                subst hR2
                rw [hd2] at hT2
                replace hd2 := Lib.hid hd2
                go_wp2_with fail
                refine (hT.out _ hrd).mono ?_
                rintro e w1 ⟨rfl, hb1⟩
                have q1 := (q0.step hb1).cell 3
                have hn1 := (hga.names.below (hb1.mono hb.size)).mono (Nat.le_trans hb.size hb1.size)
                simp only [List.getElem?_toArray, List.getElem?_cons_zero, List.getElem?_cons_succ] at q1
                go_wp2_with fail
                refine (hT2.out _ hn1).mono ?_
                rintro e w2 ⟨rfl, hb2⟩
                go_wp2_with fail
                go_ret
                exact ⟨rfl, bStep (bStep hb hb1) hb2⟩
              | true =>
                rw [hd2, if_neg (by simp)] at hR2
                subst hR2
                rw [hd2] at hT2
                replace hd2 := Lib.hid hd2
                go_wp2_with fail
                refine (hT.out _ hrd).mono ?_
                rintro e w1 ⟨rfl, hb1⟩
                have q1 := (q0.step hb1).cell 3
                have hn1 := (hga.names.below (hb1.mono hb.size)).mono (Nat.le_trans hb.size hb1.size)
                simp only [List.getElem?_toArray, List.getElem?_cons_zero, List.getElem?_cons_succ] at q1
                go_wp2_with fail
                refine (hT2.out _ hn1).mono ?_
                rintro e w2 ⟨rfl, hb2⟩
                go_wp2_with fail
                go_ret
                exact ⟨rfl, bStep (bStep hb hb1) hb2⟩
end Go.Proofs.YtlngbphchhbpbaaGreat

/- The reference 09: symbols, Check. -/
namespace Go.Proofs.YtlngbphchhbpbaaGreat
open Go.ChangeShapes Go.WideShapes Go.ChangeAt Go.RowKit
set_option linter.unusedVariables false

/-- the grammar lies in its box, and where it was; what was there is there -/
def GB (w : World) (g : Gr) (a : GA) (W : World) : Prop := Blk W w.heap.size 25 (gcells g a) ∧ GrAt W w.heap.size g a ∧ Below w.heap.size w W
theorem GB.start {w : World} {g : Gr} {a : GA} (h : GrAt w w.heap.size g a) : GB w g a (w.alloc (.cells (gcells g a) 25)) :=
  ⟨Blk.new w 25 _, h.below (bAlc (Below.refl w.heap.size w) _), bAlc (Below.refl w.heap.size w) _⟩
theorem GB.step {w : World} {g : Gr} {a : GA} {W W1 : World} (h : GB w g a W) (hb : Below W.heap.size W W1) : GB w g a W1 :=
  ⟨h.1.step hb, h.2.1.below (hb.mono h.2.2.size), bStep h.2.2 hb⟩
theorem GB.alloc {w : World} {g : Gr} {a : GA} {W : World} (h : GB w g a W) (o : Obj) : GB w g a (W.alloc o) := h.step ((Below.refl _ _).alloc (Nat.le_refl _) o)
theorem GB.drewN {w : World} {g : Gr} {a : GA} {W : World} (h : GB w g a W) (n : Nat) : GB w g a (W.drewN n) := h.step (bDrwN' W n)
theorem GB.lt {w : World} {g : Gr} {a : GA} {W : World} (h : GB w g a W) : w.heap.size < W.heap.size := h.1.lt
theorem GB.far {w : World} {g : Gr} {a : GA} {W : World} (h : GB w g a W) (p : Addr) (v : Value) (hp : w.heap.size < p.block) : GB w g a (W.setCell p v) :=
  ⟨h.1.far (by omega) v, h.2.1.below ((Below.refl _ _).setCell (by omega) v), bSet h.2.2 p v (by omega)⟩
theorem GB.cells {w : World} {g : Gr} {a : GA} {W : World} (h : GB w g a W) : W.cell? ⟨w.heap.size, 0, none⟩ = some (.int .i64 g.k) ∧ W.cell? ⟨w.heap.size, 1, none⟩ = some (.slice a.ta g.toks.length a.tc) ∧ W.cell? ⟨w.heap.size, 2, none⟩ = some (.string g.sep) ∧
    W.cell? ⟨w.heap.size, 3, none⟩ = some (.slice a.na g.names.length a.nc) ∧ W.cell? ⟨w.heap.size, 4, none⟩ = some (.int .i64 g.start) ∧ W.cell? ⟨w.heap.size, 5, none⟩ = some (.slice a.pa g.prods.length a.pc) :=
  ⟨h.1.cell 0, h.1.cell 1, h.1.cell 2, h.1.cell 3, h.1.cell 4, h.1.cell 5⟩

def syB (g : Gr) (s : Int) : Bool := tmB g s || ntB g s
def prB (g : Gr) (p : Pr) : Bool := ntB g p.left && p.right.all (syB g)
def syTo (g : Gr) (i : Nat) : Bool := ntB g g.start && (g.prods.take i).all (prB g)
theorem syTo_all (g : Gr) : syTo g g.prods.length = symB g := by
  unfold syTo symB
  rw [List.take_of_length_le (Nat.le_refl _)]
  rfl

theorem prIdx_none (ps : List Pr) (s : Int) : (prIdx ps s ps.length).length = 0 ↔ ps.any (fun p => decide (p.left = s)) = false := by
  rw [List.length_eq_zero_iff, List.any_eq_false]
  unfold prIdx
  rw [List.map_eq_nil_iff, List.filter_eq_nil_iff]
  constructor
  · intro h p hp
    obtain ⟨i, hi, rfl⟩ := List.mem_iff_getElem.1 hp
    have := h i (List.mem_range.2 hi)
    simpa [List.getD_eq_getElem?_getD, List.getElem?_eq_getElem hi] using this
  · intro h i hi
    have hi := List.mem_range.1 hi
    have := h ps[i] (List.getElem_mem hi)
    simpa [List.getD_eq_getElem?_getD, List.getElem?_eq_getElem hi] using this
theorem ord_iff (g : Gr) : ordB g = true ↔ ∀ (j : Nat) (p q : Pr), g.prods[j]? = some p → g.prods[j + 1]? = some q → p.left ≤ q.left := by
  unfold ordB
  rw [List.all_eq_true]
  constructor
  · intro h j p q hp hq
    have hlt := (List.getElem?_eq_some_iff.1 hq).1
    have := h (j + 1) (List.mem_range.2 hlt)
    simpa [List.getD_eq_getElem?_getD, hp, hq] using this
  · intro h i hi
    have hi := List.mem_range.1 hi
    cases i with
    | zero => simp
    | succ j =>
      have hp : g.prods[j]? = some g.prods[j] := List.getElem?_eq_getElem (by omega)
      have hq : g.prods[j + 1]? = some g.prods[j + 1] := List.getElem?_eq_getElem hi
      have := h j _ _ hp hq
      simpa [List.getD_eq_getElem?_getD, hp, hq] using this

set_option maxHeartbeats 2000000 in
theorem rsymbols_any (g : Gr) (a : GA) (w : World) (hg : GrAt w w.heap.size g a) (ht : g.toks.length ≤ 100000) (hn : g.names.length ≤ 100000) (hp : g.prods.length ≤ 100000) (hr : ∀ p ∈ g.prods, p.right.length ≤ 1000000) :
    Calls Tryz.prog 58 #[gval g a] w fun e w' => e = .returned (.int .i64 (if symB g = false then 14 else if ordB g = false then 9 else if compB g = false then 7 else 0)) ∧ Below w.heap.size w w' := by
  obtain ⟨ta, tc, na, nc, pa, pc⟩ := a
  obtain ⟨R, hR⟩ : ∃ R : Int, R = if symB g = false then 14 else if ordB g = false then 9 else if compB g = false then 7 else 0 := ⟨_, rfl⟩
  rw [← hR]
  replace hR := Lib.hid hR
  have hG0 := GB.start hg
  clear hg
  have hT := Lib.hid (fun s w => rterminal_any g ⟨ta, tc, na, nc, pa, pc⟩ s w (by omega))
  have hN := Lib.hid (fun s w => rnonterm_any g ⟨ta, tc, na, nc, pa, pc⟩ s w (by omega))
  unfold gval at *
  unfold gcells at hT hN hG0 ⊢
  dsimp only at *
  go_enter Tryz.func58, Tryz.ntmps58
  go_wp2_with fail
  refine (hN.out _ _).mono ?_
  rintro e w1 ⟨rfl, hb1⟩
  have hG := hG0.step hb1
  clear hG0 hb1
  have hs0 : ntB g g.start = syTo g 0 := by simp [syTo]
  rw [hs0]
  replace hs0 := Lib.hid hs0
  go_wp2_with fail
  go_loopg [3, 4] g.prods.length (fun gk s3 s4 wr => ∃ i : Nat, s3 = .bool (syTo g i) ∧ s4 = .int .i64 i ∧ i + gk = g.prods.length ∧ GB w g ⟨ta, tc, na, nc, pa, pc⟩ wr)
  case atStart => exact ⟨0, rfl, rfl, by omega, hG⟩
  case round =>
    clear hG
    obtain ⟨i, rfl, rfl, hi, hG⟩ := hrel
    replace hi := Lib.hid hi
    obtain ⟨c0, c1, c2, c3, c4, c5⟩ := hG.cells
    dsimp only at c1 c3 c5
    by_cases hin : i < g.prods.length
    · have hxi : g.prods[i]? = some g.prods[i] := List.getElem?_eq_getElem hin
      obtain ⟨b, off, hA, hbt, x0, RA, rc, x1, hx2, hx3, hx4⟩ := hG.2.1.prods.get hxi
      dsimp only at hA
      subst hA
      have hmem := List.getElem_mem hin
      have hrl := hr _ hmem
      have htk : g.prods.take (i + 1) = g.prods.take i ++ [g.prods[i]] := List.take_succ_eq_append_getElem hin
      have hsucc : syTo g (i + 1) = (syTo g i && prB g g.prods[i]) := by unfold syTo; rw [htk, List.all_append, List.all_cons, List.all_nil, Bool.and_true, Bool.and_assoc]
      clear htk
      generalize g.prods[i] = p at *
      replace hxi := Lib.hid hxi
      replace hsucc := Lib.hid hsucc
      replace hmem := Lib.hid hmem
      have hzi : (0 : Int) ≤ i := by omega
      have hzn : (i : Int) < g.prods.length := by omega
      generalize syTo g i = ok at *
      go_upto_region 6 with (fail)
      have hG1 := hG.alloc (.cells #[.int .i64 p.left, .slice RA p.right.length rc] 37)
      have hP1 := Blk.new wr 37 #[.int .i64 p.left, .slice RA p.right.length rc]
      have hwlt := hG.lt
      have hRr : ∀ W, Below w.heap.size wr W → Rd1 W w.heap.size RA p.right.length (ints p.right) := fun W h => hx2.below h
      have hbW : Below w.heap.size wr (wr.alloc (.cells #[.int .i64 p.left, .slice RA p.right.length rc] 37)) := (Below.refl _ _).alloc hG.2.2.size _
      obtain ⟨wq, hwq⟩ : ∃ wq, wq = wr.alloc (.cells #[.int .i64 p.left, .slice RA p.right.length rc] 37) := ⟨_, rfl⟩
      rw [← hwq] at hG1 hP1 hbW ⊢
      replace hRr := Lib.hid hRr
      have hlt2 : wr.heap.size < wq.heap.size := by rw [hwq]; simp
      clear hwq
      clear c0 c1 c2 c3 c4 c5 x0 x1 hx2 hG
      obtain ⟨c0, c1, c2, c3, c4, c5⟩ := hG1.cells
      dsimp only at c1 c3 c5
      have p0 := hP1.cell 0
      have p1 := hP1.cell 1
      simp only [List.getElem?_toArray, List.getElem?_cons_zero, List.getElem?_cons_succ] at p0 p1
      go_cut [3] (fun s3 wx => s3 = .bool (ok && ntB g p.left) ∧ GB w g ⟨ta, tc, na, nc, some ⟨b, off, none⟩, pc⟩ wx ∧ Blk wx wr.heap.size 37 #[.int .i64 p.left, .slice RA p.right.length rc] ∧ Below w.heap.size wr wx ∧ wr.heap.size < wx.heap.size)
      case first =>
        cases ok with
        | false =>
          go_wp2_with fail
          go_meet
          exact ⟨rfl, hG1, hP1, hbW, hlt2⟩
        | true =>
          go_wp2_with fail
          refine (hN.out _ _).mono ?_
          rintro e w2 ⟨rfl, hb2⟩
          go_wp2_with fail
          go_meet
          exact ⟨rfl, hG1.step hb2, hP1.step hb2, hbW.trans (hb2.mono hG1.2.2.size), Nat.lt_of_lt_of_le hlt2 hb2.size⟩
      case rest =>
        clear hG1 hP1 hbW hlt2 c0 c1 c2 c3 c4 c5 p0 p1
        obtain ⟨rfl, hG, hP1, hbW, hlt2⟩ := hcut
        generalize hcc : (ok && ntB g p.left) = c
        replace hcc := Lib.hid hcc
        go_wp2_with fail
        go_loopg [3, 6] p.right.length (fun gk s3 s6 wx => ∃ k : Nat, s3 = .bool (c && (p.right.take k).all (syB g)) ∧ s6 = .int .i64 k ∧ k + gk = p.right.length ∧ GB w g ⟨ta, tc, na, nc, some ⟨b, off, none⟩, pc⟩ wx ∧ Blk wx wr.heap.size 37 #[.int .i64 p.left, .slice RA p.right.length rc] ∧ Below w.heap.size wr wx)
        case atStart => exact ⟨0, by simp, rfl, by omega, hG, hP1, hbW⟩
        case round =>
          clear hG hP1 hbW hlt2
          obtain ⟨k, rfl, rfl, hk, hG, hP1, hbW⟩ := hrel
          replace hk := Lib.hid hk
          obtain ⟨c0, c1, c2, c3, c4, c5⟩ := hG.cells
          dsimp only at c1 c3 c5
          have p0 := hP1.cell 0
          have p1 := hP1.cell 1
          simp only [List.getElem?_toArray, List.getElem?_cons_zero, List.getElem?_cons_succ] at p0 p1
          by_cases hkn : k < p.right.length
          · have hsk : p.right[k]? = some p.right[k] := List.getElem?_eq_getElem hkn
            obtain ⟨b2, off2, rfl, hbt2, y0⟩ := (hRr.out _ hbW).get (i := k) (v := .int .i64 p.right[k]) (by simp [ints, hsk])
            have htk : p.right.take (k + 1) = p.right.take k ++ [p.right[k]] := List.take_succ_eq_append_getElem hkn
            have hsucc2 : (c && (p.right.take (k + 1)).all (syB g)) = ((c && (p.right.take k).all (syB g)) && syB g p.right[k]) := by rw [htk, List.all_append, List.all_cons, List.all_nil, Bool.and_true, Bool.and_assoc]
            clear htk
            generalize p.right[k] = s at *
            replace hsk := Lib.hid hsk
            replace hsucc2 := Lib.hid hsucc2
            have hzk : (0 : Int) ≤ k := by omega
            have hzkn : (k : Int) < p.right.length := by omega
            generalize hd : (c && (p.right.take k).all (syB g)) = d
            replace hd := Lib.hid hd
            have z0 := cell_kept c0
            have z1 := cell_kept c1
            have z2 := cell_kept c2
            have z3 := cell_kept c3
            have z4 := cell_kept c4
            have z5 := cell_kept c5
            have zp := cell_kept p1
            have zy := cell_kept y0
            cases d with
            | false =>
              go_wp2_with fail
              refine wp_region_kept (by kernel_rfl) (by kernel_rfl) ?_
              repeat (go_big_quiet_step (fail))
              refine wpQuiet_nil ?_
              rintro _ ⟨q, rfl⟩
              have hqk := q.kept
              generalize q.world = w2 at hqk
              clear z0 z1 z2 z3 z4 z5 zp zy
              go_wp2_with fail
              go_roundg (p.right.length - (k + 1))
              case measure => have := hk.out; omega
              case rel => exact ⟨k + 1, by rw [hsucc2.out, hd.out]; rfl, by go_num, by have := hk.out; omega, hG.step hqk, hP1.step hqk, hbW.trans (hqk.mono hG.2.2.size)⟩
            | true =>
              cases ht1 : tmB g s with
              | true =>
                have hT2 := Lib.hid (hT.out s)
                rw [ht1] at hT2
                have hsy : syB g s = true := by unfold syB; rw [ht1]; rfl
                replace ht1 := Lib.hid ht1
                go_wp2_with fail
                refine wp_region_kept (by kernel_rfl) (by kernel_rfl) ?_
                repeat (go_big_quiet_step ((go_at_call 77; exact Calls.kept_by (hT2.out _))))
                refine wpQuiet_nil ?_
                rintro _ ⟨q, rfl⟩
                have hqk := q.kept
                generalize q.world = w2 at hqk
                clear z0 z1 z2 z3 z4 z5 zp zy
                go_wp2_with fail
                go_roundg (p.right.length - (k + 1))
                case measure => have := hk.out; omega
                case rel => exact ⟨k + 1, by rw [hsucc2.out, hd.out, hsy]; rfl, by go_num, by have := hk.out; omega, hG.step hqk, hP1.step hqk, hbW.trans (hqk.mono hG.2.2.size)⟩
              | false =>
                have hT2 := Lib.hid (hT.out s)
                have hN2 := Lib.hid (hN.out s)
                rw [ht1] at hT2
                have hsy : syB g s = ntB g s := by unfold syB; rw [ht1]; rfl
                replace ht1 := Lib.hid ht1
                generalize hnn : ntB g s = nn at *
                replace hnn := Lib.hid hnn
                go_wp2_with fail
                refine wp_region_kept (by kernel_rfl) (by kernel_rfl) ?_
                repeat (go_big_quiet_step ((first | (go_at_call 77; exact Calls.kept_by (hT2.out _)) | (go_at_call 76; exact Calls.kept_by (hN2.out _)))))
                refine wpQuiet_nil ?_
                rintro _ ⟨q, rfl⟩
                have hqk := q.kept
                generalize q.world = w2 at hqk
                clear z0 z1 z2 z3 z4 z5 zp zy
                go_wp2_with fail
                go_roundg (p.right.length - (k + 1))
                case measure => have := hk.out; omega
                case rel => exact ⟨k + 1, by rw [hsucc2.out, hd.out, hsy]; rfl, by go_num, by have := hk.out; omega, hG.step hqk, hP1.step hqk, hbW.trans (hqk.mono hG.2.2.size)⟩
          · have hall : (p.right.take k).all (syB g) = p.right.all (syB g) := by rw [List.take_of_length_le (by omega)]
            go_wp2_with fail
            go_roundg (g.prods.length - (i + 1))
            case measure => have := hi.out; omega
            case rel => exact ⟨i + 1, by rw [hsucc.out, hall, ← hcc.out]; simp [prB, Bool.and_assoc], by go_num, by have := hi.out; omega, hG⟩
    · have hall : syTo g i = symB g := by rw [← syTo_all, show i = g.prods.length by have := hi.out; omega]
      cases hsy : symB g with
      | false =>
        have hR1 : R = 14 := by rw [hR.out, if_pos hsy]
        subst hR1
        rw [hall, hsy]
        go_wp2_with fail
        go_ret
        exact ⟨rfl, hG.2.2⟩
      | true =>
        have hR1 : R = if ordB g = false then 9 else if compB g = false then 7 else 0 := by rw [hR.out, if_neg (by rw [hsy]; simp)]
        have hO := Lib.hid (ord_iff g)
        generalize ordB g = ob at hO hR1
        generalize hcb : compB g = cb at hR1
        replace hcb := Lib.hid hcb
        rw [hall, hsy]
        replace hR1 := Lib.hid hR1
        clear hall
        replace hsy := Lib.hid hsy
        go_wp2_with fail
        go_loopg [7] g.prods.length (fun gk s7 wx => ∃ j : Nat, s7 = .int .i64 (j + 1 : Nat) ∧ (j + gk = g.prods.length) ∧ GB w g ⟨ta, tc, na, nc, pa, pc⟩ wx ∧ ∀ (k : Nat) (p q : Pr), k < j → g.prods[k]? = some p → g.prods[k + 1]? = some q → p.left ≤ q.left)
        case atStart => exact ⟨0, rfl, by omega, hG, by intro k p q h; omega⟩
        case round =>
          clear hG c0 c1 c2 c3 c4 c5
          obtain ⟨j, rfl, hj, hG, hP⟩ := hrel
          replace hj := Lib.hid hj
          replace hP := Lib.hid hP
          obtain ⟨c0, c1, c2, c3, c4, c5⟩ := hG.cells
          dsimp only at c1 c3 c5
          by_cases hjn : j + 1 < g.prods.length
          · have hxj : g.prods[j]? = some g.prods[j] := List.getElem?_eq_getElem (by omega)
            have hxi : g.prods[j + 1]? = some g.prods[j + 1] := List.getElem?_eq_getElem hjn
            obtain ⟨b, off, hA, hbt, x0, RA, rc, x1, hx2, hx3, hx4⟩ := hG.2.1.prods.get hxi
            dsimp only at hA
            subst hA
            obtain ⟨b', off', hA', hbt', y0, RA', rc', y1, hy2, hy3, hy4⟩ := hG.2.1.prods.get hxj
            cases hA'
            generalize g.prods[j] = p at *
            generalize g.prods[j + 1] = q at *
            replace hxi := Lib.hid hxi
            replace hxj := Lib.hid hxj
            have zI : ((j + 1 : Nat) : Int) - 1 = (j : Int) := by omega
            have zw : IntKind.i64.wrap (j : Int) = j := IntWalk.i64_in _ (by omega)
            have z2 : (0 : Int) ≤ j := by omega
            have z3 : ((j + 1 : Nat) : Int) < g.prods.length := by omega
            have z5 : (j : Int) < g.prods.length := by omega
            by_cases hle : q.left < p.left
            · have hoF : ob = false := by
                cases ob
                · rfl
                · have := hO.out.1 rfl j p q hxj.out hxi.out; omega
              subst hoF
              have hR2 := hR1.out
              rw [if_pos rfl] at hR2
              subst hR2
              go_wp2_with fail
              go_quiet (fail)
              go_wp2_with fail
              go_ret
              exact ⟨rfl, bDrwN hG.2.2 _⟩
            · have hGG := Lib.hid (show ∀ (k : Nat) (p q : Pr), k < j + 1 → g.prods[k]? = some p → g.prods[k + 1]? = some q → p.left ≤ q.left by
                intro k p' q' hk hp' hq'
                by_cases e : k = j
                · subst e
                  rw [hxj.out] at hp'; rw [hxi.out] at hq'
                  cases hp'; cases hq'; omega
                · exact hP.out k p' q' (by omega) hp' hq')
              go_wp2_with fail
              go_quiet (fail)
              go_wp2_with fail
              go_roundg (g.prods.length - (j + 1))
              case measure => have := hj.out; omega
              case rel => exact ⟨j + 1, by go_num, by have := hj.out; omega, hG.drewN _, hGG.out⟩
          · have hoT : ob = true := by
              rw [hO.out]
              intro k p q hp' hq'
              have := (List.getElem?_eq_some_iff.1 hq').1
              exact hP.out k p q (by omega) hp' hq'
            subst hoT
            have hR2 := hR1.out
            rw [if_neg (by simp)] at hR2
            replace hR2 := Lib.hid hR2
            go_wp2_with fail
            go_loopg [8] g.names.length (fun gk s8 wx => ∃ k : Nat, s8 = .int .i64 k ∧ (k + gk = g.names.length) ∧ GB w g ⟨ta, tc, na, nc, pa, pc⟩ wx ∧ ∀ i : Nat, i < k → g.prods.any (fun p => decide (p.left = 16 + (i : Int))) = true)
            case atStart => exact ⟨0, rfl, by omega, hG, by intro i h; omega⟩
            case round =>
              clear hG c0 c1 c2 c3 c4 c5
              obtain ⟨k, rfl, hk, hG, hK⟩ := hrel
              replace hk := Lib.hid hk
              replace hK := Lib.hid hK
              obtain ⟨c0, c1, c2, c3, c4, c5⟩ := hG.cells
              dsimp only at c1 c3 c5
              by_cases hkn : k < g.names.length
              · have hPr := Lib.hid (fun (w : World) (hg : GrAt w w.heap.size g ⟨ta, tc, na, nc, pa, pc⟩) => rprods_any g ⟨ta, tc, na, nc, pa, pc⟩ (16 + (k : Int)) w hg hp)
                unfold gval at hPr
                unfold gcells at hPr
                dsimp only at hPr
                have hnone := Lib.hid (prIdx_none g.prods (16 + (k : Int)))
                have hcb2 := Lib.hid (show g.prods.any (fun p => decide (p.left = 16 + (k : Int))) = false → cb = false from fun h => by
                  rw [← hcb.out]
                  unfold compB
                  rw [List.all_eq_false]
                  exact ⟨k, List.mem_range.2 hkn, by rw [h]; simp⟩)
                have zw : IntKind.i64.wrap (16 + (k : Int)) = 16 + (k : Int) := IntWalk.i64_in _ (by omega)
                go_wp2_with fail
                refine (hPr.out _ (hG.2.1.mono hG.2.2.size)).mono ?_
                rintro e w2 ⟨v, rfl, ho, hb2⟩
                obtain ⟨A, c, rfl, hd1, hk1, hm1, hg1⟩ := ho.reads
                have hil : (ints (prIdx g.prods (16 + (k : Int)) g.prods.length)).length = (prIdx g.prods (16 + (k : Int)) g.prods.length).length := by simp [ints]
                rw [hil]
                clear ho hd1 hk1 hil
                generalize (prIdx g.prods (16 + (k : Int)) g.prods.length).length = m at *
                by_cases hm : m = 0
                · have hcF : cb = false := hcb2.out (hnone.out.1 hm)
                  have hR3 : R = 7 := by rw [hR2.out, if_pos hcF]
                  subst hR3
                  have hmb : ((m : Int) == 0) = true := by simp [hm]
                  clear hm
                  go_wp2_with fail
                  go_ret
                  exact ⟨rfl, bStep hG.2.2 hb2⟩
                · have hmb : ((m : Int) == 0) = false := by simp [hm]
                  have hKK := Lib.hid (show ∀ i : Nat, i < k + 1 → g.prods.any (fun p => decide (p.left = 16 + (i : Int))) = true by
                    intro i hi
                    by_cases e : i = k
                    · subst e
                      cases hany : g.prods.any (fun p => decide (p.left = 16 + (i : Int)))
                      · exact absurd (hnone.out.2 hany) hm
                      · rfl
                    · exact hK.out i (by omega))
                  clear hm
                  go_wp2_with fail
                  go_roundg (g.names.length - (k + 1))
                  case measure => have := hk.out; omega
                  case rel => exact ⟨k + 1, by go_num, by have := hk.out; omega, hG.step hb2, hKK.out⟩
              · have hcT : cb = true := by
                  rw [← hcb.out]
                  unfold compB
                  rw [List.all_eq_true]
                  intro i hi
                  exact hK.out i (by have := List.mem_range.1 hi; omega)
                have hR3 : R = 0 := by rw [hR2.out, if_neg (by rw [hcT]; simp)]
                subst hR3
                go_wp2_with fail
                go_ret
                exact ⟨rfl, hG.2.2⟩
end Go.Proofs.YtlngbphchhbpbaaGreat

/- The reference 09: Check. -/
namespace Go.Proofs.YtlngbphchhbpbaaGreat
open Go.ChangeShapes Go.WideShapes Go.ChangeAt Go.RowKit
set_option linter.unusedVariables false

/-- a grammar within the reach of the statements -/
structure Small (g : Gr) : Prop where
  t : g.toks.length ≤ 100000
  n : g.names.length ≤ 100000
  p : g.prods.length ≤ 100000
  r : ∀ p ∈ g.prods, p.right.length ≤ 1000000

theorem gchk_1 {g : Gr} (h : g.k < 1 ∨ 4 < g.k) : gchk g = 2 := by unfold gchk; rw [if_pos h]
theorem gchk_2 {g : Gr} (h : ¬ (g.k < 1 ∨ 4 < g.k)) (h2 : fullB g = false) : gchk g = 6 := by unfold gchk; rw [if_neg h, if_pos h2]
theorem gchk_3 {g : Gr} (h : ¬ (g.k < 1 ∨ 4 < g.k)) (h2 : fullB g = true) (h3 : shortB g = true) : gchk g = 5 := by unfold gchk; rw [if_neg h, if_neg (by simp [h2]), if_pos h3]
theorem gchk_4 {g : Gr} (h : ¬ (g.k < 1 ∨ 4 < g.k)) (h2 : fullB g = true) (h3 : shortB g = false) (h4 : nameB g = false) : gchk g = 12 := by unfold gchk; rw [if_neg h, if_neg (by simp [h2]), if_neg (by simp [h3]), if_pos h4]
theorem gchk_5 {g : Gr} (h : ¬ (g.k < 1 ∨ 4 < g.k)) (h2 : fullB g = true) (h3 : shortB g = false) (h4 : nameB g = true) (h5 : diffB g = false) : gchk g = 8 := by
  unfold gchk; rw [if_neg h, if_neg (by simp [h2]), if_neg (by simp [h3]), if_neg (by simp [h4]), if_pos h5]
theorem gchk_6 {g : Gr} (h : ¬ (g.k < 1 ∨ 4 < g.k)) (h2 : fullB g = true) (h3 : shortB g = false) (h4 : nameB g = true) (h5 : diffB g = true) :
    gchk g = if symB g = false then 14 else if ordB g = false then 9 else if compB g = false then 7 else 0 := by
  unfold gchk; rw [if_neg h, if_neg (by simp [h2]), if_neg (by simp [h3]), if_neg (by simp [h4]), if_neg (by simp [h5])]

set_option maxHeartbeats 2000000 in
theorem rcheckg_any (g : Gr) (a : GA) (w : World) (hg : GrAt w w.heap.size g a) (hs : Small g) : Calls Tryz.prog 36 #[gval g a] w fun e w' => e = .returned (.int .i64 (gchk g)) ∧ Below w.heap.size w w' := by
  obtain ⟨ta, tc, na, nc, pa, pc⟩ := a
  obtain ⟨R, hR⟩ : ∃ R : Int, R = gchk g := ⟨_, rfl⟩
  rw [← hR]
  replace hR := Lib.hid hR
  have hs1 := hs.t
  have hs2 := hs.n
  have hs3 := hs.p
  have hs4 := Lib.hid hs.r
  clear hs
  have hF := Lib.hid (fun w h => rfull_any g ⟨ta, tc, na, nc, pa, pc⟩ w h (by omega) (by omega) (by omega) hs4.out)
  have hN := Lib.hid (fun w h => rnamed_any g ⟨ta, tc, na, nc, pa, pc⟩ w h hs1 hs2)
  have hY := Lib.hid (fun w h => rsymbols_any g ⟨ta, tc, na, nc, pa, pc⟩ w h hs1 hs2 hs3 hs4.out)
  have hG0 := GB.start hg
  clear hg
  unfold gval at *
  unfold gcells at hF hN hY hG0 ⊢
  dsimp only at *
  by_cases k1 : g.k < 1
  · have hR1 : R = 2 := hR.out.trans (gchk_1 (.inl k1))
    subst hR1
    go_enter Tryz.func36, Tryz.ntmps36
    go_wp2_with fail
    go_ret
    exact ⟨rfl, hG0.2.2⟩
  by_cases k2 : 4 < g.k
  · have hR1 : R = 2 := hR.out.trans (gchk_1 (.inr k2))
    subst hR1
    go_enter Tryz.func36, Tryz.ntmps36
    go_wp2_with fail
    go_ret
    exact ⟨rfl, hG0.2.2⟩
  have hk : ¬ (g.k < 1 ∨ 4 < g.k) := by omega
  replace hk := Lib.hid hk
  cases hf : fullB g with
  | false =>
    have hR1 : R = 6 := hR.out.trans (gchk_2 hk.out hf)
    subst hR1
    rw [hf] at hF
    replace hf := Lib.hid hf
    go_enter Tryz.func36, Tryz.ntmps36
    go_wp2_with fail
    refine (hF.out _ (hG0.2.1.mono hG0.2.2.size)).mono ?_
    rintro e w1 ⟨rfl, hb1⟩
    have hG := hG0.step hb1
    clear hG0 hb1
    rw [if_pos trivial]
    go_wp2_with fail
    go_ret
    exact ⟨rfl, hG.2.2⟩
  | true =>
    rw [hf] at hF
    cases hsh : shortB g with
    | true =>
      have hR1 : R = 5 := hR.out.trans (gchk_3 hk.out hf hsh)
      subst hR1
      replace hf := Lib.hid hf
      simp only [shortB, Bool.or_eq_true, decide_eq_true_eq] at hsh
      by_cases hs0 : g.toks.length = 0
      · have hsb : ((g.toks.length : Int) == 0) = true := by simp [hs0]
        clear hsh hs0
        go_enter Tryz.func36, Tryz.ntmps36
        go_wp2_with fail
        refine (hF.out _ (hG0.2.1.mono hG0.2.2.size)).mono ?_
        rintro e w1 ⟨rfl, hb1⟩
        have hG := hG0.step hb1
        clear hG0 hb1
        rw [if_neg (by simp)]
        obtain ⟨c0, c1, c2, c3, c4, c5⟩ := hG.cells
        dsimp only at c1 c3 c5
        go_wp2_with fail
        go_ret
        exact ⟨rfl, hG.2.2⟩
      · have hsb : ((g.toks.length : Int) == 0) = false := by simp [hs0]
        have hsc : ((g.names.length : Int) == 0) = true := by rcases hsh with h | h; · exact absurd h hs0
                                                              · simp [h]
        clear hsh hs0
        go_enter Tryz.func36, Tryz.ntmps36
        go_wp2_with fail
        refine (hF.out _ (hG0.2.1.mono hG0.2.2.size)).mono ?_
        rintro e w1 ⟨rfl, hb1⟩
        have hG := hG0.step hb1
        clear hG0 hb1
        rw [if_neg (by simp)]
        obtain ⟨c0, c1, c2, c3, c4, c5⟩ := hG.cells
        dsimp only at c1 c3 c5
        go_wp2_with fail
        go_ret
        exact ⟨rfl, hG.2.2⟩
    | false =>
      have hsh' := hsh
      simp only [shortB, Bool.or_eq_false_iff, decide_eq_false_iff_not] at hsh'
      have hsb : ((g.toks.length : Int) == 0) = false := by simpa using hsh'.1
      have hsc : ((g.names.length : Int) == 0) = false := by simpa using hsh'.2
      clear hsh'
      obtain ⟨E1, hE1⟩ : ∃ E : Int, E = if nameB g = false then 12 else if diffB g = false then 8 else 0 := ⟨_, rfl⟩
      rw [← hE1] at hN
      by_cases h0 : E1 = 0
      · have hn : nameB g = true := by
          cases h : nameB g
          · rw [h, if_pos rfl] at hE1; omega
          · rfl
        have hd : diffB g = true := by
          cases h : diffB g
          · rw [hn, h, if_neg (by simp), if_pos rfl] at hE1; omega
          · rfl
        have hR1 := hR.out.trans (gchk_6 hk.out hf hsh hn hd)
        rw [← hR1] at hY
        replace hf := Lib.hid hf
        replace hsh := Lib.hid hsh
        replace hn := Lib.hid hn
        replace hd := Lib.hid hd
        replace hR1 := Lib.hid hR1
        clear hE1
        subst h0
        go_enter Tryz.func36, Tryz.ntmps36
        go_wp2_with fail
        refine (hF.out _ (hG0.2.1.mono hG0.2.2.size)).mono ?_
        rintro e w1 ⟨rfl, hb1⟩
        have hG := hG0.step hb1
        clear hG0 hb1
        rw [if_neg (by simp)]
        obtain ⟨c0, c1, c2, c3, c4, c5⟩ := hG.cells
        dsimp only at c1 c3 c5
        go_wp2_with fail
        refine (hN.out _ (hG.2.1.mono hG.2.2.size)).mono ?_
        rintro e w2 ⟨rfl, hb2⟩
        have hG2 := hG.step hb2
        clear c0 c1 c2 c3 c4 c5 hG hb2
        obtain ⟨c0, c1, c2, c3, c4, c5⟩ := hG2.cells
        dsimp only at c1 c3 c5
        go_wp2_with fail
        refine (hY.out _ (hG2.2.1.mono hG2.2.2.size)).mono ?_
        rintro e w3 ⟨rfl, hb3⟩
        go_wp2_with fail
        go_ret
        exact ⟨rfl, bStep hG2.2.2 hb3⟩
      · have hR1 : R = E1 := by
          rw [hR.out, hE1]
          cases hn : nameB g
          · rw [gchk_4 hk.out hf hsh hn]; rfl
          · cases hd : diffB g
            · rw [gchk_5 hk.out hf hsh hn hd]; rfl
            · rw [hn, hd] at hE1; simp at hE1; exact absurd hE1 h0
        subst hR1
        have h0b : (R == 0) = false := by simp [h0]
        clear h0
        replace hf := Lib.hid hf
        replace hsh := Lib.hid hsh
        replace hE1 := Lib.hid hE1
        go_enter Tryz.func36, Tryz.ntmps36
        go_wp2_with fail
        refine (hF.out _ (hG0.2.1.mono hG0.2.2.size)).mono ?_
        rintro e w1 ⟨rfl, hb1⟩
        have hG := hG0.step hb1
        clear hG0 hb1
        rw [if_neg (by simp)]
        obtain ⟨c0, c1, c2, c3, c4, c5⟩ := hG.cells
        dsimp only at c1 c3 c5
        go_wp2_with fail
        refine (hN.out _ (hG.2.1.mono hG.2.2.size)).mono ?_
        rintro e w2 ⟨rfl, hb2⟩
        go_wp2_with fail
        go_ret
        exact ⟨rfl, bStep hG.2.2 hb2⟩
end Go.Proofs.YtlngbphchhbpbaaGreat

/- What forms derive, plainly: no program in sight. -/
namespace Go.Proofs.YtlngbphchhbpbaaGreat
set_option linter.unusedVariables false

/-- what a form derives -/
inductive Der (ps : List Pr) : List Int → List Int → Prop
  | nil : Der ps [] []
  | term (s : Int) (f w : List Int) (h : s < 16) (hf : Der ps f w) : Der ps (s :: f) (s :: w)
  | nont (p : Pr) (f u w : List Int) (hp : p ∈ ps) (h : 16 ≤ p.left) (hu : Der ps p.right u) (hf : Der ps f w) : Der ps (p.left :: f) (u ++ w)
/-- what may stand for a symbol -/
def Ch (S : Int → List (List Int)) (s : Int) (y : List Int) : Prop := (s < 16 ∧ y = [s]) ∨ (16 ≤ s ∧ y ∈ S s)
/-- the strings of a form, from those of its symbols -/
inductive Cat (S : Int → List (List Int)) : List Int → List Int → Prop
  | nil : Cat S [] []
  | cons (s : Int) (f y w : List Int) (hs : Ch S s y) (hf : Cat S f w) : Cat S (s :: f) (y ++ w)
theorem cat_nil {S : Int → List (List Int)} {w : List Int} (h : Cat S [] w) : w = [] := by cases h; rfl
theorem cat_cons {S : Int → List (List Int)} {s : Int} {f w : List Int} (h : Cat S (s :: f) w) : ∃ y v, w = y ++ v ∧ Ch S s y ∧ Cat S f v := by
  cases h with | cons _ _ y v hs hf => exact ⟨y, v, rfl, hs, hf⟩
theorem cat_app {S : Int → List (List Int)} {f g u v : List Int} (h : Cat S f u) (k : Cat S g v) : Cat S (f ++ g) (u ++ v) := by
  induction h with
  | nil => exact k
  | cons s f y w hs _ ih => rw [List.append_assoc]; exact .cons s _ y _ hs ih
theorem cat_split {S : Int → List (List Int)} : ∀ {f g w : List Int}, Cat S (f ++ g) w → ∃ u v, w = u ++ v ∧ Cat S f u ∧ Cat S g v
  | [], g, w, h => ⟨[], w, rfl, .nil, h⟩
  | s :: f, g, w, h => by
    obtain ⟨y, v, rfl, hs, hf⟩ := cat_cons h
    obtain ⟨u, v', rfl, h1, h2⟩ := cat_split hf
    exact ⟨y ++ u, v', by rw [List.append_assoc], .cons s f y u hs h1, h2⟩
theorem cat_one {S : Int → List (List Int)} {s : Int} {y : List Int} (h : Ch S s y) : Cat S [s] y := by
  have := Cat.cons s [] y [] h .nil
  rwa [List.append_nil] at this
theorem cat_snoc {S : Int → List (List Int)} {f : List Int} {s : Int} {w : List Int} (h : Cat S (f ++ [s]) w) : ∃ x y, w = x ++ y ∧ Cat S f x ∧ Ch S s y := by
  obtain ⟨u, v, rfl, h1, h2⟩ := cat_split h
  obtain ⟨y, v', rfl, hs, hn⟩ := cat_cons h2
  rw [cat_nil hn, List.append_nil]
  exact ⟨u, y, rfl, h1, hs⟩
theorem cat_mono {S T : Int → List (List Int)} (h : ∀ a, ∀ x ∈ S a, x ∈ T a) {f w : List Int} (hc : Cat S f w) : Cat T f w := by
  induction hc with
  | nil => exact .nil
  | cons s f y w hs _ ih => exact .cons s f y w (hs.imp id fun ⟨a, b⟩ => ⟨a, h s y b⟩) ih

/-- what a nonterminal derives -/
def Yld (ps : List Pr) (a : Int) (u : List Int) : Prop := ∃ p ∈ ps, p.left = a ∧ Der ps p.right u
/-- sets of derived strings of at most so many terminals -/
def SndS (ps : List Pr) (most : Nat) (S : Int → List (List Int)) : Prop := ∀ a, ∀ x ∈ S a, Yld ps a x ∧ x.length ≤ most
/-- sets that have all strings which the productions make of them -/
def ClsS (ps : List Pr) (most : Nat) (S : Int → List (List Int)) : Prop := ∀ p ∈ ps, ∀ x, Cat S p.right x → x.length ≤ most → x ∈ S p.left
theorem cat_der {ps : List Pr} {most : Nat} {S : Int → List (List Int)} (hS : SndS ps most S) {f w : List Int} (h : Cat S f w) : Der ps f w := by
  induction h with
  | nil => exact .nil
  | cons s f y w hs _ ih =>
    rcases hs with ⟨h1, rfl⟩ | ⟨h1, h2⟩
    · exact .term s f w h1 ih
    · obtain ⟨⟨p, hp, rfl, hd⟩, _⟩ := hS s y h2
      exact .nont p f y w hp h1 hd ih
theorem der_cat {ps : List Pr} {most : Nat} {S : Int → List (List Int)} (hC : ClsS ps most S) {f w : List Int} (h : Der ps f w) : w.length ≤ most → Cat S f w := by
  induction h with
  | nil => intro _; exact .nil
  | term s f w h _ ih => intro hl; exact .cons s f [s] w (.inl ⟨h, rfl⟩) (ih (by simp at hl; omega))
  | nont p f u w hp h _ _ ihu ihw =>
    intro hl
    rw [List.length_append] at hl
    exact .cons _ f u w (.inr ⟨h, hC p hp u (ihu (by omega)) (by omega)⟩) (ihw (by omega))
theorem sets_yld {ps : List Pr} {most : Nat} {S : Int → List (List Int)} (hS : SndS ps most S) (hC : ClsS ps most S) (a : Int) (x : List Int) : x ∈ S a ↔ Yld ps a x ∧ x.length ≤ most := by
  refine ⟨hS a x, ?_⟩
  rintro ⟨⟨p, hp, rfl, hd⟩, hl⟩
  exact hC p hp x (der_cat hC hd hl) hl
theorem der_one {ps : List Pr} {a : Int} {x : List Int} (ha : 16 ≤ a) : Der ps [a] x ↔ Yld ps a x := by
  constructor
  · intro h
    cases h with
    | term _ _ _ h _ => omega
    | nont p _ u w hp h hu hf => cases hf; exact ⟨p, hp, rfl, by rwa [List.append_nil]⟩
  · rintro ⟨p, hp, rfl, hd⟩
    have := Der.nont p [] x [] hp ha hd .nil
    rwa [List.append_nil] at this
/-- letters of a derived string are terminals -/
theorem der_letters {ps : List Pr} {P : Int → Prop} (hp : ∀ p ∈ ps, ∀ s ∈ p.right, s < 16 → P s) {f w : List Int} (h : Der ps f w) : (∀ s ∈ f, s < 16 → P s) → ∀ c ∈ w, P c := by
  induction h with
  | nil => intro _ c hc; cases hc
  | term s f w h _ ih =>
    intro hf c hc
    rcases List.mem_cons.1 hc with rfl | hc
    · exact hf _ List.mem_cons_self h
    · exact ih (fun s hs => hf s (List.mem_cons_of_mem _ hs)) c hc
  | nont p f u w hpm h _ _ ihu ihw =>
    intro hf c hc
    rcases List.mem_append.1 hc with hc | hc
    · exact ihu (hp p hpm) c hc
    · exact ihw (fun s hs => hf s (List.mem_cons_of_mem _ hs)) c hc

/-- the strings of the first symbols, as far as there is room for the others -/
def Pre (S : Int → List (List Int)) (most : Nat) (f g : List Int) (all : List (List Int)) : Prop :=
  (∀ x ∈ all, Cat S f x ∧ x.length ≤ most) ∧ ∀ x v, Cat S f x → Cat S g v → x.length + v.length ≤ most → x ∈ all
theorem pre_start (S : Int → List (List Int)) (most : Nat) (g : List Int) : Pre S most [] g [[]] := by
  refine ⟨?_, ?_⟩
  · intro x hx
    have : x = [] := by simpa using hx
    subst this; exact ⟨.nil, by simp⟩
  · intro x v h _ _; rw [cat_nil h]; simp
/-- a symbol more: what comes of the strings x with each y for the symbol for which there is room -/
theorem pre_step {S : Int → List (List Int)} {most : Nat} {f g : List Int} {s : Int} {all next : List (List Int)} {sh : Nat} (h : Pre S most f (s :: g) all) (hsh : ∀ v, Cat S g v → sh ≤ v.length)
    (hn : ∀ z, z ∈ next ↔ ∃ x ∈ all, ∃ y, Ch S s y ∧ z = x ++ y ∧ x.length + y.length + sh ≤ most) : Pre S most (f ++ [s]) g next := by
  refine ⟨?_, ?_⟩
  · intro z hz
    obtain ⟨x, hx, y, hy, rfl, hl⟩ := (hn z).1 hz
    exact ⟨cat_app (h.1 x hx).1 (cat_one hy), by rw [List.length_append]; omega⟩
  · intro z v hz hv hl
    obtain ⟨x, y, rfl, hx, hy⟩ := cat_snoc hz
    rw [List.length_append] at hl
    have := hsh v hv
    refine (hn _).2 ⟨x, h.2 x (y ++ v) hx (.cons s g y v hy hv) (by rw [List.length_append]; omega), y, hy, rfl, by omega⟩
theorem pre_end {S : Int → List (List Int)} {most : Nat} {f : List Int} {all : List (List Int)} (h : Pre S most f [] all) (x : List Int) : x ∈ all ↔ Cat S f x ∧ x.length ≤ most :=
  ⟨h.1 x, fun ⟨a, b⟩ => h.2 x [] a .nil (by simpa using b)⟩

/-- shorter ones first -/
def lex : List Int → List Int → Int
  | [], [] => 0
  | [], _ :: _ => -1
  | _ :: _, [] => 1
  | a :: l, b :: m => if a < b then -1 else if b < a then 1 else lex l m
def tcmp (a b : List Int) : Int := if a.length < b.length then -1 else if b.length < a.length then 1 else lex a b
theorem lex_vals : ∀ a b : List Int, lex a b = -1 ∨ lex a b = 0 ∨ lex a b = 1
  | [], [] => .inr (.inl rfl)
  | [], _ :: _ => .inl rfl
  | _ :: _, [] => .inr (.inr rfl)
  | a :: l, b :: m => by unfold lex; split; · simp
                         split; · simp
                         exact lex_vals l m
theorem lex_anti : ∀ a b : List Int, lex b a = -lex a b
  | [], [] => rfl
  | [], _ :: _ => rfl
  | _ :: _, [] => rfl
  | a :: l, b :: m => by
    unfold lex
    by_cases h1 : a < b
    · rw [if_pos h1, if_neg (by omega), if_pos h1]; rfl
    · by_cases h2 : b < a
      · rw [if_pos h2, if_neg h1, if_pos h2]
      · rw [if_neg h1, if_neg h2, if_neg h2, if_neg h1]; exact lex_anti l m
theorem lex_eq : ∀ {a b : List Int}, lex a b = 0 → a = b
  | [], [], _ => rfl
  | [], _ :: _, h => by simp [lex] at h
  | _ :: _, [], h => by simp [lex] at h
  | a :: l, b :: m, h => by
    unfold lex at h
    by_cases h1 : a < b
    · rw [if_pos h1] at h; omega
    · by_cases h2 : b < a
      · rw [if_neg h1, if_pos h2] at h; omega
      · rw [if_neg h1, if_neg h2] at h
        rw [lex_eq h, show a = b by omega]
theorem lex_refl : ∀ a : List Int, lex a a = 0
  | [] => rfl
  | a :: l => by unfold lex; rw [if_neg (by omega), if_neg (by omega)]; exact lex_refl l
theorem lex_trans : ∀ {a b c : List Int}, lex a b = -1 → lex b c = -1 → lex a c = -1
  | [], [], c, h1, h2 => by simp [lex] at h1
  | [], b :: m, [], h1, h2 => by simp [lex] at h2
  | [], b :: m, c :: n, h1, h2 => rfl
  | a :: l, [], c, h1, h2 => by simp [lex] at h1
  | a :: l, b :: m, [], h1, h2 => by simp [lex] at h2
  | a :: l, b :: m, c :: n, h1, h2 => by
    unfold lex at h1 h2 ⊢
    by_cases x1 : a < b
    · by_cases y1 : b < c
      · rw [if_pos (by omega)]
      · by_cases y2 : c < b
        · rw [if_neg y1, if_pos y2] at h2; omega
        · rw [if_pos (by omega)]
    · by_cases x2 : b < a
      · rw [if_neg x1, if_pos x2] at h1; omega
      · rw [if_neg x1, if_neg x2] at h1
        by_cases y1 : b < c
        · rw [if_pos (by omega)]
        · by_cases y2 : c < b
          · rw [if_neg y1, if_pos y2] at h2; omega
          · rw [if_neg y1, if_neg y2] at h2
            rw [if_neg (by omega), if_neg (by omega)]
            exact lex_trans h1 h2
theorem tcmp_vals (a b : List Int) : tcmp a b = -1 ∨ tcmp a b = 0 ∨ tcmp a b = 1 := by
  unfold tcmp; split; · simp
  split; · simp
  exact lex_vals a b
theorem tcmp_anti (a b : List Int) : tcmp b a = -tcmp a b := by
  unfold tcmp
  by_cases h1 : a.length < b.length
  · rw [if_pos h1, if_neg (by omega), if_pos h1]; rfl
  · by_cases h2 : b.length < a.length
    · rw [if_pos h2, if_neg h1, if_pos h2]
    · rw [if_neg h1, if_neg h2, if_neg h2, if_neg h1]; exact lex_anti a b
theorem tcmp_eq {a b : List Int} (h : tcmp a b = 0) : a = b := by
  unfold tcmp at h
  by_cases h1 : a.length < b.length
  · rw [if_pos h1] at h; omega
  · by_cases h2 : b.length < a.length
    · rw [if_neg h1, if_pos h2] at h; omega
    · rw [if_neg h1, if_neg h2] at h; exact lex_eq h
theorem tcmp_refl (a : List Int) : tcmp a a = 0 := by unfold tcmp; rw [if_neg (by omega), if_neg (by omega)]; exact lex_refl a
theorem tcmp_trans {a b c : List Int} (h1 : tcmp a b = -1) (h2 : tcmp b c = -1) : tcmp a c = -1 := by
  unfold tcmp at h1 h2 ⊢
  by_cases x1 : a.length < b.length
  · by_cases y1 : b.length < c.length
    · rw [if_pos (by omega)]
    · by_cases y2 : c.length < b.length
      · rw [if_neg y1, if_pos y2] at h2; omega
      · rw [if_pos (by omega)]
  · by_cases x2 : b.length < a.length
    · rw [if_neg x1, if_pos x2] at h1; omega
    · rw [if_neg x1, if_neg x2] at h1
      by_cases y1 : b.length < c.length
      · rw [if_pos (by omega)]
      · by_cases y2 : c.length < b.length
        · rw [if_neg y1, if_pos y2] at h2; omega
        · rw [if_neg y1, if_neg y2] at h2
          rw [if_neg (by omega), if_neg (by omega)]
          exact lex_trans h1 h2
/-- in order, each once -/
def AscT (l : List (List Int)) : Prop := l.Pairwise fun x y => tcmp x y = -1
theorem ascT_uniq : ∀ {l m : List (List Int)}, AscT l → AscT m → (∀ x, x ∈ l ↔ x ∈ m) → l = m
  | [], [], _, _, _ => rfl
  | [], b :: m, _, _, h => by have := (h b).2 List.mem_cons_self; cases this
  | a :: l, [], _, _, h => by have := (h a).1 List.mem_cons_self; cases this
  | a :: l, b :: m, h1, h2, h => by
    obtain ⟨p1, p2⟩ := List.pairwise_cons.1 h1
    obtain ⟨q1, q2⟩ := List.pairwise_cons.1 h2
    have hab : a = b := by
      rcases List.mem_cons.1 ((h a).1 List.mem_cons_self) with e | e
      · exact e
      · rcases List.mem_cons.1 ((h b).2 List.mem_cons_self) with e' | e'
        · exact e'.symm
        · have x1 := p1 b e'
          have x2 := q1 a e
          rw [tcmp_anti, x1] at x2; omega
    subst hab
    rw [ascT_uniq p2 q2 fun x => ?_]
    constructor
    · intro hx
      rcases List.mem_cons.1 ((h x).1 (List.mem_cons_of_mem _ hx)) with e | e
      · subst e; have := p1 x hx; rw [tcmp_refl] at this; omega
      · exact e
    · intro hx
      rcases List.mem_cons.1 ((h x).2 (List.mem_cons_of_mem _ hx)) with e | e
      · subst e; have := q1 x hx; rw [tcmp_refl] at this; omega
      · exact e

/-- more than 600 strings of at most so many terminals -/
def Big (t most : Nat) : Prop := ∃ S : List (List Int), S.Nodup ∧ 600 < S.length ∧ ∀ x ∈ S, x.length ≤ most ∧ ∀ c ∈ x, 0 ≤ c ∧ c < (t : Int)
/-- all strings of at most so many terminals -/
def allT (t : Nat) : Nat → List (List Int)
  | 0 => [[]]
  | n + 1 => [] :: (allT t n).flatMap fun x => (List.range t).map fun (c : Nat) => (c : Int) :: x
theorem mem_allT (t : Nat) : ∀ (n : Nat) (x : List Int), x.length ≤ n → (∀ c ∈ x, 0 ≤ c ∧ c < (t : Int)) → x ∈ allT t n
  | 0, x, h, _ => by have : x = [] := List.eq_nil_of_length_eq_zero (by omega); subst this; simp [allT]
  | n + 1, [], _, _ => by simp [allT]
  | n + 1, c :: x, h, hc => by
    have hx := mem_allT t n x (by simp at h; omega) (fun d hd => hc d (List.mem_cons_of_mem _ hd))
    have := hc c List.mem_cons_self
    simp only [allT, List.mem_cons, List.mem_flatMap, List.mem_map, List.mem_range]
    exact .inr ⟨x, hx, c.toNat, by omega, by rw [Int.toNat_of_nonneg this.1]⟩
theorem nodup_lenT {out s : List (List Int)} (h1 : out.Nodup) (h2 : ∀ x ∈ out, x ∈ s) : out.length ≤ s.length := by
  induction out generalizing s with
  | nil => simp
  | cons x out ih =>
    obtain ⟨hx, hn⟩ := List.nodup_cons.1 h1
    have hm := h2 x List.mem_cons_self
    have := ih (s := s.erase x) hn (fun y hy => (List.mem_erase_of_ne (by rintro rfl; exact hx hy)).2 (h2 y (List.mem_cons_of_mem _ hy)))
    rw [List.length_erase_of_mem hm] at this
    have : 0 < s.length := List.length_pos_of_mem hm
    simp; omega
theorem not_big (t most : Nat) (h : (allT t most).length ≤ 600) : ¬ Big t most := by
  rintro ⟨S, hn, hl, hx⟩
  have := nodup_lenT hn fun x h => mem_allT t most x (hx x h).1 (hx x h).2
  omega
/-- sets by the numbers of the nonterminals -/
def setsF (ss : List (List (List Int))) (a : Int) : List (List Int) := if a < 16 then [] else ss.getD (a - 16).toNat []
/-- the strings of a form of at most so many terminals -/
def cats (S : Int → List (List Int)) (most : Nat) : List Int → List (List Int)
  | [] => [[]]
  | s :: f => (if s < 16 then [[s]] else S s).flatMap fun y => ((cats S most f).filter fun w => decide (y.length + w.length ≤ most)).map (y ++ ·)
theorem mem_cats {S : Int → List (List Int)} {most : Nat} : ∀ {f x : List Int}, x ∈ cats S most f ↔ Cat S f x ∧ x.length ≤ most
  | [], x => by
    simp only [cats, List.mem_singleton]
    constructor
    · rintro rfl; exact ⟨.nil, by simp⟩
    · rintro ⟨h, _⟩; exact cat_nil h
  | s :: f, x => by
    simp only [cats, List.mem_flatMap, List.mem_map, List.mem_filter, decide_eq_true_eq]
    constructor
    · rintro ⟨y, hy, w, ⟨hw, hl⟩, rfl⟩
      refine ⟨.cons s f y w ?_ (mem_cats.1 hw).1, by rw [List.length_append]; exact hl⟩
      by_cases h : s < 16
      · rw [if_pos h] at hy; exact .inl ⟨h, by simpa using hy⟩
      · rw [if_neg h] at hy; exact .inr ⟨by omega, hy⟩
    · rintro ⟨hc, hl⟩
      obtain ⟨y, v, rfl, hs, hf⟩ := cat_cons hc
      rw [List.length_append] at hl
      refine ⟨y, ?_, v, ⟨mem_cats.2 ⟨hf, by omega⟩, hl⟩, rfl⟩
      rcases hs with ⟨h, rfl⟩ | ⟨h, hm⟩
      · rw [if_pos h]; simp
      · rw [if_neg (by omega)]; exact hm
/-- rounds -/
def itS (ps : List Pr) (most n : Nat) : Nat → List (List (List Int))
  | 0 => []
  | k + 1 => (List.range n).map fun (a : Nat) => ((ps.filter fun p => decide (p.left = 16 + (a : Int))).flatMap fun p => cats (setsF (itS ps most n k)) most p.right).eraseDups
theorem itS_snd (ps : List Pr) (most n : Nat) : ∀ k, SndS ps most (setsF (itS ps most n k))
  | 0 => by intro a x hx; simp [setsF, itS] at hx
  | k + 1 => by
    intro a x hx
    unfold setsF at hx
    split at hx
    · cases hx
    · rename_i ha
      simp only [itS, List.getD_eq_getElem?_getD, List.getElem?_map] at hx
      by_cases hr : (a - 16).toNat < n
      · rw [List.getElem?_range hr] at hx
        simp only [Option.map_some, Option.getD_some, List.mem_eraseDups, List.mem_flatMap, List.mem_filter, decide_eq_true_eq] at hx
        obtain ⟨p, ⟨hp, hl⟩, hx⟩ := hx
        obtain ⟨hc, hlen⟩ := mem_cats.1 hx
        exact ⟨⟨p, hp, by omega, cat_der (itS_snd ps most n k) hc⟩, hlen⟩
      · rw [List.getElem?_eq_none (by simp; omega)] at hx
        simp at hx
theorem cls_of (ps : List Pr) (most : Nat) (S : Int → List (List Int)) (h : (ps.all fun p => (cats S most p.right).all fun x => (S p.left).contains x) = true) : ClsS ps most S := by
  intro p hp x hc hl
  have := List.all_eq_true.1 (List.all_eq_true.1 h p hp) x (mem_cats.2 ⟨hc, hl⟩)
  simpa using this
/-- the sentences of the example -/
def exPs : List Pr := [⟨16, [0, 16, 1]⟩, ⟨16, [17]⟩, ⟨17, [1]⟩, ⟨17, [17, 17]⟩]
theorem ex_cls : ClsS exPs 3 (setsF (itS exPs 3 2 5)) := cls_of _ _ _ (by decide +kernel)
theorem ex_sent {L : List (List Int)} (hL : AscT L) (h : ∀ x, x ∈ L ↔ Yld exPs 16 x ∧ x.length ≤ 3) : L = [[1], [1, 1], [0, 1, 1], [1, 1, 1]] := by
  refine ascT_uniq hL (by unfold AscT; decide +kernel) fun x => ?_
  rw [h x, ← sets_yld (itS_snd exPs 3 2 5) ex_cls]

  have e : ∀ x, x ∈ setsF (itS exPs 3 2 5) 16 ↔ x ∈ ([[1], [1, 1], [0, 1, 1], [1, 1, 1]] : List (List Int)) := by
    intro x
    have h1 : (setsF (itS exPs 3 2 5) 16).all (fun x => ([[1], [1, 1], [0, 1, 1], [1, 1, 1]] : List (List Int)).contains x) = true := by decide +kernel
    have h2 : ([[1], [1, 1], [0, 1, 1], [1, 1, 1]] : List (List Int)).all (fun x => (setsF (itS exPs 3 2 5) 16).contains x) = true := by decide +kernel
    constructor
    · intro hx; simpa using List.all_eq_true.1 h1 x hx
    · intro hx; simpa using List.all_eq_true.1 h2 x hx
  exact e x
theorem ex_small : ¬ Big 2 3 := not_big 2 3 (by decide +kernel)
end Go.Proofs.YtlngbphchhbpbaaGreat

/- Sets of texts in memory. -/
namespace Go.Proofs.YtlngbphchhbpbaaGreat
open Go.ChangeShapes Go.WideShapes Go.ChangeAt Go.RowKit
set_option linter.unusedVariables false

theorem mapk_blk {W : World} {m g : Nat} {t : TypeId} {cs : Array Value} {α : Type} {E : KeyEnc α} {s : List α} (h : MapK E W m s) (q : Blk W g t cs) : m ≠ g := by
  obtain ⟨es, clock, h1, _⟩ := h
  rintro rfl
  unfold Blk at q
  rw [h1] at q; cases q
theorem under66 : Tryz.prog.underlying 55 = some (.map textKey.K 4) := by kernel_rfl
theorem mapk_len {W : World} {b : Nat} {s : List (List Int)} (h : MapK textKey W b s) (ty : TypeId) : (Builtin.len_ #[55] ty #[.map (some b)]).run Tryz.prog W = .ok (.int .i64 s.length) W := by
  obtain ⟨es, clock, hb, hk, hv, hw, hn, hst⟩ := h
  have e : es.size = s.length := by
    have := congrArg List.length hk
    simpa using this
  simp [Builtin.len_, run_underlying under66, MapKept.run_getObj_map hb, goInt, Result.andThen, e]
theorem iter_neK {α : Type} {E : KeyEnc α} {w : World} {b r : Nat} {s out : List α} (h : IterK E w b r s out) : b ≠ r := by
  obtain ⟨es, clock, since, seen, c0, h1, _, h3, _⟩ := h
  rintro rfl
  rw [h1] at h3; cases h3
theorem grown_of_below {W W' : World} (h : Below W.heap.size W W') : W.grownBy W' none := ⟨h.os, h.tape, h.output, h.size, fun i hi _ => h.block i hi⟩
theorem IterK.step {α : Type} {E : KeyEnc α} {w w' : World} {b r : Nat} {s out : List α} (h : IterK E w b r s out) (hb : Below w.heap.size w w') : IterK E w' b r s out := h.grown (grown_of_below hb) (by simp) (by simp)
theorem IterK.parts {α : Type} {E : KeyEnc α} {w : World} {b r : Nat} {s out : List α} (h : IterK E w b r s out) : out.Nodup ∧ (∀ x ∈ out, x ∈ s) ∧ s.Nodup ∧ (∀ x ∈ s, E.ok x) := by
  obtain ⟨es, clock, since, seen, c0, h1, h2, h3, h4, h5, h6, h7, h8, h9⟩ := h
  exact ⟨h8, h9, h2.2.2.2.1, h2.2.2.1⟩
theorem IterK.lt {α : Type} {E : KeyEnc α} {w : World} {b r : Nat} {s out : List α} (h : IterK E w b r s out) : b < w.heap.size ∧ r < w.heap.size := by
  obtain ⟨es, clock, since, seen, c0, h1, h2, h3, _⟩ := h
  exact ⟨(Array.getElem?_eq_some_iff.1 h1).1, (Array.getElem?_eq_some_iff.1 h3).1⟩
/-- a text laid in a block of its own -/
def layT (W : World) (x : List Int) : World := (W.alloc (.cells (txc []) 59)).setRow W.heap.size (txc x)
theorem layT_blk (W : World) (x : List Int) : Blk (layT W x) W.heap.size 59 (txc x) := setRow_heap _ _ _ _ 59 _ (Blk.new W 59 (txc []))
theorem layT_below (W : World) (x : List Int) : Below W.heap.size W (layT W x) := below_setRow (bAlc (Below.refl _ _) _) (Nat.le_refl _) _
theorem layT_size (W : World) (x : List Int) : (layT W x).heap.size = W.heap.size + 1 := by simp [layT]
/-- sets in maps that are named -/
def SetsM (W : World) (bo n : Nat) (mbs : List Nat) (ss : List (List (List Int))) : Prop :=
  ∃ cs : Array Value, Blk W bo 55 cs ∧ cs.size = n ∧ mbs.length = ss.length ∧ ∀ (i m : Nat) (s : List (List Int)), mbs[i]? = some m → ss[i]? = some s → cs[i]? = some (.map (some m)) ∧ MapK textKey W m s
theorem SetsM.grown {W W' : World} {bo n : Nat} {mbs : List Nat} {ss : List (List (List Int))} (h : SetsM W bo n mbs ss) {row : Option Nat} (hg : W.grownBy W' row) (h1 : row ≠ some bo) (h2 : ∀ m ∈ mbs, row ≠ some m) : SetsM W' bo n mbs ss := by
  obtain ⟨cs, a, b, c, d⟩ := h
  exact ⟨cs, a.grown hg (Ne.symm h1), b, c, fun i m s e f => ⟨(d i m s e f).1, (d i m s e f).2.grown hg (Ne.symm (h2 m (List.mem_of_getElem? e)))⟩⟩
theorem SetsM.step {W W' : World} {bo n : Nat} {mbs : List Nat} {ss : List (List (List Int))} (h : SetsM W bo n mbs ss) (hb : Below W.heap.size W W') : SetsM W' bo n mbs ss := by
  obtain ⟨cs, a, b, c, d⟩ := h
  exact ⟨cs, a.step hb, b, c, fun i m s e f => ⟨(d i m s e f).1, (d i m s e f).2.step hb⟩⟩
theorem SetsM.get {W : World} {bo n : Nat} {mbs : List Nat} {ss : List (List (List Int))} (h : SetsM W bo n mbs ss) {i : Nat} (hi : i < ss.length) : ∃ m, mbs[i]? = some m ∧ W.cell? ⟨bo, i, none⟩ = some (.map (some m)) ∧ MapK textKey W m (ss.getD i []) ∧ m ≠ bo := by
  obtain ⟨cs, a, b, c, d⟩ := h
  have him : i < mbs.length := by omega
  obtain ⟨e, f⟩ := d i mbs[i] ss[i] (List.getElem?_eq_getElem him) (List.getElem?_eq_getElem hi)
  exact ⟨mbs[i], List.getElem?_eq_getElem him, by rw [a.cell]; exact e, by simpa [List.getD_eq_getElem?_getD, hi] using f, mapk_blk f a⟩
theorem SetsM.nodups {W : World} {bo n : Nat} {mbs : List Nat} {ss : List (List (List Int))} (h : SetsM W bo n mbs ss) : ∀ s ∈ ss, s.Nodup := by
  obtain ⟨cs, a, b, c, d⟩ := h
  intro s hs
  obtain ⟨i, hi, rfl⟩ := List.getElem_of_mem hs
  have him : i < mbs.length := by omega
  obtain ⟨_, es, clock, _, _, _, _, hn, _⟩ := d i mbs[i] ss[i] (List.getElem?_eq_getElem him) (List.getElem?_eq_getElem hi)
  exact hn
theorem SetsM.put {W W' : World} {bo n : Nat} {mbs : List Nat} {ss : List (List (List Int))} (h : SetsM W bo n mbs ss) (hnd : mbs.Nodup) {i m : Nat} {c : List (List Int)} (hi : i < ss.length) (hm : mbs[i]? = some m)
    (hg : ∀ b, b < W.heap.size → b ≠ m → (b = bo ∨ b ∈ mbs) → W'.heap[b]? = W.heap[b]?) (hM : MapK textKey W' m c) : SetsM W' bo n mbs (ss.set i c) := by
  obtain ⟨cs, a, b, e, d⟩ := h
  have him : i < mbs.length := by omega
  have hmv : mbs[i] = m := by rw [List.getElem?_eq_getElem him] at hm; injection hm
  have hmbo : m ≠ bo := by
    have := (d i mbs[i] ss[i] (List.getElem?_eq_getElem him) (List.getElem?_eq_getElem hi)).2
    rw [hmv] at this
    exact mapk_blk this a
  refine ⟨cs, (hg bo a.lt (Ne.symm hmbo) (.inl rfl)).trans a, b, by simpa using e, ?_⟩
  intro j m' s hmj hsj
  by_cases hij : i = j
  · subst hij
    rw [hm] at hmj
    injection hmj with hmj
    subst hmj
    rw [List.getElem?_set_self hi] at hsj
    injection hsj with hsj
    subst hsj
    exact ⟨(d i m ss[i] hm (List.getElem?_eq_getElem hi)).1, hM⟩
  · rw [List.getElem?_set_ne hij] at hsj
    obtain ⟨a2, es, clock, b2, b3⟩ := d j m' s hmj hsj
    refine ⟨a2, es, clock, (hg m' (Array.getElem?_eq_some_iff.1 b2).1 ?_ (.inr (List.mem_of_getElem? hmj))).trans b2, b3⟩
    rintro rfl
    have hjm := (List.getElem?_eq_some_iff.1 hmj).1
    have e2 : mbs[j] = m' := by rw [List.getElem?_eq_getElem hjm] at hmj; injection hmj
    exact hij ((List.getElem_inj hnd).1 (by rw [e2, hmv]))
end Go.Proofs.YtlngbphchhbpbaaGreat

/- derive.nonterm, derive.shortest. -/
namespace Go.Proofs.YtlngbphchhbpbaaGreat
open Go.ChangeShapes Go.WideShapes Go.ChangeAt Go.RowKit
set_option linter.unusedVariables false

theorem isnt_any (s : Int) (w : World) : Calls Tryz.prog 20 #[.int .i64 s] w fun e w' => e = .returned (.bool (decide (16 ≤ s))) ∧ w = w' := by
  go_enter Tryz.func20, Tryz.ntmps20
  go_wp2_with fail
  go_ret
  exact ⟨rfl, rfl⟩

/-- the least length of a set's strings, at most 13 -/
def lowT (T : List (List Int)) : Nat := T.foldl (fun m x => min m x.length) 13
theorem lowT_snoc (T : List (List Int)) (x : List Int) : lowT (T ++ [x]) = min (lowT T) x.length := by simp [lowT]
theorem lowT_foldl (T : List (List Int)) (n : Nat) (P : Nat → Prop) : (T.foldl (fun m x => min m x.length) n ≤ n ∧ (∀ x ∈ T, T.foldl (fun m x => min m x.length) n ≤ x.length)) ∧ (T.foldl (fun m x => min m x.length) n = n ∨ ∃ x ∈ T, T.foldl (fun m x => min m x.length) n = x.length) := by
  induction T generalizing n with
  | nil => simp
  | cons a T ih =>
    obtain ⟨⟨h1, h2⟩, h3⟩ := ih (min n a.length)
    simp only [List.foldl_cons]
    generalize T.foldl (fun m x => min m x.length) (min n a.length) = r at *
    refine ⟨⟨by omega, fun x hx => ?_⟩, ?_⟩
    · rcases List.mem_cons.1 hx with rfl | hx
      · omega
      · exact h2 x hx
    · rcases h3 with h3 | ⟨x, hx, h3⟩
      · by_cases h : n ≤ a.length
        · left; omega
        · right; exact ⟨a, List.mem_cons_self, by omega⟩
      · exact .inr ⟨x, List.mem_cons_of_mem _ hx, h3⟩
theorem lowT_le (T : List (List Int)) : lowT T ≤ 13 ∧ ∀ x ∈ T, lowT T ≤ x.length := (lowT_foldl T 13 (fun _ => True)).1
theorem lowT_same {T U : List (List Int)} (h : ∀ x, x ∈ T ↔ x ∈ U) : lowT T = lowT U := by
  obtain ⟨⟨a1, a2⟩, a3⟩ := lowT_foldl T 13 (fun _ => True)
  obtain ⟨⟨b1, b2⟩, b3⟩ := lowT_foldl U 13 (fun _ => True)
  unfold lowT
  generalize T.foldl (fun m x => min m x.length) 13 = r at *
  generalize U.foldl (fun m x => min m x.length) 13 = q at *
  rcases a3 with a3 | ⟨x, hx, a3⟩
  · rcases b3 with b3 | ⟨y, hy, b3⟩
    · omega
    · have := a2 y ((h y).2 hy); omega
  · have := b2 x ((h x).1 hx)
    rcases b3 with b3 | ⟨y, hy, b3⟩
    · omega
    · have := a2 y ((h y).2 hy); omega
/-- how long the strings of a form are at least -/
def shT (S : Int → List (List Int)) : List Int → Nat
  | [] => 0
  | s :: f => (if s < 16 then 1 else lowT (S s)) + shT S f
theorem shT_snoc (S : Int → List (List Int)) : ∀ (f : List Int) (s : Int), shT S (f ++ [s]) = shT S f + (if s < 16 then 1 else lowT (S s))
  | [], s => by simp [shT]
  | a :: f, s => by simp only [List.cons_append, shT, shT_snoc S f s]; omega
theorem shT_le (S : Int → List (List Int)) : ∀ f : List Int, shT S f ≤ 13 * f.length
  | [] => by simp [shT]
  | a :: f => by
    have := shT_le S f
    have h2 := (lowT_le (S a)).1
    simp only [shT, List.length_cons]
    split <;> omega
theorem shT_low {S : Int → List (List Int)} : ∀ {f v : List Int}, Cat S f v → shT S f ≤ v.length
  | [], v, _ => by simp [shT]
  | a :: f, v, h => by
    obtain ⟨y, u, rfl, hs, hf⟩ := cat_cons h
    have := shT_low hf
    rw [List.length_append]
    simp only [shT]
    rcases hs with ⟨h1, rfl⟩ | ⟨h1, h2⟩
    · rw [if_pos h1]; simp; omega
    · rw [if_neg (by omega)]
      have := (lowT_le (S a)).2 y h2
      omega
theorem setsF_at {ss : List (List (List Int))} {s : Int} (hs : 16 ≤ s) : setsF ss s = ss.getD (s - 16).toNat [] := by unfold setsF; rw [if_neg (by omega)]
theorem take_snocG {l : List Int} {i : Nat} {x : Int} (h : l[i]? = some x) : l.take (i + 1) = l.take i ++ [x] := by
  obtain ⟨h1, rfl⟩ := List.getElem?_eq_some_iff.1 h
  exact List.take_succ_eq_append_getElem h1

set_option maxRecDepth 100000 in
set_option maxHeartbeats 2000000 in
theorem shortest_any (A : Option Addr) (k c c2 : Nat) (f : List Int) (bo n : Nat) (mbs : List Nat) (ss : List (List (List Int))) (w : World) (hf : Rd1 w w.heap.size A k (ints f)) (hk : k ≤ 1000) (hS : SetsM w bo n mbs ss) (hn : ss.length = n) (hn8 : n ≤ 1000)
    (hs : ∀ s ∈ f, s < 16 ∨ (16 ≤ s ∧ s < 16 + (n : Int))) : Calls Tryz.prog 30 #[.slice A k c, .slice (some ⟨bo, 0, none⟩) n c2] w fun e w' => e = .returned (.int .i64 (shT (setsF ss) f)) ∧ Below w.heap.size w w' := by
  have hfl : f.length = k := by have := hf.1; simpa [ints] using this
  obtain ⟨M, hM0⟩ : ∃ M, M = shT (setsF ss) f := ⟨_, rfl⟩
  have hMl := shT_le (setsF ss) f
  rw [← hM0] at hMl ⊢
  replace hM0 := Lib.hid hM0
  replace hMl := Lib.hid hMl
  have hs' := Lib.hid hs
  replace hfl := Lib.hid hfl
  clear hs
  go_enter Tryz.func30, Tryz.ntmps30
  go_wp2_with fail
  go_loopg [12, 5] k (fun gk s12 s5 wr => ∃ i m : Nat, s12 = .int .i64 i ∧ s5 = .int .i64 m ∧ i + gk = k ∧ Hid (m ≤ 13 * i) ∧ Hid (m = shT (setsF ss) (f.take i)) ∧ Below w.heap.size w wr)
  case atStart => exact ⟨0, 0, rfl, rfl, by omega, Lib.hid (by omega), Lib.hid (by simp [shT]), Below.refl _ _⟩
  case round =>
    obtain ⟨i, m, rfl, rfl, hi, hm, hl, hb⟩ := hrel
    replace hi := Lib.hid hi
    have hm0 : (m : Int) ≤ 13 * i := by have := hm.out; omega
    have hm1 : (m : Int) ≤ 20000 := by have := hm.out; have := hi.out; omega
    replace hm0 := Lib.hid hm0
    have hzm : (0 : Int) ≤ m := by omega
    by_cases hin : i < k
    · have hil : i < f.length := by have := hfl.out; omega
      have hx : f[i]? = some f[i] := List.getElem?_eq_getElem hil
      obtain ⟨b, off, rfl, hbt, x0⟩ := (hf.below hb).get (show (ints f)[i]? = some (.int .i64 f[i]) by rw [ints, List.getElem?_map, hx]; rfl)
      have htk := take_snocG hx
      have hsb := hs'.out _ (List.getElem_mem hil)
      generalize f[i] = s at *
      replace hx := Lib.hid hx
      replace htk := Lib.hid htk
      have hz0 : (0 : Int) ≤ i := by omega
      have hz1 : (i : Int) < k := by omega
      by_cases h16 : s < 16
      · have hd : decide (16 ≤ s) = false := decide_eq_false (by omega)
        clear hsb
        replace h16 := Lib.hid h16
        go_wp2_with (go_at_call 20; refine (isnt_any s _).mono ?_; rintro e w1 ⟨rfl, rfl⟩; rw [hd])
        go_roundg (k - (i + 1))
        case measure => have := hi.out; omega
        case rel => exact ⟨i + 1, m + 1, by go_num, by go_num, by have := hi.out; omega, Lib.hid (by have := hm.out; omega), Lib.hid (by rw [htk.out, shT_snoc, if_pos h16.out, ← hl.out]), hb⟩
      · have hd : decide (16 ≤ s) = true := decide_eq_true (by omega)
        obtain ⟨j, hj⟩ := Int.eq_ofNat_of_zero_le (show 0 ≤ s - 16 by omega)
        have hjn : j < n := by omega
        have hSr := hS.step hb
        obtain ⟨mb, hmb, z0, hM, hne⟩ := hSr.get (i := j) (by omega)
        have hset : setsF ss s = ss.getD j [] := by rw [setsF_at (by omega), show (s - 16).toNat = j by omega]
        have hzj : (0 : Int) ≤ j := by omega
        have hzjn : (j : Int) < n := by omega
        clear hsb hSr
        have h16' : 16 ≤ s := by omega
        replace h16' := Lib.hid h16'
        clear h16
        replace hset := Lib.hid hset
        generalize ss.getD j [] = T at *
        replace hmb := Lib.hid hmb
        go_wp2_with (first
          | (go_at_call 20; refine (isnt_any s _).mono ?_; rintro e w1 ⟨rfl, rfl⟩; rw [hd])
          | (at_range; refine wpList_rangeK _ under66 rfl _ rfl mb T rfl hM ?_; intro w1 hit hb1; go_frame))
        have hb2 := bStep hb hb1
        have hR := hb.size
        clear hb hb1 hM z0 x0 hd hbt
        generalize wr.heap.size = R at *
        go_loopg [8] T.length (fun gk s8 wr => ∃ (out : List (List Int)) (low : Nat), s8 = .int .i64 low ∧ out.length + gk = T.length ∧ low ≤ 13 ∧ Hid (low = lowT out) ∧ IterK textKey wr mb R T out ∧ Below w.heap.size w wr)
        case atStart => exact ⟨[], 13, rfl, by simp, Nat.le_refl _, Lib.hid rfl, hit, hb2⟩
        case round =>
          clear hit hb2
          obtain ⟨out, low, rfl, hlo, hl13, hlow, hit, hb⟩ := hrel
          replace hlo := Lib.hid hlo
          have hzl : (0 : Int) ≤ low := by omega
          have hzl2 : (low : Int) ≤ 13 := by omega
          go_wp2_with (at_next; refine wpList_nextK _ rfl _ rfl mb R T out rfl hit ?_ ?_)
          · intro hall
            go_wp2_with fail
            go_roundg (k - (i + 1))
            case measure => have := hi.out; omega
            case rel => exact ⟨i + 1, m + low, by go_num, by go_num, by have := hi.out; omega, Lib.hid (by have := hm.out; omega), Lib.hid (by
                rw [htk.out, shT_snoc, if_neg (by have := h16'.out; omega), ← hl.out, hset.out, hlow.out, lowT_same (fun x => ⟨hit.parts.2.1 x, hall x⟩)]), hb⟩
          · intro x w2 hxs hxo hit2 hen hg2 hsz2
            have hxok : txok x := hit2.parts.2.2.2 x hxs
            have hlen2 := nodup_lenT hit2.parts.1 hit2.parts.2.1
            rw [List.length_append, List.length_singleton] at hlen2
            have hb2 : Below w.heap.size w w2 := hb.grown hg2 hb.size (fun k hk => by cases hk; exact hR)
            have hen' : (Instr.entry (.pointer (some ⟨R, 0, none⟩))).run Tryz.prog w2 = .ok (.tuple #[.agg (txc x), .bool true]) w2 := hen
            have hx12 := hxok.1
            have hzx : (0 : Int) ≤ x.length := by omega
            have hzx2 : (x.length : Int) ≤ 12 := by omega
            replace hsz2 := Lib.hid hsz2
            clear hen hit hb hg2
            go_upto_region 11 with (refine wpList_store_row rfl 59 _ _ rfl w2.heap.size (txc x) rfl rfl 59 (txc []) (Blk.new w2 59 (txc [])) size70 rfl (txc_one _) ?_)
            change Code.wp Tryz.prog _ _ _ (layT w2 x)
            have q := layT_blk w2 x
            have hbl := layT_below w2 x
            have hit3 := hit2.step hbl
            have hb3 := bStep hb2 hbl
            clear hit2 hb2 hbl hen'
            generalize layT w2 x = W1 at *
            generalize w2.heap.size = B4 at *
            have d0 := q.cell 0
            rw [txc_zero] at d0
            have hlow2 : Hid (min low x.length = lowT (out ++ [x])) := Lib.hid (by rw [lowT_snoc, ← hlow.out])
            obtain ⟨m2, hm2⟩ : ∃ m2, m2 = min low x.length := ⟨_, rfl⟩
            rw [← hm2] at hlow2
            by_cases hlx : (low : Int) ≤ x.length
            · have e2 : m2 = low := by omega
              subst e2
              replace hm2 := Lib.hid hm2
              go_wp2_with fail
              all_goals
                go_roundg (T.length - (out.length + 1))
                case measure => have := hlo.out; omega
                case rel => exact ⟨out ++ [x], m2, by go_num, by rw [List.length_append, List.length_singleton]; omega, by omega, hlow2, hit3, hb3⟩
            · have e2 : m2 = x.length := by omega
              replace hm2 := Lib.hid hm2
              go_wp2_with fail
              all_goals
                go_roundg (T.length - (out.length + 1))
                case measure => have := hlo.out; omega
                case rel => exact ⟨out ++ [x], m2, by first | (rw [e2]; done) | go_num, by rw [List.length_append, List.length_singleton]; omega, by omega, hlow2, hit3, hb3⟩
    · go_wp2_with fail
      go_ret
      have hik : i = k := by have := hi.out; omega
      have hmM : m = M := by rw [hM0.out, hl.out, List.take_of_length_le (by have := hfl.out; omega)]
      subst hmM
      exact ⟨rfl, hb⟩
end Go.Proofs.YtlngbphchhbpbaaGreat

/- slices.All over the productions of a grammar; grammar.prods. -/
namespace Go.Proofs.YtlngbphchhbpbaaGreat
open Go.RowKit Go.Shelf
set_option linter.unusedVariables false
attribute [local go_sem] Oper.semAt_some

/-- a production with the place of its right side -/
structure PV where
  p : Pr
  ra : Option Addr
  rc : Nat
  deriving Inhabited
def PV.v (x : PV) : Value := .agg #[.int .i64 x.p.left, .slice x.ra x.p.right.length x.rc]
/-- what stands behind a production's value -/
def PVok (w : World) (B : Nat) (x : PV) : Prop := Rd1 w B x.ra x.p.right.length (ints x.p.right) ∧ x.p.right.length ≤ x.rc ∧ x.rc ≤ maxLen
/-- the productions with their places -/
def RdV (w : World) (B : Nat) (A : Option Addr) (n : Nat) (vs : List PV) : Prop :=
  vs.length = n ∧ (n = 0 ∨ ∃ b off, A = some ⟨b, off, none⟩ ∧ b < B ∧ ∀ (i : Nat) (x : PV), vs[i]? = some x → w.cell? ⟨b, off + i * 2, none⟩ = some (.int .i64 x.p.left) ∧ w.cell? ⟨b, off + i * 2 + 1, none⟩ = some (.slice x.ra x.p.right.length x.rc))
theorem RdP.vals {w : World} {B : Nat} {A : Option Addr} {n : Nat} {ps : List Pr} (h : RdP w B A n ps) : ∃ vs : List PV, vs.map PV.p = ps ∧ RdV w B A n vs ∧ ∀ x ∈ vs, PVok w B x := by
  rcases h.2 with h0 | ⟨b, off, rfl, hb, hc⟩
  · have : ps = [] := List.eq_nil_of_length_eq_zero (by rw [h.1]; exact h0)
    subst this
    exact ⟨[], rfl, ⟨h.1, .inl h0⟩, by simp⟩
  · have key : ∀ (i : Nat) (p : Pr), ps[i]? = some p → ∃ x : PV, x.p = p ∧ w.cell? ⟨b, off + i * 2, none⟩ = some (.int .i64 x.p.left) ∧ w.cell? ⟨b, off + i * 2 + 1, none⟩ = some (.slice x.ra x.p.right.length x.rc) ∧ PVok w B x := by
      intro i p hp
      obtain ⟨h1, RA, c, h2, h3, h4, h5⟩ := hc i p hp
      exact ⟨⟨p, RA, c⟩, rfl, h1, h2, h3, h4, h5⟩
    have : ∀ m, m ≤ ps.length → ∃ vs : List PV, vs.map PV.p = ps.take m ∧ (∀ (i : Nat) (x : PV), vs[i]? = some x → w.cell? ⟨b, off + i * 2, none⟩ = some (.int .i64 x.p.left) ∧ w.cell? ⟨b, off + i * 2 + 1, none⟩ = some (.slice x.ra x.p.right.length x.rc)) ∧ ∀ x ∈ vs, PVok w B x := by
      intro m
      induction m with
      | zero => intro _; exact ⟨[], by simp, by simp, by simp⟩
      | succ m ih =>
        intro hm
        obtain ⟨vs, h1, h2, h3⟩ := ih (by omega)
        have hl : vs.length = m := by have := congrArg List.length h1; simp at this; omega
        obtain ⟨x, hx, hx1, hx2, hx3⟩ := key m ps[m] (List.getElem?_eq_getElem (by omega))
        refine ⟨vs ++ [x], ?_, ?_, ?_⟩
        · rw [List.map_append, h1, List.take_succ_eq_append_getElem (by omega)]; simp [hx]
        · intro i y hy
          rw [List.getElem?_append] at hy
          split at hy
          · exact h2 i y hy
          · rename_i hge
            have : i = m := by have := (List.getElem?_eq_some_iff.1 hy).1; simp at this; omega
            subst this
            rw [hl, Nat.sub_self] at hy
            have : x = y := by simpa using hy
            subst this
            exact ⟨hx1, hx2⟩
        · intro y hy
          rcases List.mem_append.1 hy with hy | hy
          · exact h3 y hy
          · simp at hy; rw [hy]; exact hx3
    obtain ⟨vs, h1, h2, h3⟩ := this ps.length (Nat.le_refl _)
    rw [List.take_of_length_le (Nat.le_refl _)] at h1
    exact ⟨vs, h1, ⟨by rw [← h.1, ← h1]; simp, .inr ⟨b, off, rfl, hb, h2⟩⟩, h3⟩
theorem RdV.below {w w' : World} {B : Nat} {A : Option Addr} {n : Nat} {vs : List PV} (h : RdV w B A n vs) (hb : Below B w w') : RdV w' B A n vs := by
  refine ⟨h.1, ?_⟩
  rcases h.2 with h0 | ⟨b, off, rfl, hlt, hc⟩
  · exact .inl h0
  · refine .inr ⟨b, off, rfl, hlt, fun i x hx => ?_⟩
    obtain ⟨h1, h2⟩ := hc i x hx
    exact ⟨by rw [hb.cell (p := ⟨b, off + i * 2, none⟩) hlt]; exact h1, by rw [hb.cell (p := ⟨b, off + i * 2 + 1, none⟩) hlt]; exact h2⟩
theorem PVok.below {w w' : World} {B : Nat} {x : PV} (h : PVok w B x) (hb : Below B w w') : PVok w' B x := ⟨h.1.below hb, h.2⟩

/-- what has come when k rounds are over -/
def prUpto (vs : List PV) (k : Nat) : List (Nat × PV) := (List.range k).map fun j => (j, vs.getD j default)
theorem prUpto_succ (vs : List PV) (k : Nat) : prUpto vs (k + 1) = prUpto vs k ++ [(k, vs.getD k default)] := by simp [prUpto, List.range_succ]
theorem prUpto_length (vs : List PV) (k : Nat) : (prUpto vs k).length = k := by simp [prUpto]
def encP (x : Nat × PV) : Array Value := #[.int .i64 (x.1 : Int), .agg #[.int .i64 x.2.p.left, .slice x.2.ra x.2.p.right.length x.2.rc]]

set_option maxRecDepth 100000 in
set_option maxHeartbeats 2000000 in
theorem all1_in (n : Nat) (hn : 1 ≤ n) (l Bs n₀ : Nat) (A : Option Addr) (len cap : Nat) (vs : List PV) (hlen : len ≤ 1000000) (J Jx : List (Nat × PV) → World → Prop)
    (hY : ∀ pre x W, J pre W → pre.length < len → YieldAt Fence.wide (n - 1) Tryz.prog l (encP x) W fun e W' =>
      (e = .returned (.bool true) ∧ J (pre ++ [x]) W' ∧ Below n₀ W W') ∨ (e = .returned (.bool false) ∧ Jx (pre ++ [x]) W'))
    (W : World) (hJ : AbidesFrom W.heap.size J) (hn0 : n₀ ≤ W.heap.size) (hBs : W.cell? ⟨Bs, 0, none⟩ = some (.slice A len cap)) (hR : RdV W n₀ A len vs) (h0 : J [] W) :
    CallsIn Fence.wide n Tryz.prog 93 #[.func (.yield l) #[] #[], .pointer (some ⟨Bs, 0, none⟩)] W fun e W' => (∃ v, e = .returned v) ∧
      ((∃ ys, ys = prUpto vs len ∧ J ys W') ∨ (∃ pre, (∃ k, k ≤ len ∧ pre = prUpto vs k) ∧ Jx pre W')) := by
  refine callsIn_of_wp Tryz.func93 rfl trivial ?_ rfl
  simp only [Tryz.ntmps93, List.size_toArray, List.length_cons, List.length_nil, Nat.reduceAdd, Nat.reduceSub, Array.replicate_succ, Array.replicate_zero, List.push_toArray, List.append_toArray, List.nil_append, List.cons_append]
  gi_wp2
  gi_loopw [7] (fun i wr => ∃ k : Nat, k ≤ len ∧ i = .int .i64 k ∧ J (prUpto vs k) wr ∧ Below n₀ W wr ∧ W.heap.size ≤ wr.heap.size)
    (fun i _ => len - (intOf i).toNat)
  case atStart => exact ⟨0, Nat.zero_le _, rfl, h0, Below.refl _ _, Nat.le_refl _⟩
  case round =>
    obtain ⟨k, hk, rfl, hJs, hnx, hge⟩ := hrel
    by_cases hlt : k < len
    · rcases hR.2 with hz | ⟨b, off, rfl, hb, hcs⟩
      · omega
      have hkl : k < vs.length := by rw [hR.1]; exact hlt
      obtain ⟨h1, h2⟩ := hcs k vs[k] (List.getElem?_eq_getElem hkl)
      have hgd : vs.getD k default = vs[k] := by simp [List.getD_eq_getElem?_getD, hkl]
      have x0 : wr.cell? ⟨b, off + k * 2, none⟩ = some (.int .i64 vs[k].p.left) := (hnx.cell (p := ⟨b, off + k * 2, none⟩) hb).trans h1
      have x1 : wr.cell? ⟨b, off + k * 2 + 1, none⟩ = some (.slice vs[k].ra vs[k].p.right.length vs[k].rc) := (hnx.cell (p := ⟨b, off + k * 2 + 1, none⟩) hb).trans h2
      have hsu := prUpto_succ vs k
      rw [hgd] at hsu
      replace hsu := Lib.hid hsu
      generalize vs[k] = x at *
      have hJ1 := hJ _ _ _ none hJs (World.grownBy_alloc wr (.cells #[.int .i64 x.p.left, .slice x.ra x.p.right.length x.rc] 37) none) (by simp)
      have hbA : Below n₀ wr (wr.alloc (.cells #[.int .i64 x.p.left, .slice x.ra x.p.right.length x.rc] 37)) := (Below.refl _ _).alloc (by omega) _
      obtain ⟨fn, tmps, assign, body, hy, hR2⟩ := hY _ (k, x) _ hJ1 (by rw [prUpto_length]; exact hlt)
      dsimp only [encP] at hy
      gi_wp2
      refine hR2.mono ?_
      rintro e W3 (⟨rfl, hJ3, hk3⟩ | ⟨rfl, hJx3⟩)
      · gi_wp2
        go_roundw
        case rel => exact ⟨k + 1, by omega, by simp, by rw [hsu.out]; exact hJ3, hnx.trans (hbA.trans hk3), by have := hk3.size; simp at this; omega⟩
        case measure => simp [intOf]; omega
      · gi_wp2
        refine bodyPost_ret (results_none rfl _ _ _) rfl ?_
        exact ⟨⟨_, rfl⟩, .inr ⟨_, ⟨k + 1, by omega, hsu.out.symm⟩, hJx3⟩⟩
    · obtain rfl : k = len := by omega
      gi_wp2
      go_end0
      exact ⟨⟨_, rfl⟩, .inl ⟨_, rfl, hJs⟩⟩

set_option maxHeartbeats 1000000 in
theorem all_in (n : Nat) (A : Option Addr) (len cap : Nat) (w : World) :
    CallsIn Fence.wide n Tryz.prog 79 #[.slice A len cap] w fun e w' => e = .returned (.func (.func 93) #[] #[.pointer (some ⟨w.heap.size, 0, none⟩)]) ∧ w' = w.alloc (.cells #[.slice A len cap] 23) := by
  refine callsIn_of_wp Tryz.func79 rfl trivial ?_ rfl
  simp only [Tryz.ntmps79, List.size_toArray, List.length_cons, List.length_nil, Nat.reduceAdd, Nat.reduceSub, Array.replicate_succ, Array.replicate_zero, List.push_toArray, List.append_toArray, List.nil_append, List.cons_append]
  gi_wp2
  go_ret
  exact ⟨rfl, rfl⟩

/-- what grammar.prods hands back: the closure over the box in which the slice of productions lies -/
def RetSeq (w : World) (g : Gr) (a : GA) (e : Ending) (w' : World) : Prop :=
  ∃ B, e = .returned (.func (.func 93) #[] #[.pointer (some ⟨B, 0, none⟩)]) ∧ w'.cell? ⟨B, 0, none⟩ = some (.slice a.pa g.prods.length a.pc) ∧ B < w'.heap.size ∧ Below w.heap.size w w'
theorem prods_any (g : Gr) (a : GA) (w : World) : Calls Tryz.prog 64 #[gval g a] w (RetSeq w g a) := by
  have h101 := Lib.hid (fun A len cap w => callsIn_wide.1 (all_in 3 A len cap w))
  have hP := Lib.hid (fun (B : Nat) (w' : World) (h1 : w'.cell? ⟨B, 0, none⟩ = some (.slice a.pa g.prods.length a.pc)) (h2 : B < w'.heap.size) (h3 : Below w.heap.size w w') =>
    (show RetSeq w g a (.returned (.func (.func 93) #[] #[.pointer (some ⟨B, 0, none⟩)])) w' from ⟨B, rfl, h1, h2, h3⟩))
  unfold gval gcells
  go_enter Tryz.func64, Tryz.ntmps64
  go_wp2_with fail
  refine (h101.out _ _ _ _).mono ?_
  rintro e w1 ⟨rfl, hw1⟩
  subst hw1
  rw [World.size_alloc]
  go_wp2_with fail
  go_ret
  refine hP.out _ _ ?_ ?_ ?_
  · exact (Blk.newAt _ _ _ _ (by simp)).cell 0
  · simp
  · exact bAlc (bAlc (Below.refl _ _) _) _

theorem all_stops (n : Nat) (hn : 1 ≤ n) (Bs n₀ : Nat) (A : Option Addr) (len cap : Nat) (vs : List PV) (hlen : len ≤ 1000000) (w : World) (hBs : Bs < w.heap.size) (hn₀ : n₀ ≤ w.heap.size)
    (hc : w.cell? ⟨Bs, 0, none⟩ = some (.slice A len cap)) (hI : RdV w n₀ A len vs) :
    SeqStopsK Fence.wide n Tryz.prog 93 #[.pointer (some ⟨Bs, 0, none⟩)] encP (Below n₀) (fun ys => ys = prUpto vs len) (fun pre => ∃ k, k ≤ len ∧ pre = prUpto vs k) len w := fun l J Jx W hW hJ _ hY h0 => by
  have hc' := (hW.cell (p := ⟨Bs, 0, none⟩) hBs).trans hc
  exact all1_in n hn l Bs n₀ A len cap vs hlen J Jx hY W hJ (Nat.le_trans hn₀ hW.size) hc' (hI.below (hW.mono hn₀)) h0
end Go.Proofs.YtlngbphchhbpbaaGreat

/- grammar.many. -/
namespace Go.Proofs.YtlngbphchhbpbaaGreat
open Go.RowKit Go.Shelf
set_option linter.unusedVariables false
attribute [local go_sem] Oper.semAt_some

theorem blk_own {β : Type} (g : Nat) (t : TypeId) (f : β → Array Value) : Own (fun s W => Blk W g t (f s)) := fun s X Y row hs hg hr =>
  hs.grown hg (fun e => by obtain ⟨o, ho, hc⟩ := hr g e.symm; have : X.heap[g]? = some (.cells (f s) t (0, 0)) := hs; rw [this] at ho; cases ho; cases hc)
theorem grat_ownFrom {β : Type} {B B' : Nat} (g : Gr) (a : GA) (h : B ≤ B') : OwnFrom B' (fun (_ : β) W => GrAt W B g a ∧ B ≤ W.heap.size) := fun s X Y row hs hg hr =>
  ⟨hs.1.below ((Below.refl _ _).grown hg hs.2 (fun k hk => by have := (hr k hk).1; omega)), Nat.le_trans hs.2 hg.size⟩
theorem size30 : (Tryz.prog.info? 29).map (·.size) = some 1 := by kernel_rfl
theorem under30 : Tryz.prog.underlying 29 = some (.int .i64) := by kernel_rfl
theorem loadVar30 (w : World) (a : Addr) (v : Value) (h : w.cell? a = some v) : (loadVar 29 a).run Tryz.prog w = .ok v w := by
  have hagg : (isAgg 29).run Tryz.prog w = .ok false w := by unfold isAgg; rw [Sem.run_bind, run_underlying under30 w]; rfl
  simp [loadVar, Sem.run_bind, hagg, h]

theorem results_cell30 {fn : Func} {p : Tmp} (h : fn.results = #[.cell p 29]) (tmps : Array Value) (w : World) (g : Nat) (v : Value) (hp : tmps.getD p undef = .pointer (some ⟨g, 0, none⟩)) (hc : w.cell? ⟨g, 0, none⟩ = some v) :
    (results fn tmps).run Tryz.prog w = .ok v w := by
  have hp' : tmps[p]?.getD undef = .pointer (some ⟨g, 0, none⟩) := by simpa using hp
  simp [results, h, hp', asAddr, loadVar30 w _ v hc]
theorem upto_all {vs : List PV} {q : Pr → Bool} (h : ∀ y ∈ prUpto vs vs.length, q y.2.p = true) : (vs.map PV.p).all q = true := by
  rw [List.all_eq_true]
  intro p hp
  obtain ⟨x, hx, rfl⟩ := List.mem_map.1 hp
  obtain ⟨i, hi, rfl⟩ := List.mem_iff_getElem.1 hx
  have := h (i, vs[i]) (by
    unfold prUpto
    exact List.mem_map.2 ⟨i, List.mem_range.2 hi, by simp [List.getD_eq_getElem?_getD, hi]⟩)
  exact this
theorem upto_mem {vs : List PV} {k : Nat} {y : Nat × PV} (hk : k ≤ vs.length) (h : y ∈ prUpto vs k) : y.2 ∈ vs ∧ vs[y.1]? = some y.2 := by
  unfold prUpto at h
  obtain ⟨j, hj, rfl⟩ := List.mem_map.1 h
  have hj := List.mem_range.1 hj
  have hl : j < vs.length := by omega
  simp [List.getD_eq_getElem?_getD, hl]

def ManyI (w : World) (q : Pr → Bool) (r : Int) (pre : List (Nat × PV)) (W : World) : Prop := ((∀ y ∈ pre, q y.2.p = true) ∧ Blk W (w.heap.size + 1) 29 #[.int .i64 r]) ∧ Below w.heap.size w W
def ManyX (w : World) (q : Pr → Bool) (r : Int) (c : Code) (pre : List (Nat × PV)) (W : World) : Prop := ((c = .ret ∧ ∃ y ∈ pre, q y.2.p = false) ∧ Blk W (w.heap.size + 1) 29 #[.int .i64 r]) ∧ Below w.heap.size w W
theorem manyI_own {B : Nat} (w : World) (q : Pr → Bool) (r : Int) (h : w.heap.size ≤ B) : OwnFrom B (ManyI w q r) := OwnFrom.and (OwnFrom.and (ownFrom_pure _ _) (Own.from (blk_own _ _ _) _)) (ownFrom_below (Nat.le_refl _) h)
theorem manyX_own {B : Nat} (w : World) (q : Pr → Bool) (r : Int) (h : w.heap.size ≤ B) (c : Code) : OwnFrom B (ManyX w q r c) := OwnFrom.and (OwnFrom.and (ownFrom_pure _ _) (Own.from (blk_own _ _ _) _)) (ownFrom_below (Nat.le_refl _) h)
def len6 (p : Pr) : Bool := decide (p.right.length ≤ 6)

set_option maxRecDepth 100000 in
set_option maxHeartbeats 4000000 in
theorem many_any (g : Gr) (a : GA) (w : World) (hg : GrAt w w.heap.size g a) (hs : Small g) :
    Calls Tryz.prog 42 #[gval g a] w fun e w' => e = .returned (.int .i64 (if fullB g = false then 6 else 0)) ∧ Below w.heap.size w w' := by
  obtain ⟨ta, tc, na, nc, pa, pc⟩ := a
  obtain ⟨R, hR⟩ : ∃ R : Int, R = if fullB g = false then 6 else 0 := ⟨_, rfl⟩
  rw [← hR]
  replace hR := Lib.hid hR
  have hs1 := hs.t
  have hs2 := hs.n
  have hs3 := hs.p
  have hs4 := Lib.hid hs.r
  clear hs
  have hG0 := GB.start hg
  clear hg
  have hPr := Lib.hid (fun w => prods_any g ⟨ta, tc, na, nc, pa, pc⟩ w)
  unfold gval at *
  unfold gcells at *
  dsimp only at *
  refine (callsIn_wide (n := 6)).1 ?_
  by_cases h1 : g.toks.length ≤ 8 ∧ g.names.length ≤ 8 ∧ g.prods.length ≤ 24
  · obtain ⟨h1, h2, h3⟩ := h1
    refine callsIn_of_wp_marks Tryz.func42 rfl trivial ?_ rfl
    simp only [Tryz.ntmps42, List.size_toArray, List.length_cons, List.length_nil, Nat.reduceAdd, Nat.reduceSub, Array.replicate_succ, Array.replicate_zero, List.push_toArray, List.append_toArray, List.nil_append, List.cons_append]
    gi_wp2_with (refine ⟨trivial, ?_⟩; gi_at_call 64; refine (callsIn_wide.2 (hPr.out _)).mono ?_; rintro e w1 ⟨B, rfl, hB1, hB2, hB3⟩)
    have hG := (hG0.alloc _).step hB3
    have bR : Blk w1 (w.heap.size + 1) 29 #[.int .i64 0] := (Blk.newAt _ _ _ _ (by simp)).step hB3
    obtain ⟨vs, hvs1, hvs2, hvs3⟩ := hG.2.1.prods.vals
    have hvl : vs.length = g.prods.length := by rw [← hvs1]; simp
    have hF : fullB g = g.prods.all fun p => decide (p.right.length ≤ 6) := by simp [fullB, h1, h2, h3]
    rw [← hvs1] at hF
    have hR2 : R = if (vs.map PV.p).all len6 = false then 6 else 0 := by rw [hR.out, hF]; rfl
    replace hR2 := Lib.hid hR2
    have hlen : ∀ x ∈ vs, x.p.right.length ≤ 1000000 := fun x hx => hs4.out _ (by rw [← hvs1]; exact List.mem_map_of_mem hx)
    replace hlen := Lib.hid hlen
    have hw1 := hG.2.2.size
    clear hF hvs1 hR
    replace hvl := Lib.hid hvl
    refine wpIn_rangeFunc_ownH (F := Fence.wide) rfl (by omega) (gf := 93) (lb := #[.pointer (some ⟨B, 0, none⟩)]) rfl trivial (enters_of Tryz.func93 (by kernel_rfl) rfl)
      (all_stops 5 (by omega) B w.heap.size pa g.prods.length pc vs (by omega) w1 hB2 hw1 hB1 hvs2) belowK_t (belowK_b hw1) (Below.refl _ _) (fun _ => rfl)
      (ManyI w len6 0) (ManyX w len6 6) (manyI_own w len6 0 hw1) (manyX_own w len6 6 hw1)
      ⟨⟨by simp, bR⟩, hG.2.2⟩
      (fun x a' W => ∃ Bx, w.heap.size + 1 < Bx ∧ Blk W Bx 37 #[.int .i64 x.2.p.left, .slice x.2.ra x.2.p.right.length x.2.rc] ∧ ∃ (u0 u3 u5 u6 u7 u8 u9 u10 u11 u12 u13 u14 u15 u16 u17 u18 u19 u20 u21 u22 u23 u24 u25 u26 u27 u28 : Value), a' = { tmps := #[u0, .pointer (some ⟨w.heap.size, 0, none⟩), .pointer (some ⟨w.heap.size + 1, 0, none⟩), u3, .pointer (some ⟨Bx, 0, none⟩), u5, u6, u7, u8, u9, u10, u11, u12, u13, u14, u15, u16, u17, u18, u19, u20, u21, u22, u23, u24, u25, u26, u27, u28], defers := [] })
      (fun x a' _ X Y row hs hg hr => by obtain ⟨Bx, h1, h2, h3⟩ := hs; exact ⟨Bx, h1, blk_own Bx 37 (fun (_ : Unit) => #[.int .i64 x.2.p.left, .slice x.2.ra x.2.p.right.length x.2.rc]) () X Y row h2 hg (fun r e => (hr r e).2), h3⟩)
      ?assign ?body ?done ?stop
    case assign =>
      rintro l pre x W K ⟨⟨hp, bR1⟩, hb⟩ hK
      dsimp only [encP]
      gi_wp2
      exact hK _ _ ((KeepsOthers.alloc _ _).from _) ((Below.refl _ W).alloc hb.size _) ⟨⟨hp, bR1.alloc _⟩, bAlc hb _⟩ ⟨W.heap.size, by have := bR1.lt; omega, Blk.new W 37 _, _, _, _, _, _, _, _, _, _, _, _, _, _, _, _, _, _, _, _, _, _, _, _, _, _, _, rfl⟩
    case body =>
      rintro l pre x a' W hl ⟨r, hr⟩ ⟨⟨hp, bR1⟩, hb⟩ ⟨Bx, hBx, bX, u0, u3, u5, u6, u7, u8, u9, u10, u11, u12, u13, u14, u15, u16, u17, u18, u19, u20, u21, u22, u23, u24, u25, u26, u27, u28, rfl⟩ hlt
      have p1 := bX.cell 1
      have r0 := bR1.cell 0
      have f0 := bR1.frozen 0
      simp only [List.getElem?_toArray, List.getElem?_cons_zero, List.getElem?_cons_succ] at p1 r0
      by_cases h6 : x.2.p.right.length ≤ 6
      · have h6d := Lib.hid (show len6 x.2.p = true from decide_eq_true h6)
        gi_wp2
        exact ⟨KeepsFrom.refl _ _, Below.refl _ _, ⟨fun y hy => (List.mem_append.1 hy).elim (hp y) (fun e => by simp at e; rw [e]; exact h6d.out), bR1⟩, hb⟩
      · have h6d := Lib.hid (show len6 x.2.p = false from decide_eq_false h6)
        gi_wp2
        exact ⟨(KeepsOthers.setCell _ _ _).from _, ⟨⟨rfl, x, by simp, h6d.out⟩, bR1.put 0 _⟩, bSet hb _ _ (by simp <;> omega)⟩
    case done =>
      rintro D ys W hD rfl ⟨⟨hp, bR1⟩, hb⟩ hK
      have hR3 : R = 0 := by
        rw [hR2.out, if_neg]
        rw [← hvl.out] at hp
        rw [upto_all hp]; simp
      subst hR3
      have r0 := bR1.cell 0
      have f0 := bR1.frozen 0
      simp only [List.getElem?_toArray, List.getElem?_cons_zero, List.getElem?_cons_succ] at r0
      gi_wp2
      have hK' := (KeepsOthers.setCell W ⟨w.heap.size + 1, 0, none⟩ (.int .i64 0)).same D _ hK rfl
      refine ⟨by simp, .inl ⟨_, _, rfl, run_takeDeferred hK', ?_⟩⟩
      have b2 := (bR1.put 0 (.int .i64 0)).grown (grownBy_putObj' _ D (.deferred none)) (by have := bR.lt; simp; omega)
      exact ⟨_, results_cell30 rfl _ _ _ _ rfl (b2.cell 0), rfl, (bSet hb _ _ (by simp <;> omega)).trans (belowK_b (w := w) (Nat.le_refl _) _ D _ _ (by omega) hK' rfl rfl)⟩
    case stop =>
      rintro D c pre W hD ⟨k, hk, rfl⟩ ⟨⟨⟨rfl, y, hy, hyq⟩, bR1⟩, hb⟩ hK
      have hR3 : R = 6 := by
        rw [hR2.out, if_pos]
        rw [List.all_eq_false]
        exact ⟨y.2.p, List.mem_map_of_mem (upto_mem (by rw [hvl.out]; exact hk) hy).1, by rw [hyq]; simp⟩
      subst hR3
      gi_wp2
      refine ⟨by simp, .inl ⟨_, _, rfl, run_takeDeferred hK, ?_⟩⟩
      have b2 := bR1.grown (grownBy_putObj' _ D (.deferred none)) (by have := bR.lt; simp; omega)
      exact ⟨_, results_cell30 rfl _ _ _ _ rfl (b2.cell 0), rfl, hb.trans (belowK_b (w := w) (Nat.le_refl _) _ D _ _ (by omega) hK rfl rfl)⟩
  · have hF : fullB g = false := by
      cases h : fullB g
      · rfl
      · simp [fullB] at h; exact absurd ⟨h.1, h.2.1, h.2.2.1⟩ h1
    have hR3 : R = 6 := by rw [hR.out, if_pos hF]
    subst hR3
    clear hF
    refine callsIn_wide.2 ?_
    have hq : 8 < g.toks.length ∨ (g.toks.length ≤ 8 ∧ 8 < g.names.length) ∨ (g.toks.length ≤ 8 ∧ g.names.length ≤ 8 ∧ 24 < g.prods.length) := by omega
    clear h1
    rcases hq with h | ⟨h, h2⟩ | ⟨h, h2, h3⟩
    all_goals
      go_enter Tryz.func42, Tryz.ntmps42
      go_wp2_with fail
      exact bodyPost_ret (results_cell30 rfl _ _ _ _ rfl ((Blk.newAt _ _ _ _ (by simp)).cell 0)) rfl ⟨rfl, bAlc (bAlc (Below.refl _ _) _) _⟩
end Go.Proofs.YtlngbphchhbpbaaGreat

/- grammar: the closures of symbols and complete, and the library's IndexFunc, ContainsFunc at them. -/
namespace Go.Proofs.YtlngbphchhbpbaaGreat
open Go.ChangeShapes Go.WideShapes Go.ChangeAt Go.RowKit
set_option linter.unusedVariables false

set_option maxHeartbeats 1000000 in
theorem symcl_any (g : Gr) (a : GA) (s : Int) (b0 : Nat) (w : World) (hb : Blk w b0 25 (gcells g a)) (ht : g.toks.length ≤ 100000) (hn : g.names.length ≤ 100000) :
    Calls Tryz.prog 68 #[.int .i64 s, .pointer (some ⟨b0, 0, none⟩)] w fun e w' => e = .returned (.bool (!syB g s)) ∧ Below w.heap.size w w' := by
  obtain ⟨ta, tc, na, nc, pa, pc⟩ := a
  have hT := Lib.hid (fun w => terminal_any g ⟨ta, tc, na, nc, pa, pc⟩ s w (by omega))
  have hN := Lib.hid (fun w => nonterm_any g ⟨ta, tc, na, nc, pa, pc⟩ s w (by omega))
  have c0 := hb.cell 0
  have c1 := hb.cell 1
  have c2 := hb.cell 2
  have c3 := hb.cell 3
  have c4 := hb.cell 4
  have c5 := hb.cell 5
  have hlt := hb.lt
  unfold gval gcells at *
  dsimp only at *
  simp only [List.getElem?_toArray, List.getElem?_cons_zero, List.getElem?_cons_succ] at c0 c1 c2 c3 c4 c5
  cases h1 : tmB g s with
  | true =>
    have hs : syB g s = true := by unfold syB; rw [h1]; rfl
    rw [hs]
    rw [h1] at hT
    replace h1 := Lib.hid h1
    replace hs := Lib.hid hs
    go_enter Tryz.func68, Tryz.ntmps68
    go_wp2_with fail
    refine (hT.out _).mono ?_
    rintro e w1 ⟨rfl, hb1⟩
    go_wp2_with fail
    go_ret
    exact ⟨rfl, hb1⟩
  | false =>
    have hs : syB g s = ntB g s := by unfold syB; rw [h1]; rfl
    rw [hs]
    rw [h1] at hT
    replace h1 := Lib.hid h1
    replace hs := Lib.hid hs
    generalize ntB g s = q at *
    go_enter Tryz.func68, Tryz.ntmps68
    go_wp2_with fail
    refine (hT.out _).mono ?_
    rintro e w1 ⟨rfl, hb1⟩
    have d0 := cell_later hb1 c0
    have d1 := cell_later hb1 c1
    have d2 := cell_later hb1 c2
    have d3 := cell_later hb1 c3
    have d4 := cell_later hb1 c4
    have d5 := cell_later hb1 c5
    go_wp2_with fail
    refine (hN.out _).mono ?_
    rintro e w2 ⟨rfl, hb2⟩
    go_wp2_with fail
    go_ret
    exact ⟨rfl, bStep hb1 hb2⟩

/-- the first place at which q holds, or -1 -/
def fstI {α : Type} (q : α → Bool) (l : List α) : Int := match l.findIdx? q with | some i => (i : Int) | none => -1
theorem fstI_nonneg {α : Type} (q : α → Bool) (l : List α) : decide (0 ≤ fstI q l) = l.any q := by
  unfold fstI
  cases h : l.findIdx? q with
  | none =>
    rw [List.findIdx?_eq_none_iff] at h
    have : l.any q = false := by rw [List.any_eq_false]; intro x hx; rw [h x hx]; simp
    rw [this]; rfl
  | some i =>
    have := List.findIdx?_eq_some_iff_getElem.1 h
    obtain ⟨hi, hq, _⟩ := this
    have h2 : l.any q = true := List.any_eq_true.2 ⟨l[i], List.getElem_mem hi, hq⟩
    rw [h2]; simp
theorem fstI_at {α : Type} {q : α → Bool} {l : List α} {i : Nat} (hi : i < l.length) (hq : q l[i] = true) (h : ∀ (j : Nat) (x : α), j < i → l[j]? = some x → q x = false) : fstI q l = i := by
  have : l.findIdx? q = some i := List.findIdx?_eq_some_iff_getElem.2 ⟨hi, hq, fun j hj => by
    have := h j l[j] hj (List.getElem?_eq_getElem (by omega)); simp [this]⟩
  unfold fstI; rw [this]
theorem fstI_none {α : Type} {q : α → Bool} {l : List α} (h : ∀ (j : Nat) (x : α), l[j]? = some x → q x = false) : fstI q l = -1 := by
  have : l.findIdx? q = none := by
    rw [List.findIdx?_eq_none_iff]; intro x hx
    obtain ⟨i, hi, rfl⟩ := List.mem_iff_getElem.1 hx
    exact h i _ (List.getElem?_eq_getElem hi)
  unfold fstI; rw [this]

set_option maxHeartbeats 2000000 in
theorem idxsym_any (g : Gr) (a : GA) (b0 : Nat) (A : Option Addr) (n c : Nat) (l : List Int) (w : World) (hb : Blk w b0 25 (gcells g a)) (ht : g.toks.length ≤ 100000) (hn : g.names.length ≤ 100000) (hr : Rd1 w w.heap.size A n (ints l)) (hl : n ≤ 1000000) :
    Calls Tryz.prog 48 #[.slice A n c, .func (.func 68) #[] #[.pointer (some ⟨b0, 0, none⟩)]] w fun e w' => e = .returned (.int .i64 (fstI (fun s => !syB g s) l)) ∧ Below w.heap.size w w' := by
  have hll : l.length = n := by have := hr.1; simpa [ints] using this
  obtain ⟨R, hR⟩ : ∃ R : Int, R = fstI (fun s => !syB g s) l := ⟨_, rfl⟩
  rw [← hR]
  replace hR := Lib.hid hR
  replace hll := Lib.hid hll
  have hcl := Lib.hid (fun s w hb => symcl_any g a s b0 w hb ht hn)
  go_enter Tryz.func48, Tryz.ntmps48
  go_wp2_with fail
  go_loopg [8] n (fun gk s8 wr => ∃ i : Nat, s8 = .int .i64 i ∧ i + gk = n ∧ (∀ (j : Nat) (s : Int), j < i → l[j]? = some s → (!syB g s) = false) ∧ Blk wr b0 25 (gcells g a) ∧ Rd1 wr w.heap.size A n (ints l) ∧ Below w.heap.size w wr)
  case atStart => exact ⟨0, rfl, by omega, by intros; omega, hb, hr, Below.refl _ _⟩
  case round =>
    clear hb hr
    obtain ⟨i, rfl, hi, hP, hb, hr, hw⟩ := hrel
    replace hi := Lib.hid hi
    replace hP := Lib.hid hP
    by_cases hin : i < n
    · have hil : i < l.length := by have := hll.out; omega
      have hsk : l[i]? = some l[i] := List.getElem?_eq_getElem hil
      obtain ⟨b2, off2, rfl, hbt2, y0⟩ := hr.get (i := i) (v := .int .i64 l[i]) (by simp [ints, hsk])
      have hzk : (0 : Int) ≤ i := by omega
      have hzkn : (i : Int) < n := by omega
      have hc := Lib.hid (hcl.out l[i] _ hb)
      have hfa := Lib.hid (fun hq => fstI_at (q := fun s => !syB g s) hil hq hP.out)
      generalize l[i] = s at *
      replace hsk := Lib.hid hsk
      cases hq : (!syB g s) with
      | true =>
        have hR2 : R = i := hR.out.trans (hfa.out hq)
        subst hR2
        rw [hq] at hc
        replace hq := Lib.hid hq
        go_wp2_with fail
        refine hc.out.mono ?_
        rintro e w1 ⟨rfl, hb1⟩
        go_wp2_with fail
        go_ret
        exact ⟨rfl, bStep hw hb1⟩
      | false =>
        rw [hq] at hc
        have hG := Lib.hid (show ∀ (j : Nat) (s : Int), j < i + 1 → l[j]? = some s → (!syB g s) = false by
          intro j t hj ht
          by_cases e : j = i
          · subst e; rw [hsk.out] at ht; cases ht; exact hq
          · exact hP.out j t (by omega) ht)
        replace hq := Lib.hid hq
        go_wp2_with fail
        refine hc.out.mono ?_
        rintro e w1 ⟨rfl, hb1⟩
        go_wp2_with fail
        go_roundg (n - (i + 1))
        case measure => have := hi.out; omega
        case rel => exact ⟨i + 1, by go_num, by have := hi.out; omega, hG.out, hb.step hb1, hr.below (hb1.mono hw.size), bStep hw hb1⟩
    · have hR2 : R = -1 := hR.out.trans (fstI_none fun j x hx => hP.out j x (by have := (List.getElem?_eq_some_iff.1 hx).1; have := hll.out; omega) hx)
      subst hR2
      go_wp2_with fail
      go_ret
      exact ⟨rfl, hw⟩
end Go.Proofs.YtlngbphchhbpbaaGreat

/- grammar.complete, and the library's ContainsFunc. -/
namespace Go.Proofs.YtlngbphchhbpbaaGreat
open Go.ChangeShapes Go.WideShapes Go.ChangeAt Go.RowKit
set_option linter.unusedVariables false

theorem consym_any (g : Gr) (a : GA) (b0 : Nat) (A : Option Addr) (n c : Nat) (l : List Int) (w : World) (hb : Blk w b0 25 (gcells g a)) (ht : g.toks.length ≤ 100000) (hn : g.names.length ≤ 100000) (hr : Rd1 w w.heap.size A n (ints l)) (hl : n ≤ 1000000) :
    Calls Tryz.prog 67 #[.slice A n c, .func (.func 68) #[] #[.pointer (some ⟨b0, 0, none⟩)]] w fun e w' => e = .returned (.bool (!l.all (syB g))) ∧ Below w.heap.size w w' := by
  have hI := Lib.hid (idxsym_any g a b0 A n c l w hb ht hn hr hl)
  have hR : (!l.all (syB g)) = decide (0 ≤ fstI (fun s => !syB g s) l) := by rw [fstI_nonneg, List.all_eq_not_any_not]; simp
  rw [hR]
  generalize fstI (fun s => !syB g s) l = k at *
  clear hR
  go_enter Tryz.func67, Tryz.ntmps67
  go_wp2_with fail
  refine hI.out.mono ?_
  rintro e w1 ⟨rfl, hb1⟩
  go_wp2_with fail
  go_ret
  exact ⟨rfl, hb1⟩

set_option maxHeartbeats 1000000 in
theorem comcl_any (p : Pr) (RA : Option Addr) (rc : Nat) (i : Nat) (b0 : Nat) (w : World) (hb : w.cell? ⟨b0, 0, none⟩ = some (.int .i64 i)) (hi : i ≤ 100000) :
    Calls Tryz.prog 70 #[.agg #[.int .i64 p.left, .slice RA p.right.length rc], .pointer (some ⟨b0, 0, none⟩)] w fun e w' => e = .returned (.bool (decide (p.left = 16 + (i : Int)))) ∧ Below w.heap.size w w' := by
  have hlt : b0 < w.heap.size := block_lt_of_cell hb
  by_cases h : p.left = 16 + (i : Int)
  · have hbb : (p.left == 16 + (i : Int)) = true := by simp [h]
    rw [decide_eq_true h]
    clear h
    go_enter Tryz.func70, Tryz.ntmps70
    go_wp2_with fail
    go_ret
    exact ⟨rfl, bAlc (Below.refl _ _) _⟩
  · have hbb : (p.left == 16 + (i : Int)) = false := by simp [h]
    rw [decide_eq_false h]
    clear h
    go_enter Tryz.func70, Tryz.ntmps70
    go_wp2_with fail
    go_ret
    exact ⟨rfl, bAlc (Below.refl _ _) _⟩

set_option maxHeartbeats 2000000 in
theorem idxcom_any (i0 : Nat) (b0 : Nat) (A : Option Addr) (n c : Nat) (l : List Pr) (w : World) (hb : w.cell? ⟨b0, 0, none⟩ = some (.int .i64 i0)) (hi0 : i0 ≤ 100000) (hr : RdP w w.heap.size A n l) (hl : n ≤ 1000000) :
    Calls Tryz.prog 81 #[.slice A n c, .func (.func 70) #[] #[.pointer (some ⟨b0, 0, none⟩)]] w fun e w' => e = .returned (.int .i64 (fstI (fun p => decide (p.left = 16 + (i0 : Int))) l)) ∧ Below w.heap.size w w' := by
  have hll : l.length = n := hr.1
  obtain ⟨R, hR⟩ : ∃ R : Int, R = fstI (fun p => decide (p.left = 16 + (i0 : Int))) l := ⟨_, rfl⟩
  rw [← hR]
  replace hR := Lib.hid hR
  replace hll := Lib.hid hll
  have hcl := Lib.hid (fun p RA rc w hb => comcl_any p RA rc i0 b0 w hb hi0)
  go_enter Tryz.func81, Tryz.ntmps81
  go_wp2_with fail
  go_loopg [8] n (fun gk s8 wr => ∃ i : Nat, s8 = .int .i64 i ∧ i + gk = n ∧ (∀ (j : Nat) (p : Pr), j < i → l[j]? = some p → decide (p.left = 16 + (i0 : Int)) = false) ∧ wr.cell? ⟨b0, 0, none⟩ = some (.int .i64 i0) ∧ RdP wr w.heap.size A n l ∧ Below w.heap.size w wr)
  case atStart => exact ⟨0, rfl, by omega, by intros; omega, hb, hr, Below.refl _ _⟩
  case round =>
    clear hb hr
    obtain ⟨i, rfl, hi, hP, hb, hr, hw⟩ := hrel
    replace hi := Lib.hid hi
    replace hP := Lib.hid hP
    by_cases hin : i < n
    · have hil : i < l.length := by have := hll.out; omega
      have hsk : l[i]? = some l[i] := List.getElem?_eq_getElem hil
      obtain ⟨b2, off2, rfl, hbt2, y0, RA, rc, y1, hy2, hy3, hy4⟩ := hr.get hsk
      have hzk : (0 : Int) ≤ i := by omega
      have hzkn : (i : Int) < n := by omega
      have hc := Lib.hid (hcl.out l[i] RA rc _ hb)
      have hfa := Lib.hid (fun hq => fstI_at (q := fun p : Pr => decide (p.left = 16 + (i0 : Int))) hil hq hP.out)
      generalize l[i] = s at *
      replace hsk := Lib.hid hsk
      clear hy2 hy3 hy4
      cases hq : decide (s.left = 16 + (i0 : Int)) with
      | true =>
        have hR2 : R = i := hR.out.trans (hfa.out hq)
        subst hR2
        rw [hq] at hc
        replace hq := Lib.hid hq
        go_wp2_with fail
        refine hc.out.mono ?_
        rintro e w1 ⟨rfl, hb1⟩
        go_wp2_with fail
        go_ret
        exact ⟨rfl, bStep hw hb1⟩
      | false =>
        rw [hq] at hc
        have hG := Lib.hid (show ∀ (j : Nat) (p : Pr), j < i + 1 → l[j]? = some p → decide (p.left = 16 + (i0 : Int)) = false by
          intro j t hj ht
          by_cases e : j = i
          · subst e; rw [hsk.out] at ht; cases ht; exact hq
          · exact hP.out j t (by omega) ht)
        replace hq := Lib.hid hq
        go_wp2_with fail
        refine hc.out.mono ?_
        rintro e w1 ⟨rfl, hb1⟩
        have hb2 := cell_later hb1 hb
        go_wp2_with fail
        go_roundg (n - (i + 1))
        case measure => have := hi.out; omega
        case rel => exact ⟨i + 1, by go_num, by have := hi.out; omega, hG.out, hb2, hr.below (hb1.mono hw.size), bStep hw hb1⟩
    · have hR2 : R = -1 := hR.out.trans (fstI_none fun j x hx => hP.out j x (by have := (List.getElem?_eq_some_iff.1 hx).1; have := hll.out; omega) hx)
      subst hR2
      go_wp2_with fail
      go_ret
      exact ⟨rfl, hw⟩
theorem concom_any (i0 : Nat) (b0 : Nat) (A : Option Addr) (n c : Nat) (l : List Pr) (w : World) (hb : w.cell? ⟨b0, 0, none⟩ = some (.int .i64 i0)) (hi0 : i0 ≤ 100000) (hr : RdP w w.heap.size A n l) (hl : n ≤ 1000000) :
    Calls Tryz.prog 69 #[.slice A n c, .func (.func 70) #[] #[.pointer (some ⟨b0, 0, none⟩)]] w fun e w' => e = .returned (.bool (l.any fun p => decide (p.left = 16 + (i0 : Int)))) ∧ Below w.heap.size w w' := by
  have hI := Lib.hid (idxcom_any i0 b0 A n c l w hb hi0 hr hl)
  rw [← fstI_nonneg]
  generalize fstI (fun p : Pr => decide (p.left = 16 + (i0 : Int))) l = k at *
  go_enter Tryz.func69, Tryz.ntmps69
  go_wp2_with fail
  refine hI.out.mono ?_
  rintro e w1 ⟨rfl, hb1⟩
  go_wp2_with fail
  go_ret
  exact ⟨rfl, hb1⟩

set_option maxHeartbeats 2000000 in
theorem complete_any (g : Gr) (a : GA) (w : World) (hg : GrAt w w.heap.size g a) (hs : Small g) :
    Calls Tryz.prog 47 #[gval g a] w fun e w' => e = .returned (.int .i64 (if compB g = false then 7 else 0)) ∧ Below w.heap.size w w' := by
  obtain ⟨ta, tc, na, nc, pa, pc⟩ := a
  obtain ⟨R, hR⟩ : ∃ R : Int, R = if compB g = false then 7 else 0 := ⟨_, rfl⟩
  rw [← hR]
  replace hR := Lib.hid hR
  have hs2 := hs.n
  have hs3 := hs.p
  clear hs
  have hG0 := GB.start hg
  clear hg
  unfold gval at *
  unfold gcells at *
  dsimp only at *
  go_enter Tryz.func47, Tryz.ntmps47
  go_wp2_with fail
  go_loopg [7] g.names.length (fun gk s7 wr => ∃ i : Nat, s7 = .int .i64 i ∧ i + gk = g.names.length ∧ (∀ j : Nat, j < i → (g.prods.any fun p => decide (p.left = 16 + (j : Int))) = true) ∧ GB w g ⟨ta, tc, na, nc, pa, pc⟩ wr)
  case atStart => exact ⟨0, rfl, by omega, by intros; omega, hG0⟩
  case round =>
    clear hG0
    obtain ⟨i, rfl, hi, hP, hG⟩ := hrel
    replace hi := Lib.hid hi
    replace hP := Lib.hid hP
    obtain ⟨c0, c1, c2, c3, c4, c5⟩ := hG.cells
    dsimp only at c1 c3 c5
    by_cases hin : i < g.names.length
    · have hlt := hG.lt
      have hC := Lib.hid (fun w hb hr => concom_any i wr.heap.size pa g.prods.length pc g.prods w hb (by omega) hr (by omega))
      cases hq : (g.prods.any fun p => decide (p.left = 16 + (i : Int))) with
      | false =>
        have hR2 : R = 7 := by
          rw [hR.out, if_pos]
          unfold compB
          rw [List.all_eq_false]
          exact ⟨i, List.mem_range.2 hin, by rw [hq]; simp⟩
        subst hR2
        rw [hq] at hC
        replace hq := Lib.hid hq
        go_wp2_with fail
        refine (hC.out _ ?_ ?_).mono ?_
        · exact (Blk.new wr 3 #[.int .i64 (i : Int)]).cell 0
        · exact ((hG.alloc _).2.1.mono (hG.alloc _).2.2.size).prods
        rintro e w1 ⟨rfl, hb1⟩
        go_wp2_with fail
        go_ret
        exact ⟨rfl, bStep (bAlc hG.2.2 _) hb1⟩
      | true =>
        rw [hq] at hC
        have hGG := Lib.hid (show ∀ j : Nat, j < i + 1 → (g.prods.any fun p => decide (p.left = 16 + (j : Int))) = true by
          intro j hj
          by_cases e : j = i
          · subst e; exact hq
          · exact hP.out j (by omega))
        replace hq := Lib.hid hq
        go_wp2_with fail
        refine (hC.out _ ?_ ?_).mono ?_
        · exact (Blk.new wr 3 #[.int .i64 (i : Int)]).cell 0
        · exact ((hG.alloc _).2.1.mono (hG.alloc _).2.2.size).prods
        rintro e w1 ⟨rfl, hb1⟩
        go_wp2_with fail
        go_roundg (g.names.length - (i + 1))
        case measure => have := hi.out; omega
        case rel => exact ⟨i + 1, by go_num, by have := hi.out; omega, hGG.out, (hG.alloc _).step hb1⟩
    · have hR2 : R = 0 := by
        rw [hR.out, if_neg]
        rw [show compB g = true from by
          unfold compB
          rw [List.all_eq_true]
          intro j hj
          exact hP.out j (by have := List.mem_range.1 hj; omega)]
        simp
      subst hR2
      go_wp2_with fail
      go_ret
      exact ⟨rfl, hG.2.2⟩
end Go.Proofs.YtlngbphchhbpbaaGreat

/- A map of keys to true, whatever the keys. -/
namespace Go.Proofs.YtlngbphchhbpbaaGreat
open Go.ChangeShapes Go.WideShapes Go.ChangeAt Go.RowKit
open Go.ChangeMaps (heap_setBlock_same setBlock)
open Go.MapKept (Stamped stamped_push)
set_option linter.unusedVariables false

/-- strings as keys -/
def strKey : KeyEnc ByteArray where
  K := 9
  enc := Value.string
  ok := fun s => s.size ≤ maxLen
  keyed := Maps.string_keyed (by kernel_rfl)
  key := fun x hx => ⟨_, Go.WideMaps.keyOf_string_mk (by kernel_rfl) hx⟩
  inj := fun x y _ _ h => by injection h
end Go.Proofs.YtlngbphchhbpbaaGreat
