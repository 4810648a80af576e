/- Walks and plain laws, part 2 of 10: The statements' own helper SameLooks; Grammars in memory; Grammars: what is right, plain; the reference 09: nonterm, terminal, full, twice; append, on slices of the call's own of one-cell values; The reference 09: prods, named; The reference 09: symbols, Check; The reference 09: Check; slices.All over the productions of a grammar; grammar.prods; grammar.many; grammar: the closures of symbols and complete, and the library's IndexFunc, ContainsFunc at them; grammar.complete, and the library's ContainsFunc; A map of keys to true, whatever the keys. Conditions: none beyond those that each theorem states. -/
import Derived.Test.YtnnkfgekiaaehaaGreatC1
import Derived.RegionTactic
import Derived.Deep.RegionHeld3
import Derived.Deep.DeepCutAuto
import Derived.Deep.CutBlock
import Derived.IntWalk
import Derived.RangeFuncNested
import Derived.RangeFuncBound
import Derived.RangeFuncCalls
import Derived.RangeFuncLeaves
import Derived.RangeFuncBox
import Derived.Shelf.Abstract
import Derived.Shelf.RegionOpen
import Derived.OwnWalkIn
import Derived.TacticsInMore
import Derived.LoopNIn
import Derived.LoopIn
import Derived.Maps.Keyed
import Derived.StringKeys
/- The statements' own helper SameLooks. -/
namespace Go.Proofs.YtnnkfgekiaaehaaGreat
open Go.ChangeShapes Go.WideShapes Go.ChangeAt Go.RowKit
set_option linter.unusedVariables false
theorem take_eq_all {l m : List Lk} {i : Nat} (hl : l.length ≤ i) (hlm : l.length = m.length) (h : l.take i = m.take i) : l = m := by
  rwa [List.take_of_length_le hl, List.take_of_length_le (by omega)] at h
set_option maxHeartbeats 1000000 in
theorem samelooks_any (A A2 : Option Addr) (n m c c2 : Nat) (l k : List Lk) (w : World) (ha : RdL w w.heap.size A n l) (hb : RdL w w.heap.size A2 m k) (hr : ∀ y ∈ l, y.wf) (hr2 : ∀ y ∈ k, y.wf) (hn : n ≤ maxLen) (hm : m ≤ maxLen) :
    Calls Tryz.prog 10 #[.slice A n c, .slice A2 m c2] w fun e w' => e = .returned (.bool (decide (l = k))) ∧ Below w.heap.size w w' := by
  have hl := Lib.hid ha.1
  have hk := Lib.hid hb.1
  obtain ⟨R, hR⟩ : ∃ R, R = decide (l = k) := ⟨_, rfl⟩
  rw [← hR]
  replace hR := Lib.hid hR
  unfold maxLen at hn hm
  by_cases hnm : n = m
  · subst hnm
    have hE := Lib.hid (fun (y x : Lk) (hy : y ∈ l) (hx : x ∈ k) (w : World) => look_neq y x (hr y hy) (hr2 x hx) w)
    unfold Lk.v at hE
    go_enter Tryz.func10, Tryz.ntmps10
    go_wp2_with fail
    go_loopg [5] n (fun gk s5 wr => ∃ i : Nat, s5 = .int .i64 i ∧ i + gk = n ∧ l.take i = k.take i ∧ RdL wr w.heap.size A n l ∧ RdL wr w.heap.size A2 n k ∧ Below w.heap.size w wr)
    case atStart => exact ⟨0, rfl, by omega, by simp, ha, hb, Below.refl _ _⟩
    case round =>
      clear ha hb
      obtain ⟨i, rfl, hi, hni, ha, hb, hw⟩ := hrel
      replace hi := Lib.hid hi
      replace hni := Lib.hid hni
      by_cases hin : i < n
      · have hil : i < l.length := by have := hl.out; omega
        have hik : i < k.length := by have := hk.out; omega
        have hyi : l[i]? = some l[i] := List.getElem?_eq_getElem hil
        have hxi : k[i]? = some k[i] := List.getElem?_eq_getElem hik
        obtain ⟨b, off, rfl, hbt, x0, x1, x2, x3, x4⟩ := ha.get hyi
        obtain ⟨b', off', rfl, hbt', y0, y1, y2, y3, y4⟩ := hb.get hxi
        have htk : l.take (i + 1) = l.take i ++ [l[i]] := List.take_succ_eq_append_getElem hil
        have htk2 : k.take (i + 1) = k.take i ++ [k[i]] := List.take_succ_eq_append_getElem hik
        have hee := hE.out l[i] k[i] (List.getElem_mem hil) (List.getElem_mem hik)
        generalize hy : l[i] = y at *
        generalize hx : k[i] = x at *
        replace hy := Lib.hid hy
        replace hyi := Lib.hid hyi
        replace hx := Lib.hid hx
        replace hxi := Lib.hid hxi
        replace htk := Lib.hid htk
        replace htk2 := Lib.hid htk2
        have hzi : (0 : Int) ≤ i := by omega
        have hzn : (i : Int) < n := by omega
        by_cases hyx : y = x
        · simp only [hyx, decide_true, Bool.not_true] at hee
          have hG := Lib.hid (show l.take (i + 1) = k.take (i + 1) by rw [htk.out, htk2.out, hni.out, hyx])
          subst hyx
          go_wp2_with fail
          go_quiet (fail)
          go_wp2_with fail
          go_roundg (n - (i + 1))
          case measure => have := hi.out; omega
          case rel => exact ⟨i + 1, by go_num, by have := hi.out; omega, hG.out, ha.below (bDrwN' _ _), hb.below (bDrwN' _ _), bDrwN hw _⟩
        · have hRF : R = false := by
            rw [hR.out]; apply decide_eq_false
            rintro rfl
            exact hyx (hy.out.symm.trans hx.out)
          subst hRF
          simp only [hyx, decide_false, Bool.not_false] at hee
          clear hyx
          go_wp2_with fail
          go_quiet (fail)
          go_wp2_with fail
          go_ret
          exact ⟨rfl, bDrwN hw _⟩
      · have hRT : R = true := by
          rw [hR.out]; exact decide_eq_true (take_eq_all (by have := hl.out; omega) (by have := hl.out; have := hk.out; omega) hni.out)
        subst hRT
        go_wp2_with fail
        go_ret
        exact ⟨rfl, hw⟩
  · have hb1 : ((n : Int) != (m : Int)) = true := by simp; omega
    have hRF : R = false := by
      rw [hR.out]; apply decide_eq_false
      rintro rfl
      exact hnm (hl.out.symm.trans hk.out)
    subst hRF
    clear hnm
    go_enter Tryz.func10, Tryz.ntmps10
    go_wp2_with fail
    go_ret
    exact ⟨rfl, Below.refl _ _⟩
end Go.Proofs.YtnnkfgekiaaehaaGreat

/- Grammars in memory. -/
namespace Go.Proofs.YtnnkfgekiaaehaaGreat
open Go.ChangeShapes Go.WideShapes Go.ChangeAt Go.RowKit
set_option linter.unusedVariables false
def Rd1 (w : World) (B : Nat) (A : Option Addr) (n : Nat) (vs : List Value) : Prop :=
  vs.length = n ∧ (n = 0 ∨ ∃ b off, A = some ⟨b, off, none⟩ ∧ b < B ∧ ∀ (i : Nat) (v : Value), vs[i]? = some v → w.cell? ⟨b, off + i, none⟩ = some v)
theorem Rd1.below {w w' : World} {B : Nat} {A : Option Addr} {n : Nat} {l : List Value} (h : Rd1 w B A n l) (hb : Below B w w') : Rd1 w' B A n l := by
  refine ⟨h.1, ?_⟩
  rcases h.2 with h0 | ⟨b, off, rfl, hlt, hc⟩
  · exact .inl h0
  · exact .inr ⟨b, off, rfl, hlt, fun i x hx => by rw [hb.cell (p := ⟨b, off + i, none⟩) hlt]; exact hc i x hx⟩
theorem Rd1.mono {w : World} {B B' : Nat} {A : Option Addr} {n : Nat} {l : List Value} (h : Rd1 w B A n l) (hb : B ≤ B') : Rd1 w B' A n l := by
  refine ⟨h.1, ?_⟩
  rcases h.2 with h0 | ⟨b, off, rfl, hlt, hc⟩
  · exact .inl h0
  · exact .inr ⟨b, off, rfl, by omega, hc⟩
theorem Rd1.get {w : World} {B : Nat} {A : Option Addr} {n : Nat} {l : List Value} (h : Rd1 w B A n l) {i : Nat} {v : Value} (hi : l[i]? = some v) :
    ∃ b off, A = some ⟨b, off, none⟩ ∧ b < B ∧ w.cell? ⟨b, off + i, none⟩ = some v := by
  have hlt := (List.getElem?_eq_some_iff.1 hi).1
  rcases h.2 with h0 | ⟨b, off, rfl, hb, hc⟩
  · have := h.1; omega
  · exact ⟨b, off, rfl, hb, hc i v hi⟩
theorem Rd1.nil (w : World) (B : Nat) (A : Option Addr) : Rd1 w B A 0 [] := ⟨rfl, .inl rfl⟩
theorem Rd1.drop {w : World} {B : Nat} {A : Option Addr} {n : Nat} {l : List Value} (h : Rd1 w B A n l) (k c : Nat) (hk : k ≤ n) (hc : n ≤ c) : Rd1 w B (if c = k then A else A.map (·.add k)) (n - k) (l.drop k) := by
  refine ⟨by rw [List.length_drop, h.1], ?_⟩
  rcases h.2 with h0 | ⟨b, off, rfl, hlt, hcell⟩
  · left; omega
  · by_cases e : n - k = 0
    · exact .inl e
    · right
      rw [if_neg (by omega)]
      refine ⟨b, off + k, by simp [Addr.add], hlt, fun i x hx => ?_⟩
      have := hcell (k + i) x (by rw [List.getElem?_drop] at hx; exact hx)
      rw [← this]
      congr 2
      omega
def ints (l : List Int) : List Value := l.map (Value.int .i64)
def strs (l : List ByteArray) : List Value := l.map Value.string
structure Pr where
  left : Int
  right : List Int
  deriving DecidableEq, Inhabited
structure Gr where
  k : Int
  toks : List ByteArray
  sep : ByteArray
  names : List ByteArray
  start : Int
  prods : List Pr
  deriving Inhabited
def RdP (w : World) (B : Nat) (A : Option Addr) (n : Nat) (ps : List Pr) : Prop :=
  ps.length = n ∧ (n = 0 ∨ ∃ b off, A = some ⟨b, off, none⟩ ∧ b < B ∧ ∀ (i : Nat) (p : Pr), ps[i]? = some p → w.cell? ⟨b, off + i * 2, none⟩ = some (.int .i64 p.left) ∧
    ∃ RA c, w.cell? ⟨b, off + i * 2 + 1, none⟩ = some (.slice RA p.right.length c) ∧ Rd1 w B RA p.right.length (ints p.right) ∧ p.right.length ≤ c ∧ c ≤ maxLen)
theorem RdP.below {w w' : World} {B : Nat} {A : Option Addr} {n : Nat} {l : List Pr} (h : RdP w B A n l) (hb : Below B w w') : RdP w' B A n l := by
  refine ⟨h.1, ?_⟩
  rcases h.2 with h0 | ⟨b, off, rfl, hlt, hc⟩
  · exact .inl h0
  · refine .inr ⟨b, off, rfl, hlt, fun i x hx => ?_⟩
    obtain ⟨h1, RA, c, h2, h3, h4⟩ := hc i x hx
    exact ⟨by rw [hb.cell (p := ⟨b, off + i * 2, none⟩) hlt]; exact h1, RA, c, by rw [hb.cell (p := ⟨b, off + i * 2 + 1, none⟩) hlt]; exact h2, h3.below hb, h4⟩
theorem RdP.mono {w : World} {B B' : Nat} {A : Option Addr} {n : Nat} {l : List Pr} (h : RdP w B A n l) (hb : B ≤ B') : RdP w B' A n l := by
  refine ⟨h.1, ?_⟩
  rcases h.2 with h0 | ⟨b, off, rfl, hlt, hc⟩
  · exact .inl h0
  · refine .inr ⟨b, off, rfl, by omega, fun i x hx => ?_⟩
    obtain ⟨h1, RA, c, h2, h3, h4⟩ := hc i x hx
    exact ⟨h1, RA, c, h2, h3.mono hb, h4⟩
theorem RdP.get {w : World} {B : Nat} {A : Option Addr} {n : Nat} {l : List Pr} (h : RdP w B A n l) {i : Nat} {p : Pr} (hi : l[i]? = some p) :
    ∃ b off, A = some ⟨b, off, none⟩ ∧ b < B ∧ w.cell? ⟨b, off + i * 2, none⟩ = some (.int .i64 p.left) ∧
      ∃ RA c, w.cell? ⟨b, off + i * 2 + 1, none⟩ = some (.slice RA p.right.length c) ∧ Rd1 w B RA p.right.length (ints p.right) ∧ p.right.length ≤ c ∧ c ≤ maxLen := by
  have hlt := (List.getElem?_eq_some_iff.1 hi).1
  rcases h.2 with h0 | ⟨b, off, rfl, hb, hc⟩
  · have := h.1; omega
  · exact ⟨b, off, rfl, hb, hc i p hi⟩
structure GA where
  ta : Option Addr
  tc : Nat
  na : Option Addr
  nc : Nat
  pa : Option Addr
  pc : Nat
def gcells (g : Gr) (a : GA) : Array Value := #[.int .i64 g.k, .slice a.ta g.toks.length a.tc, .string g.sep, .slice a.na g.names.length a.nc, .int .i64 g.start, .slice a.pa g.prods.length a.pc]
def gval (g : Gr) (a : GA) : Value := .agg (gcells g a)
structure GrAt (w : World) (B : Nat) (g : Gr) (a : GA) : Prop where
  toks : Rd1 w B a.ta g.toks.length (strs g.toks)
  tc : g.toks.length ≤ a.tc
  tm : a.tc ≤ maxLen
  names : Rd1 w B a.na g.names.length (strs g.names)
  nc : g.names.length ≤ a.nc
  nm : a.nc ≤ maxLen
  prods : RdP w B a.pa g.prods.length g.prods
  pc : g.prods.length ≤ a.pc
  pm : a.pc ≤ maxLen
  sep : g.sep.size ≤ maxLen
  ts : ∀ s ∈ g.toks, s.size ≤ maxLen
  ns : ∀ s ∈ g.names, s.size ≤ maxLen
theorem GrAt.below {w w' : World} {B : Nat} {g : Gr} {a : GA} (h : GrAt w B g a) (hb : Below B w w') : GrAt w' B g a :=
  ⟨h.toks.below hb, h.tc, h.tm, h.names.below hb, h.nc, h.nm, h.prods.below hb, h.pc, h.pm, h.sep, h.ts, h.ns⟩
theorem GrAt.mono {w : World} {B B' : Nat} {g : Gr} {a : GA} (h : GrAt w B g a) (hb : B ≤ B') : GrAt w B' g a :=
  ⟨h.toks.mono hb, h.tc, h.tm, h.names.mono hb, h.nc, h.nm, h.prods.mono hb, h.pc, h.pm, h.sep, h.ts, h.ns⟩
theorem GrAt.step {w w' : World} {g : Gr} {a : GA} (h : GrAt w w.heap.size g a) (hb : Below w.heap.size w w') : GrAt w' w'.heap.size g a := (h.below hb).mono hb.size
end Go.Proofs.YtnnkfgekiaaehaaGreat

/- Grammars: what is right, plain; the reference 09: nonterm, terminal, full, twice. -/
namespace Go.Proofs.YtnnkfgekiaaehaaGreat
open Go.ChangeShapes Go.WideShapes Go.ChangeAt Go.RowKit
set_option linter.unusedVariables false
def ntB (g : Gr) (s : Int) : Bool := decide (16 ≤ s ∧ s < 16 + (g.names.length : Int))
def tmB (g : Gr) (s : Int) : Bool := decide (0 ≤ s ∧ s < (g.toks.length : Int))
def fullB (g : Gr) : Bool := decide (g.toks.length ≤ 8) && (decide (g.names.length ≤ 8) && (decide (g.prods.length ≤ 24) && g.prods.all fun p => decide (p.right.length ≤ 6)))
def shortB (g : Gr) : Bool := decide (g.toks.length = 0) || decide (g.names.length = 0)
def nameB (g : Gr) : Bool := (g.toks ++ [g.sep]).all smallB && g.names.all capB
def diffB (g : Gr) : Bool := decide (g.toks ++ [g.sep]).Nodup && decide g.names.Nodup
def symB (g : Gr) : Bool := ntB g g.start && g.prods.all fun p => ntB g p.left && p.right.all fun s => tmB g s || ntB g s
def ordB (g : Gr) : Bool := (List.range g.prods.length).all fun i => decide (i = 0) || decide ((g.prods.getD (i - 1) default).left ≤ (g.prods.getD i default).left)
def compB (g : Gr) : Bool := (List.range g.names.length).all fun i => g.prods.any fun p => decide (p.left = 16 + (i : Int))
def gchk (g : Gr) : Int :=
  if g.k < 1 ∨ 4 < g.k then 2 else if fullB g = false then 6 else if shortB g = true then 5 else if nameB g = false then 12 else if diffB g = false then 8 else if symB g = false then 14 else if ordB g = false then 9 else if compB g = false then 7 else 0
set_option maxHeartbeats 1000000 in
theorem rnonterm_any (g : Gr) (a : GA) (s : Int) (w : World) (hn : g.names.length ≤ 1000000) : Calls Tryz.prog 98 #[gval g a, .int .i64 s] w fun e w' => e = .returned (.bool (ntB g s)) ∧ Below w.heap.size w w' := by
  unfold gval gcells
  by_cases h1 : 16 ≤ s
  · by_cases h2 : s < 16 + (g.names.length : Int)
    · rw [show ntB g s = true from decide_eq_true ⟨h1, h2⟩]
      go_enter Tryz.func98, Tryz.ntmps98
      go_wp2_with fail
      go_ret
      exact ⟨rfl, bAlc (Below.refl _ _) _⟩
    · rw [show ntB g s = false from decide_eq_false fun h => h2 h.2]
      go_enter Tryz.func98, Tryz.ntmps98
      go_wp2_with fail
      go_ret
      exact ⟨rfl, bAlc (Below.refl _ _) _⟩
  · rw [show ntB g s = false from decide_eq_false fun h => h1 h.1]
    go_enter Tryz.func98, Tryz.ntmps98
    go_wp2_with fail
    go_ret
    exact ⟨rfl, bAlc (Below.refl _ _) _⟩
set_option maxHeartbeats 1000000 in
theorem nonterm_any (g : Gr) (a : GA) (s : Int) (w : World) (hn : g.names.length ≤ 1000000) : Calls Tryz.prog 103 #[gval g a, .int .i64 s] w fun e w' => e = .returned (.bool (ntB g s)) ∧ Below w.heap.size w w' := by
  unfold gval gcells
  by_cases h1 : 16 ≤ s
  · by_cases h2 : s < 16 + (g.names.length : Int)
    · rw [show ntB g s = true from decide_eq_true ⟨h1, h2⟩]
      go_enter Tryz.func103, Tryz.ntmps103
      go_wp2_with fail
      go_ret
      exact ⟨rfl, bAlc (Below.refl _ _) _⟩
    · rw [show ntB g s = false from decide_eq_false fun h => h2 h.2]
      go_enter Tryz.func103, Tryz.ntmps103
      go_wp2_with fail
      go_ret
      exact ⟨rfl, bAlc (Below.refl _ _) _⟩
  · rw [show ntB g s = false from decide_eq_false fun h => h1 h.1]
    go_enter Tryz.func103, Tryz.ntmps103
    go_wp2_with fail
    go_ret
    exact ⟨rfl, bAlc (Below.refl _ _) _⟩
set_option maxHeartbeats 1000000 in
theorem rterminal_any (g : Gr) (a : GA) (s : Int) (w : World) (hn : g.toks.length ≤ 1000000) : Calls Tryz.prog 115 #[gval g a, .int .i64 s] w fun e w' => e = .returned (.bool (tmB g s)) ∧ Below w.heap.size w w' := by
  unfold gval gcells
  by_cases h1 : 0 ≤ s
  · by_cases h2 : s < (g.toks.length : Int)
    · rw [show tmB g s = true from decide_eq_true ⟨h1, h2⟩]
      go_enter Tryz.func115, Tryz.ntmps115
      go_wp2_with fail
      go_ret
      exact ⟨rfl, bAlc (Below.refl _ _) _⟩
    · rw [show tmB g s = false from decide_eq_false fun h => h2 h.2]
      go_enter Tryz.func115, Tryz.ntmps115
      go_wp2_with fail
      go_ret
      exact ⟨rfl, bAlc (Below.refl _ _) _⟩
  · rw [show tmB g s = false from decide_eq_false fun h => h1 h.1]
    go_enter Tryz.func115, Tryz.ntmps115
    go_wp2_with fail
    go_ret
    exact ⟨rfl, bAlc (Below.refl _ _) _⟩
set_option maxHeartbeats 1000000 in
theorem terminal_any (g : Gr) (a : GA) (s : Int) (w : World) (hn : g.toks.length ≤ 1000000) : Calls Tryz.prog 106 #[gval g a, .int .i64 s] w fun e w' => e = .returned (.bool (tmB g s)) ∧ Below w.heap.size w w' := by
  unfold gval gcells
  by_cases h1 : 0 ≤ s
  · by_cases h2 : s < (g.toks.length : Int)
    · rw [show tmB g s = true from decide_eq_true ⟨h1, h2⟩]
      go_enter Tryz.func106, Tryz.ntmps106
      go_wp2_with fail
      go_ret
      exact ⟨rfl, bAlc (Below.refl _ _) _⟩
    · rw [show tmB g s = false from decide_eq_false fun h => h2 h.2]
      go_enter Tryz.func106, Tryz.ntmps106
      go_wp2_with fail
      go_ret
      exact ⟨rfl, bAlc (Below.refl _ _) _⟩
  · rw [show tmB g s = false from decide_eq_false fun h => h1 h.1]
    go_enter Tryz.func106, Tryz.ntmps106
    go_wp2_with fail
    go_ret
    exact ⟨rfl, bAlc (Below.refl _ _) _⟩
set_option maxHeartbeats 1000000 in
theorem rfull_any (g : Gr) (a : GA) (w : World) (hg : GrAt w w.heap.size g a) (ht : g.toks.length ≤ 1000000) (hn : g.names.length ≤ 1000000) (hp : g.prods.length ≤ 1000000) (hr : ∀ p ∈ g.prods, p.right.length ≤ 1000000) :
    Calls Tryz.prog 76 #[gval g a] w fun e w' => e = .returned (.int .i64 (if fullB g = false then 6 else 0)) ∧ Below w.heap.size w w' := by
  obtain ⟨ta, tc, na, nc, pa, pc⟩ := a
  by_cases h1 : g.toks.length ≤ 8 ∧ g.names.length ≤ 8 ∧ g.prods.length ≤ 24
  · obtain ⟨h1, h2, h3⟩ := h1
    obtain ⟨R, hR⟩ : ∃ R, R = fullB g := ⟨_, rfl⟩
    rw [← hR]
    have hR1 : R = g.prods.all fun p => decide (p.right.length ≤ 6) := by rw [hR]; simp [fullB, h1, h2, h3]
    replace hR1 := Lib.hid hR1
    clear hR
    have q0 := Blk.new w 25 (gcells g ⟨ta, tc, na, nc, pa, pc⟩)
    have hg0 := hg.below (bAlc (Below.refl w.heap.size w) (.cells (gcells g ⟨ta, tc, na, nc, pa, pc⟩) 25))
    have hb0 := bAlc (Below.refl w.heap.size w) (.cells (gcells g ⟨ta, tc, na, nc, pa, pc⟩) 25)
    clear hg
    unfold gval
    unfold gcells at *
    dsimp only at *
    go_enter Tryz.func76, Tryz.ntmps76
    go_wp2_with fail
    go_loopg [3] g.prods.length (fun gk s3 wr => ∃ i : Nat, s3 = .int .i64 i ∧ i + gk = g.prods.length ∧ (∀ p ∈ g.prods.take i, p.right.length ≤ 6) ∧
      Blk wr w.heap.size 25 #[.int .i64 g.k, .slice ta g.toks.length tc, .string g.sep, .slice na g.names.length nc, .int .i64 g.start, .slice pa g.prods.length pc] ∧ GrAt wr w.heap.size g ⟨ta, tc, na, nc, pa, pc⟩ ∧ Below w.heap.size w wr)
    case atStart => exact ⟨0, rfl, by omega, by simp, q0, hg0, hb0⟩
    case round =>
      clear q0 hg0 hb0
      obtain ⟨i, rfl, hi, hP, q0, hga, hb⟩ := hrel
      replace hi := Lib.hid hi
      replace hP := Lib.hid hP
      have c5 := q0.cell 5
      simp only [List.getElem?_toArray, List.getElem?_cons_zero, List.getElem?_cons_succ] at c5
      by_cases hin : i < g.prods.length
      · have hxi : g.prods[i]? = some g.prods[i] := List.getElem?_eq_getElem hin
        obtain ⟨b, off, hA, hbt, x0, RA, rc, x1, hx2, hx3, hx4⟩ := hga.prods.get hxi
        dsimp only at hA
        subst hA
        have hmem := List.getElem_mem hin
        have hrl := hr _ hmem
        have htk : g.prods.take (i + 1) = g.prods.take i ++ [g.prods[i]] := List.take_succ_eq_append_getElem hin
        generalize g.prods[i] = p at *
        replace htk := Lib.hid htk
        replace hxi := Lib.hid hxi
        replace hmem := Lib.hid hmem
        have hzi : (0 : Int) ≤ i := by omega
        have hzn : (i : Int) < g.prods.length := by omega
        by_cases h6 : p.right.length ≤ 6
        · have hG := Lib.hid (show ∀ q ∈ g.prods.take (i + 1), q.right.length ≤ 6 by
            intro q hq
            rw [htk.out] at hq
            rcases List.mem_append.1 hq with h | h
            · exact hP.out q h
            · simp at h; rw [h]; exact h6)
          go_wp2_with fail
          go_roundg (g.prods.length - (i + 1))
          case measure => have := hi.out; omega
          case rel => exact ⟨i + 1, by go_num, by have := hi.out; omega, hG.out, q0, hga, hb⟩
        · have hRF : R = false := by
            rw [hR1.out, List.all_eq_false]
            exact ⟨p, hmem.out, by simpa using h6⟩
          subst hRF
          go_wp2_with fail
          go_ret
          exact ⟨rfl, hb⟩
      · have hRT : R = true := by
          rw [hR1.out, List.all_eq_true]
          intro q hq
          refine decide_eq_true (hP.out q ?_)
          rwa [List.take_of_length_le (by omega)]
        subst hRT
        go_wp2_with fail
        go_ret
        exact ⟨rfl, hb⟩
  · have hF : fullB g = false := by
      cases h : fullB g
      · rfl
      · simp [fullB] at h; exact absurd ⟨h.1, h.2.1, h.2.2.1⟩ h1
    rw [hF, if_pos rfl]
    unfold gval gcells
    dsimp only
    by_cases h2 : 8 < g.toks.length
    · clear h1
      go_enter Tryz.func76, Tryz.ntmps76
      go_wp2_with fail
      go_ret
      exact ⟨rfl, bAlc (Below.refl _ _) _⟩
    · by_cases h3 : 8 < g.names.length
      · clear h1
        go_enter Tryz.func76, Tryz.ntmps76
        go_wp2_with fail
        go_ret
        exact ⟨rfl, bAlc (Below.refl _ _) _⟩
      · have h4 : 24 < g.prods.length := by omega
        clear h1
        go_enter Tryz.func76, Tryz.ntmps76
        go_wp2_with fail
        go_ret
        exact ⟨rfl, bAlc (Below.refl _ _) _⟩
def DiffTo (l : List ByteArray) (i : Nat) : Prop := ∀ p q : Nat, p < q → q < i → l[p]? ≠ l[q]?
theorem diff_nodup (l : List ByteArray) : DiffTo l l.length ↔ l.Nodup := by
  unfold DiffTo List.Nodup
  rw [List.pairwise_iff_getElem]
  constructor
  · intro h i j hi hj hij e
    refine h i j hij hj ?_
    rw [List.getElem?_eq_getElem hi, List.getElem?_eq_getElem hj, e]
  · intro h p q hpq hq e
    rw [List.getElem?_eq_getElem (by omega), List.getElem?_eq_getElem hq] at e
    exact h p q (by omega) hq hpq (by simpa using e)
set_option maxHeartbeats 1000000 in
theorem rtwice_any (A : Option Addr) (n c : Nat) (l : List ByteArray) (w : World) (ha : Rd1 w w.heap.size A n (strs l)) (hn : n ≤ 1000000) :
    Calls Tryz.prog 114 #[.slice A n c] w fun e w' => e = .returned (.bool (!decide l.Nodup)) ∧ Below w.heap.size w w' := by
  have hl : l.length = n := by have := ha.1; simpa [strs] using this
  obtain ⟨R, hR⟩ : ∃ R, R = !decide l.Nodup := ⟨_, rfl⟩
  rw [← hR]
  replace hR := Lib.hid hR
  replace hl := Lib.hid hl
  go_enter Tryz.func114, Tryz.ntmps114
  go_wp2_with fail
  go_loopg [3] n (fun gk s3 wr => ∃ i : Nat, s3 = .int .i64 i ∧ i + gk = n ∧ DiffTo l i ∧ Rd1 wr w.heap.size A n (strs l) ∧ Below w.heap.size w wr)
  case atStart => exact ⟨0, rfl, by omega, by intro p q _ h; omega, ha, Below.refl _ _⟩
  case round =>
    clear ha
    obtain ⟨i, rfl, hi, hd, ha, hb⟩ := hrel
    replace hi := Lib.hid hi
    replace hd := Lib.hid hd
    by_cases hin : i < n
    · go_wp2_with fail
      obtain ⟨wo, rfl⟩ : ∃ wo : World, wo = wr := ⟨_, rfl⟩
      go_loopg [4] i (fun gk s4 wr => ∃ j : Nat, s4 = .int .i64 j ∧ j + gk = i ∧ (∀ p : Nat, p < j → l[p]? ≠ l[i]?) ∧ Rd1 wr w.heap.size A n (strs l) ∧ Below w.heap.size w wr)
      case atStart => exact ⟨0, rfl, by omega, by intro p h; omega, ha, hb⟩
      case round =>
        clear ha hb
        obtain ⟨j, rfl, hj, hne, ha, hb⟩ := hrel
        replace hj := Lib.hid hj
        replace hne := Lib.hid hne
        by_cases hji : j < i
        · have hil : i < l.length := by have := hl.out; omega
          have hjl : j < l.length := by omega
          have hxi : l[i]? = some l[i] := List.getElem?_eq_getElem hil
          have hxj : l[j]? = some l[j] := List.getElem?_eq_getElem hjl
          obtain ⟨b, off, rfl, hbt, x0⟩ := ha.get (i := i) (v := .string l[i]) (by simp [strs, hxi])
          obtain ⟨b', off', hbb, hbt', y0⟩ := ha.get (i := j) (v := .string l[j]) (by simp [strs, hxj])
          cases hbb
          generalize l[i] = x at *
          generalize l[j] = y at *
          have hzi : (0 : Int) ≤ i := by omega
          have hzn : (i : Int) < n := by omega
          have hzj : (0 : Int) ≤ j := by omega
          have hzm : (j : Int) < n := by omega
          replace hxi := Lib.hid hxi
          replace hxj := Lib.hid hxj
          by_cases hxy : x = y
          · have hRT : R = true := by
              rw [hR.out, decide_eq_false, Bool.not_false]
              rw [← diff_nodup]
              intro hd'
              exact hd' j i hji (by have := hl.out; omega) (by rw [hxi.out, hxj.out, hxy])
            subst hRT
            subst hxy
            go_wp2_with fail
            go_quiet (fail)
            go_wp2_with fail
            go_ret
            exact ⟨rfl, bDrwN hb _⟩
          · have hf := eqF x y hxy
            have hG := Lib.hid (show ∀ p : Nat, p < j + 1 → l[p]? ≠ l[i]? by
              intro p hp
              by_cases e : p = j
              · rw [e, hxi.out, hxj.out]; intro e2; exact hxy (by simpa using e2.symm)
              · exact hne.out p (by omega))
            clear hxy
            go_wp2_with fail
            go_quiet (fail)
            go_wp2_with fail
            go_roundg (i - (j + 1))
            case measure => have := hj.out; omega
            case rel => exact ⟨j + 1, by go_num, by have := hj.out; omega, hG.out, ha.below (bDrwN' _ _), bDrwN hb _⟩
        · have hG := Lib.hid (show DiffTo l (i + 1) by
            intro p q hpq hq
            by_cases e : q = i
            · rw [e]; exact hne.out p (by omega)
            · exact hd.out p q hpq (by omega))
          go_wp2_with fail
          go_roundg (n - (i + 1))
          case measure => have := hi.out; omega
          case rel => exact ⟨i + 1, by go_num, by have := hi.out; omega, hG.out, ha, hb⟩
    · have hRF : R = false := by
        rw [hR.out, decide_eq_true, Bool.not_true]
        rw [← diff_nodup]
        have := hd.out
        rwa [show i = l.length by have := hl.out; have := hi.out; omega] at this
      subst hRF
      go_wp2_with fail
      go_ret
      exact ⟨rfl, hb⟩
end Go.Proofs.YtnnkfgekiaaehaaGreat

/- append, on slices of the call's own of one-cell values. -/
namespace Go.Proofs.YtnnkfgekiaaehaaGreat
open Go.ChangeShapes Go.WideShapes Go.ChangeAt Go.RowKit
set_option linter.unusedVariables false
def Own1 (w : World) (base : Nat) (e : TypeId) (v : Value) (vs : List Value) : Prop := w.ownsRow base e 1 v vs.length vs
theorem Own1.nil (w : World) (base : Nat) (e : TypeId) : Own1 w base e (.slice none 0 0) [] := World.ownsRow_nil w base e 1
theorem Own1.alloc {w : World} {base : Nat} {e : TypeId} {v : Value} {l : List Value} (h : Own1 w base e v l) (o : Obj) : Own1 (w.alloc o) base e v l := World.ownsRow.alloc h o
theorem Own1.empty (w : World) (base : Nat) (e : TypeId) (h : base ≤ w.heap.size) : Own1 (w.alloc (.cells #[] e)) base e (.slice (some ⟨w.heap.size, 0, none⟩) 0 0) [] :=
  ⟨rfl, .inr ⟨w.heap.size, 0, #[], rfl, h, heap_alloc_new w _, Nat.le_refl _, by simp [maxLen], rfl, rfl⟩⟩
theorem Own1.step {w w' : World} {base : Nat} {e : TypeId} {v : Value} {l : List Value} (h : Own1 w base e v l) (hb : Below w.heap.size w w') : Own1 w' base e v l := by
  refine ⟨h.1, ?_⟩
  rcases h.2 with hn | ⟨g, cap, cur, rfl, hg0, hg, rest⟩
  · exact .inl hn
  · exact .inr ⟨g, cap, cur, rfl, hg0, (hb.block g (Array.getElem?_eq_some_iff.1 hg).1).trans hg, rest⟩
theorem Own1.mono {w : World} {base b' : Nat} {e : TypeId} {v : Value} {l : List Value} (h : Own1 w base e v l) (hb : b' ≤ base) : Own1 w b' e v l := by
  refine ⟨h.1, ?_⟩
  rcases h.2 with hn | ⟨g, cap, cur, rfl, hg0, hg, rest⟩
  · exact .inl hn
  · exact .inr ⟨g, cap, cur, rfl, by omega, hg, rest⟩
theorem Own1.reads {w : World} {base : Nat} {e : TypeId} {v : Value} {l : List Value} (h : Own1 w base e v l) : ∃ A c, v = .slice A l.length c ∧ Rd1 w w.heap.size A l.length l ∧ l.length ≤ c ∧ c ≤ maxLen ∧ (∀ a, A = some a → base ≤ a.block) := by
  rcases h.2 with ⟨rfl, h0⟩ | ⟨g, cap, cur, rfl, hb, hg, hnc, hcm, hcs, ht⟩
  · refine ⟨none, 0, by rw [h0], ⟨rfl, .inl h0⟩, by omega, by simp [maxLen], by simp⟩
  · refine ⟨some ⟨g, 0, none⟩, cap, rfl, ⟨rfl, ?_⟩, hnc, hcm, by simp; exact hb⟩
    refine .inr ⟨g, 0, rfl, (Array.getElem?_eq_some_iff.1 hg).1, fun i x hx => ?_⟩
    have hlt := (List.getElem?_eq_some_iff.1 hx).1
    rw [← ht, List.getElem?_take, if_pos (by omega)] at hx
    rw [cell_of_row w g _ cur e (0, 0) hg, Nat.zero_add]
    simpa using hx
section
variable (w : World) {P : Program} {ops : Array Oper} {rest : List Oper} {o : Oper} {a : Act} {K : Act → World → Prop} {Q : Exit → Act → World → Prop} {E : Prop}
theorem step_of_wp (hgd : o.guard = none) (h : Oper.wp P o a w K Q) : if Region.wanted o (yielded ops a.tmps) = true then Oper.wp P o a w K Q else E := by
  have hw : Region.wanted o (yielded ops a.tmps) = true := by simp [Region.wanted, hgd]
  rw [if_pos hw]
  exact h
theorem wp_join1 (s x : Operand) (t : TypeId) (ho : o.op = .call { callee := .builtin .append, args := #[s, x], argTypes := #[t, t] })
    (base : Nat) (e : TypeId) (z : Value) (bytes : Nat) (ht : P.underlying t = some (.slice e)) (hi : (P.info? e).map (fun i => (i.zero, i.size, i.bytes)) = some (some z, 1, bytes)) (hzs : z.cells.size = 1)
    (v : Value) (l : List Value) (hs : a.eval s = v) (hown : Own1 w base e v l) (B : Nat) (A : Option Addr) (m c : Nat) (k : List Value) (hx : a.eval x = .slice A m c) (hr : Rd1 w B A m k) (h1 : ∀ u ∈ k, u.oneCell' = true)
    (h63 : l.length + m ≤ 1000000) (hbytes : bytes ≤ 1000000) (hbase : base ≤ w.heap.size)
    (h : ∀ v' w', Own1 w' base e v' (l ++ k) → w.grownBy w' v.ownBlock → (v'.ownBlock = v.ownBlock ∨ v'.ownBlock = some w.heap.size) → (∀ W0, Below base W0 w → Below base W0 w') → K (a.put o.dst v') w') : Oper.wp P o a w K Q := by
  obtain ⟨i0, hi0, hz0, hz1, hz2⟩ := info_parts hi
  rcases A with _ | ad
  · have hm : m = 0 := by
      rcases hr.2 with h0 | ⟨_, _, h0, _⟩
      · exact h0
      · cases h0
    subst hm
    have hk : k = [] := List.eq_nil_of_length_eq_zero hr.1
    subst hk
    have hrun : (Builtin.append_ #[t, t] o.type #[v, .slice none 0 c]).run P w = .ok v w := by
      rcases hown.2 with ⟨rfl, _⟩ | ⟨g, cap, cur, rfl, _, _, hnc, _⟩
      · simp [Builtin.append_, run_underlying ht, sizeOf, typeInfo, hi0, Builtin.lenOf, Builtin.firstCells]
      · simp [Builtin.append_, run_underlying ht, sizeOf, typeInfo, hi0, Builtin.lenOf, Builtin.firstCells, hnc, storeCells]
    unfold Oper.wp execOp
    simp only [ho, resolve, invoke, builtin, Sem.run_bind, Sem.run_pure, Result.andThen_ok, List.map_toArray, List.map_cons, List.map_nil, hs, hx, hrun]
    exact h v w (by simpa using hown) (World.grownBy.refl w _) (.inl rfl) fun _ h => h
  · have hnews : ∀ j u, k[j]? = some u → w.cell? (ad.add j) = some u := by
      intro j u hu
      have hlt := (List.getElem?_eq_some_iff.1 hu).1
      rcases hr.2 with h0 | ⟨b, off, h0, _, hc⟩
      · have := hr.1; omega
      · cases h0
        have hadd : (⟨b, off, none⟩ : Addr).add j = ⟨b, off + j, none⟩ := by unfold Addr.add; split <;> simp_all
        rw [hadd]
        exact hc j u hu
    have hb2 := Nat.mul_le_mul h63 hbytes
    obtain ⟨v', w', hrun, h2, h3, h4, h5⟩ := run_append_own_at (P := P) w base t o.type e i0 z 1 bytes ht hi0 hz0 hz1 hz2 hzs (by omega) v l.length l hown ad m c k (by rw [hr.1]; omega) hnews h1 (by unfold maxLen; omega) (by omega) hbase
    unfold Oper.wp execOp
    simp only [ho, resolve, invoke, builtin, Sem.run_bind, Sem.run_pure, Result.andThen_ok, List.map_toArray, List.map_cons, List.map_nil, hs, hx, hrun]
    refine h v' w' ?_ h3 h5 fun W0 hB => hB.grown h3 hbase (fun k hk => (own_in hown k hk).1)
    unfold Own1
    rw [List.length_append, hr.1]
    exact h2
theorem wpList_join1 (hgd : o.guard = none) (s x : Operand) (t : TypeId) (ho : o.op = .call { callee := .builtin .append, args := #[s, x], argTypes := #[t, t] })
    (base : Nat) (e : TypeId) (z : Value) (bytes : Nat) (ht : P.underlying t = some (.slice e)) (hi : (P.info? e).map (fun i => (i.zero, i.size, i.bytes)) = some (some z, 1, bytes)) (hzs : z.cells.size = 1)
    (v : Value) (l : List Value) (hs : a.eval s = v) (hown : Own1 w base e v l) (B : Nat) (A : Option Addr) (m c : Nat) (k : List Value) (hx : a.eval x = .slice A m c) (hr : Rd1 w B A m k) (h1 : ∀ u ∈ k, u.oneCell' = true)
    (h63 : l.length + m ≤ 1000000) (hbytes : bytes ≤ 1000000) (hbase : base ≤ w.heap.size)
    (h : ∀ v' w', Own1 w' base e v' (l ++ k) → w.grownBy w' v.ownBlock → (v'.ownBlock = v.ownBlock ∨ v'.ownBlock = some w.heap.size) → (∀ W0, Below base W0 w → Below base W0 w') → wpList P ops Q rest (a.put o.dst v') w') : wpList P ops Q (o :: rest) a w :=
  wpList_plain hgd fun _ hK => wp_join1 w s x t ho base e z bytes ht hi hzs v l hs hown B A m c k hx hr h1 h63 hbytes hbase fun v' w' a b c d => hK _ _ (h v' w' a b c d)
theorem rd_blk {w : World} {g : Nat} {e : TypeId} {k : Value} (hb : Blk w g e #[k]) : Rd1 w w.heap.size (some ⟨g, 0, none⟩) 1 [k] := by
  refine ⟨rfl, .inr ⟨g, 0, rfl, hb.lt, fun i x hx => ?_⟩⟩
  have : i = 0 := by have := (List.getElem?_eq_some_iff.1 hx).1; simp at this; omega
  subst this
  rw [hb.cell]
  simpa using hx
end
theorem info9 : (Tryz.prog.info? 9).map (fun i => (i.zero, i.size, i.bytes)) = some (some (.string ByteArray.empty), 1, 16) := by kernel_rfl
theorem info3 : (Tryz.prog.info? 3).map (fun i => (i.zero, i.size, i.bytes)) = some (some (.int .i64 0), 1, 8) := by kernel_rfl
theorem under23 : Tryz.prog.underlying 22 = some (.slice 9) := by kernel_rfl
theorem under22 : Tryz.prog.underlying 34 = some (.slice 3) := by kernel_rfl
theorem strs_one {l : List ByteArray} : ∀ u ∈ strs l, u.oneCell' = true := by
  intro u hu; simp [strs] at hu; obtain ⟨s, _, rfl⟩ := hu; rfl
theorem ints_one {l : List Int} : ∀ u ∈ ints l, u.oneCell' = true := by
  intro u hu; simp [ints] at hu; obtain ⟨s, _, rfl⟩ := hu; rfl
end Go.Proofs.YtnnkfgekiaaehaaGreat

/- The reference 09: prods, named. -/
namespace Go.Proofs.YtnnkfgekiaaehaaGreat
open Go.ChangeShapes Go.WideShapes Go.ChangeAt Go.RowKit
set_option linter.unusedVariables false
def prIdx (ps : List Pr) (s : Int) (n : Nat) : List Int := ((List.range n).filter fun i => decide ((ps.getD i default).left = s)).map fun i : Nat => (i : Int)
theorem prIdx_succ (ps : List Pr) (s : Int) (n : Nat) : prIdx ps s (n + 1) = if (ps.getD n default).left = s then prIdx ps s n ++ [(n : Int)] else prIdx ps s n := by
  unfold prIdx
  rw [List.range_succ, List.filter_append, List.map_append]
  by_cases h : (ps.getD n default).left = s
  · rw [if_pos h, List.filter_cons, if_pos (decide_eq_true h)]; rfl
  · rw [if_neg h, List.filter_cons, if_neg (by simpa using h)]; simp
theorem prIdx_len (ps : List Pr) (s : Int) (n : Nat) : (prIdx ps s n).length ≤ n := by
  unfold prIdx
  rw [List.length_map]
  exact Nat.le_trans (List.length_filter_le _ _) (by simp)
def RetI (w : World) (l : List Int) (e : Ending) (w' : World) : Prop := ∃ v, e = .returned v ∧ Own1 w' w.heap.size 3 v (ints l) ∧ Below w.heap.size w w'
set_option maxHeartbeats 1000000 in
theorem rprods_any (g : Gr) (a : GA) (s : Int) (w : World) (hg : GrAt w w.heap.size g a) (hp : g.prods.length ≤ 100000) :
    Calls Tryz.prog 51 #[gval g a, .int .i64 s] w (RetI w (prIdx g.prods s g.prods.length)) := by
  obtain ⟨ta, tc, na, nc, pa, pc⟩ := a
  have hP := Lib.hid (fun (v : Value) (w' : World) (h1 : Own1 w' w.heap.size 3 v (ints (prIdx g.prods s g.prods.length))) (h2 : Below w.heap.size w w') => (show RetI w (prIdx g.prods s g.prods.length) (.returned v) w' from ⟨v, rfl, h1, h2⟩))
  have q0 := Blk.new w 25 (gcells g ⟨ta, tc, na, nc, pa, pc⟩)
  have hg0 := hg.below (bAlc (Below.refl w.heap.size w) (.cells (gcells g ⟨ta, tc, na, nc, pa, pc⟩) 25))
  have hb0 := bAlc (Below.refl w.heap.size w) (.cells (gcells g ⟨ta, tc, na, nc, pa, pc⟩) 25)
  clear hg
  unfold gval
  unfold gcells at *
  dsimp only at *
  go_enter Tryz.func51, Tryz.ntmps51
  go_wp2_with fail
  go_loopg [5, 6] g.prods.length (fun gk s5 s6 wr => ∃ i : Nat, s6 = .int .i64 i ∧ i + gk = g.prods.length ∧ Own1 wr w.heap.size 3 s5 (ints (prIdx g.prods s i)) ∧
    Blk wr w.heap.size 25 #[.int .i64 g.k, .slice ta g.toks.length tc, .string g.sep, .slice na g.names.length nc, .int .i64 g.start, .slice pa g.prods.length pc] ∧ GrAt wr w.heap.size g ⟨ta, tc, na, nc, pa, pc⟩ ∧ Below w.heap.size w wr ∧ (∀ k, s5.ownBlock = some k → k ≠ w.heap.size))
  case atStart => exact ⟨0, rfl, by omega, Own1.nil _ _ _, q0, hg0, hb0, by simp [Value.ownBlock]⟩
  case round =>
    clear q0 hg0 hb0
    obtain ⟨i, rfl, hi, ho, q0, hga, hb, hne⟩ := hrel
    replace hi := Lib.hid hi
    have c5 := q0.cell 5
    have hq0 := q0.lt
    simp only [List.getElem?_toArray, List.getElem?_cons_zero, List.getElem?_cons_succ] at c5
    by_cases hin : i < g.prods.length
    · have hxi : g.prods[i]? = some g.prods[i] := List.getElem?_eq_getElem hin
      obtain ⟨b, off, hA, hbt, x0, RA, rc, x1, hx2, hx3, hx4⟩ := hga.prods.get hxi
      dsimp only at hA
      subst hA
      have hsucc := prIdx_succ g.prods s i
      have hgd : g.prods.getD i default = g.prods[i] := by simp [List.getD_eq_getElem?_getD, hxi]
      rw [hgd] at hsucc
      have hlen := prIdx_len g.prods s i
      generalize g.prods[i] = p at *
      replace hxi := Lib.hid hxi
      replace hgd := Lib.hid hgd
      have hzi : (0 : Int) ≤ i := by omega
      have hzn : (i : Int) < g.prods.length := by omega
      by_cases h6 : p.left = s
      · have hsb : (p.left == s) = true := by simp [h6]
        rw [if_pos h6] at hsucc
        replace hsucc := Lib.hid hsucc
        clear h6
        go_wp2_with (at_builtin; refine wpList_join1 _ rfl _ _ 34 rfl w.heap.size 3 _ 8 under22 info3 rfl _ _ rfl (ho.alloc _) _ _ 1 1 [.int .i64 (i : Int)] rfl (rd_blk (Blk.new _ _ _)) (by simp [Value.oneCell']) (by simp only [ints, List.length_map]; omega) (by simp) (by have := hb.size; simp; omega) ?_; intro v' w1 hown1 hg1 hat1 hb1)
        have hb2 : Below w.heap.size wr w1 := hb1 wr ((Below.refl _ _).alloc hb.size _)
        have hne1 : ∀ k, v'.ownBlock = some k → k ≠ w.heap.size := by
          intro k hk
          rcases hat1 with h | h
          · exact hne k (h ▸ hk)
          · rw [h] at hk
            have : k = (wr.alloc (.cells #[.int .i64 (i : Int)] 3)).heap.size := by injection hk with hk; exact hk.symm
            rw [this]; simp; omega
        have q1 : Blk w1 w.heap.size 25 #[.int .i64 g.k, .slice ta g.toks.length tc, .string g.sep, .slice na g.names.length nc, .int .i64 g.start, .slice (some ⟨b, off, none⟩) g.prods.length pc] :=
          (q0.alloc _).grown hg1 (fun e => hne _ e.symm rfl)
        go_roundg (g.prods.length - (i + 1))
        case measure => have := hi.out; omega
        case rel => exact ⟨i + 1, by go_num, by have := hi.out; omega, by rw [hsucc.out, ints, List.map_append]; exact hown1, q1, hga.below hb2, hb1 w (bAlc hb _), hne1⟩
      · have hsb : (p.left == s) = false := by simp [h6]
        rw [if_neg h6] at hsucc
        replace hsucc := Lib.hid hsucc
        clear h6
        go_wp2_with fail
        go_roundg (g.prods.length - (i + 1))
        case measure => have := hi.out; omega
        case rel => exact ⟨i + 1, by go_num, by have := hi.out; omega, by rw [hsucc.out]; exact ho, q0, hga, hb, hne⟩
    · have hii : i = g.prods.length := by have := hi.out; omega
      subst hii
      go_wp2_with fail
      go_ret
      exact hP.out _ _ ho hb
theorem Own1.drew {w : World} {base : Nat} {e : TypeId} {v : Value} {l : List Value} (h : Own1 w base e v l) : Own1 w.drew base e v l := h
theorem Own1.emptyAt (w : World) (base : Nat) (e : TypeId) (g : Nat) (hg : g = w.heap.size) (h : base ≤ w.heap.size) : Own1 (w.alloc (.cells #[] e)) base e (.slice (some ⟨g, 0, none⟩) 0 0) [] := by
  subst hg; exact Own1.empty w base e h
def SN (w w0 : World) (g : Gr) (a : GA) (w' : World) : Prop := Blk w' w.heap.size 25 (gcells g a) ∧ GrAt w' w.heap.size g a ∧ Below w.heap.size w w' ∧ Below w.heap.size w0 w'
theorem SN.drew {w w0 : World} {g : Gr} {a : GA} {w' : World} (h : SN w w0 g a w') : SN w w0 g a w'.drew := ⟨h.1, h.2.1.below (Below.refl _ _).drew, h.2.2.1.drew, h.2.2.2.drew⟩
theorem SN.alloc {w w0 : World} {g : Gr} {a : GA} {w' : World} (h : SN w w0 g a w') (o : Obj) : SN w w0 g a (w'.alloc o) :=
  ⟨h.1.alloc o, h.2.1.below ((Below.refl _ _).alloc h.2.2.1.size o), bAlc h.2.2.1 o, h.2.2.2.alloc h.2.2.1.size o⟩
theorem SN.grown {w w0 : World} {g : Gr} {a : GA} {w' w1 : World} {v : Value} (h : SN w w0 g a w') (hg : w'.grownBy w1 v.ownBlock) (hv : ∀ k, v.ownBlock = some k → w.heap.size < k) : SN w w0 g a w1 := by
  have hr : ∀ k, v.ownBlock = some k → w.heap.size ≤ k := fun k hk => by have := hv k hk; omega
  exact ⟨h.1.grown hg (fun e => by have := hv _ e.symm; omega), h.2.1.below ((Below.refl _ _).grown hg h.2.2.1.size hr), h.2.2.1.grown hg h.2.2.1.size hr, h.2.2.2.grown hg h.2.2.1.size hr⟩
theorem SN.all {w w0 : World} {g : Gr} {a : GA} {w' : World} (h : SN w w0 g a w') : w'.cell? ⟨w.heap.size, 1, none⟩ = some (.slice a.ta g.toks.length a.tc) ∧ w'.cell? ⟨w.heap.size, 2, none⟩ = some (.string g.sep) ∧ SN w w0 g a w' :=
  ⟨h.1.cell 1, h.1.cell 2, h⟩
theorem SN.size {w w0 : World} {g : Gr} {a : GA} {w' : World} (h : SN w w0 g a w') : w.heap.size < w'.heap.size := h.1.lt
set_option maxHeartbeats 1000000 in
theorem rnamed_any (g : Gr) (a : GA) (w : World) (hg : GrAt w w.heap.size g a) (ht : g.toks.length ≤ 100000) (hn : g.names.length ≤ 100000) :
    Calls Tryz.prog 77 #[gval g a] w fun e w' => e = .returned (.int .i64 (if nameB g = false then 12 else if diffB g = false then 8 else 0)) ∧ Below w.heap.size w w' := by
  obtain ⟨ta, tc, na, nc, pa, pc⟩ := a
  obtain ⟨R, hR⟩ : ∃ R : Int, R = if nameB g = false then 12 else if diffB g = false then 8 else 0 := ⟨_, rfl⟩
  rw [← hR]
  replace hR := Lib.hid hR
  have q0 := Blk.new w 25 (gcells g ⟨ta, tc, na, nc, pa, pc⟩)
  have hg0 := hg.below (bAlc (Below.refl w.heap.size w) (.cells (gcells g ⟨ta, tc, na, nc, pa, pc⟩) 25))
  have hb0 := bAlc (Below.refl w.heap.size w) (.cells (gcells g ⟨ta, tc, na, nc, pa, pc⟩) 25)
  clear hg
  unfold gval
  unfold gcells at *
  dsimp only at *
  go_enter Tryz.func77, Tryz.ntmps77
  go_wp2_with fail
  obtain ⟨w0, hw0⟩ : ∃ w0, w0 = w.alloc (.cells #[.int .i64 g.k, .slice ta g.toks.length tc, .string g.sep, .slice na g.names.length nc, .int .i64 g.start, .slice pa g.prods.length pc] 25) := ⟨_, rfl⟩
  have hsz : w.heap.size < w0.heap.size := by rw [hw0]; simp
  rw [← hw0] at q0 hg0 hb0 ⊢
  clear hw0
  have c1 := q0.cell 1
  have c2 := q0.cell 2
  simp only [List.getElem?_toArray, List.getElem?_cons_zero, List.getElem?_cons_succ] at c1 c2
  go_cut [3] (fun s3 wx => Own1 wx w.heap.size 9 s3 (strs (g.toks ++ [g.sep])) ∧ Blk wx w.heap.size 25 #[.int .i64 g.k, .slice ta g.toks.length tc, .string g.sep, .slice na g.names.length nc, .int .i64 g.start, .slice pa g.prods.length pc] ∧ GrAt wx w.heap.size g ⟨ta, tc, na, nc, pa, pc⟩ ∧ Below w.heap.size w wx)
  case first =>
    have hsn : SN w w0 g ⟨ta, tc, na, nc, pa, pc⟩ w0 := ⟨q0, hg0, hb0, Below.refl _ _⟩
    clear q0 hg0 hb0 c1 c2
    have e1 : Own1 (w0.alloc (.cells #[] 9)).drew (w.heap.size + 1) 9 (.slice (some ⟨w0.heap.size, 0, none⟩) 0 0) [] := Own1.emptyAt w0 _ 9 _ rfl (by omega)
    have e2 : Own1 ((w0.alloc (.cells #[] 9)).alloc (.cells #[.string g.sep] 9)).drew (w.heap.size + 1) 9 (.slice (some ⟨w0.heap.size, 0, none⟩) 0 0) [] := (Own1.emptyAt w0 (w.heap.size + 1) 9 _ rfl (by omega)).alloc _
    have e3 : Own1 ((w0.alloc (.cells #[.string g.sep] 9)).alloc (.cells #[] 9)).drew (w.heap.size + 1) 9 (.slice (some ⟨w0.heap.size + 1, 0, none⟩) 0 0) [] := Own1.emptyAt (w0.alloc _) _ 9 _ (by simp) (by simp; omega)
    have n1 : SN w w0 g ⟨ta, tc, na, nc, pa, pc⟩ (w0.alloc (.cells #[] 9)).drew := (hsn.alloc _).drew
    have n2 : SN w w0 g ⟨ta, tc, na, nc, pa, pc⟩ ((w0.alloc (.cells #[] 9)).alloc (.cells #[.string g.sep] 9)).drew := ((hsn.alloc _).alloc _).drew
    have n3 : SN w w0 g ⟨ta, tc, na, nc, pa, pc⟩ ((w0.alloc (.cells #[.string g.sep] 9)).alloc (.cells #[] 9)).drew := ((hsn.alloc _).alloc _).drew
    have d2 : Blk ((w0.alloc (.cells #[] 9)).alloc (.cells #[.string g.sep] 9)).drew (w0.heap.size + 1) 9 #[.string g.sep] := Blk.newAt (w0.alloc _) _ _ _ (by simp)
    have d3 : Blk ((w0.alloc (.cells #[.string g.sep] 9)).alloc (.cells #[] 9)).drew w0.heap.size 9 #[.string g.sep] := (Blk.new w0 9 _).alloc _
    have ne2 : some (w0.heap.size + 1) ≠ some w0.heap.size := by simp
    have ne3 : some w0.heap.size ≠ some (w0.heap.size + 1) := by simp
    have m2 : ∀ k, some w0.heap.size = some k → w.heap.size < k := by intro k hk; injection hk with hk; omega
    have m3 : ∀ k, some (w0.heap.size + 1) = some k → w.heap.size < k := by intro k hk; injection hk with hk; omega
    go_region_held3 (fun w' => w'.cell? ⟨w.heap.size, 1, none⟩ = some (.slice ta g.toks.length tc) ∧ w'.cell? ⟨w.heap.size, 2, none⟩ = some (.string g.sep) ∧ SN w w0 g ⟨ta, tc, na, nc, pa, pc⟩ w')
      ((refine SN.all (a := ⟨ta, tc, na, nc, pa, pc⟩) ?_; repeat (first | assumption | refine SN.drew ?_ | refine SN.alloc ?_ _)))
      (first
        | (refine step_of_wp _ (by rfl) (wp_join1 _ _ _ 22 (by rfl) (w.heap.size + 1) 9 _ 16 under23 info9 (by rfl) v1 (strs g.toks) (by rfl) (by first | exact hown1 | exact hown1.alloc _) _ _ 1 1 [.string g.sep] (by rfl) (by first | exact rd_blk (Blk.new _ _ _) | exact rd_blk (d2.grown hg1 ne2) | exact rd_blk (d3.grown hg1 ne3)) (by simp [Value.oneCell']) (by simp [strs]; omega) (by simp) (by have := hs1.size; simp; omega) ?_); intro v2 w2 hown2 hg2 hat2 hb2
           have hs2 : SN w w0 g ⟨ta, tc, na, nc, pa, pc⟩ w2 := SN.grown (by first | exact hs1 | exact hs1.alloc _) hg2 (fun k hk => (own_in hown1 k hk).1))
        | (refine step_of_wp _ (by rfl) (wp_join1 _ _ _ 22 (by rfl) (w.heap.size + 1) 9 _ 16 under23 info9 (by rfl) _ [] (by rfl) (by first | exact e1 | exact e2 | exact e3) w.heap.size ta g.toks.length tc (strs g.toks) (by rfl) (by first | exact n1.2.1.toks | exact n2.2.1.toks | exact n3.2.1.toks) strs_one (by simp; omega) (by simp) (by simp; omega) ?_); intro v1 w1 hown1 hg1 hat1 hb1; simp only [List.nil_append] at hown1
           have hs1 : SN w w0 g ⟨ta, tc, na, nc, pa, pc⟩ w1 := (by first | exact SN.grown n1 hg1 m2 | exact SN.grown n2 hg1 m2 | exact SN.grown n3 hg1 m3)))
    all_goals
      go_wp2_with fail
      go_meet
      exact ⟨by rw [strs, List.map_append]; exact hown2.mono (by omega), hs2.1, hs2.2.1, hs2.2.2.1⟩
  case rest =>
    clear q0 hg0 hb0 c1 c2 hsz
    obtain ⟨ho, q0, hga, hb⟩ := hcut
    obtain ⟨A, c, rfl, hrd, hc1, hc2, hbl⟩ := ho.reads
    have hsl : (strs (g.toks ++ [g.sep])).length = (g.toks ++ [g.sep]).length := by simp [strs]
    rw [hsl] at hrd hc1
    rw [hsl]
    clear hsl ho
    have hsz : ∀ s ∈ g.toks ++ [g.sep], s.size ≤ maxLen := by
      intro s hs
      rcases List.mem_append.1 hs with h | h
      · exact hga.ts s h
      · simp at h; rw [h]; exact hga.sep
    obtain ⟨L, hL⟩ : ∃ L, L = g.toks ++ [g.sep] := ⟨_, rfl⟩
    have hNB : nameB g = (L.all smallB && g.names.all capB) := by rw [hL]; rfl
    have hDB : diffB g = (decide L.Nodup && decide g.names.Nodup) := by rw [hL]; rfl
    have hLl : L.length ≤ 100001 := by rw [hL]; simp; omega
    rw [← hL] at hrd hc1 hsz ⊢
    clear hL
    replace hNB := Lib.hid hNB
    replace hDB := Lib.hid hDB
    have c3 := q0.cell 3
    simp only [List.getElem?_toArray, List.getElem?_cons_zero, List.getElem?_cons_succ] at c3
    have hcap := Lib.hid (fun (s : ByteArray) (hs : s ∈ g.names) (w : World) => rcap_any s w (hga.ns s hs))
    have hsm := Lib.hid (fun (s : ByteArray) (hs : s ∈ L) (w : World) => rsmall_any s w (hsz s hs))
    go_wp2_with fail
    go_loopg [4] L.length (fun gk s4 wr => ∃ i : Nat, wr = wc ∧ s4 = .int .i64 i ∧ i + gk = L.length ∧ ∀ s ∈ L.take i, smallB s = true)
    case atStart => exact ⟨0, rfl, rfl, by omega, by simp⟩
    case round =>
      obtain ⟨i, rfl, rfl, hi, hP⟩ := hrel
      replace hi := Lib.hid hi
      replace hP := Lib.hid hP
      by_cases hin : i < L.length
      · have hxi : L[i]? = some L[i] := List.getElem?_eq_getElem hin
        obtain ⟨b, off, rfl, hbt, x0⟩ := hrd.get (i := i) (v := .string L[i]) (by simp [strs, hxi])
        have hmem := List.getElem_mem hin
        have htk : L.take (i + 1) = L.take i ++ [L[i]] := List.take_succ_eq_append_getElem hin
        have hsi := Lib.hid (hsm.out L[i] hmem)
        generalize L[i] = x at *
        have hzi : (0 : Int) ≤ i := by omega
        have hzn : (i : Int) < L.length := by omega
        replace hxi := Lib.hid hxi
        replace htk := Lib.hid htk
        replace hmem := Lib.hid hmem
        cases hsb : smallB x with
        | true =>
          have hG := Lib.hid (show ∀ s ∈ L.take (i + 1), smallB s = true by
            intro s hs
            rw [htk.out] at hs
            rcases List.mem_append.1 hs with h | h
            · exact hP.out s h
            · simp at h; rw [h]; exact hsb)
          rw [hsb] at hsi
          replace hsb := Lib.hid hsb
          go_wp2_with (go_at_call 112; refine (hsi.out _).mono ?_; rintro e w' ⟨rfl, rfl⟩)
          go_roundg (L.length - (i + 1))
          case measure => have := hi.out; omega
          case rel => exact ⟨i + 1, rfl, by go_num, by have := hi.out; omega, hG.out⟩
        | false =>
          have hnF : R = 12 := by
            rw [hR.out, if_pos]
            rw [hNB.out, Bool.and_eq_false_iff]
            left
            rw [List.all_eq_false]
            exact ⟨x, hmem.out, by simp [hsb]⟩
          subst hnF
          rw [hsb] at hsi
          replace hsb := Lib.hid hsb
          go_wp2_with (go_at_call 112; refine (hsi.out _).mono ?_; rintro e w' ⟨rfl, rfl⟩)
          go_ret
          exact ⟨rfl, hb⟩
      · have hAll : L.all smallB = true := by
          rw [List.all_eq_true]
          intro s hs
          refine hP.out s ?_
          rwa [List.take_of_length_le (by omega)]
        have hNB2 := hNB.out
        rw [hAll, Bool.true_and] at hNB2
        replace hNB2 := Lib.hid hNB2
        clear hAll hNB
        go_wp2_with fail
        go_loopg [5] g.names.length (fun gk s5 wr2 => ∃ i : Nat, wr2 = wr ∧ s5 = .int .i64 i ∧ i + gk = g.names.length ∧ ∀ s ∈ g.names.take i, capB s = true)
        case atStart => exact ⟨0, rfl, rfl, by omega, by simp⟩
        case round =>
          obtain ⟨i, rfl, rfl, hi, hP⟩ := hrel
          replace hi := Lib.hid hi
          replace hP := Lib.hid hP
          by_cases hin : i < g.names.length
          · have hxi : g.names[i]? = some g.names[i] := List.getElem?_eq_getElem hin
            obtain ⟨b, off, hA, hbt, x0⟩ := hga.names.get (i := i) (v := .string g.names[i]) (by simp [strs, hxi])
            dsimp only at hA
            subst hA
            have hmem := List.getElem_mem hin
            have htk : g.names.take (i + 1) = g.names.take i ++ [g.names[i]] := List.take_succ_eq_append_getElem hin
            have hsi := Lib.hid (hcap.out g.names[i] hmem)
            generalize g.names[i] = x at *
            have hzi : (0 : Int) ≤ i := by omega
            have hzn : (i : Int) < g.names.length := by omega
            replace hxi := Lib.hid hxi
            replace htk := Lib.hid htk
            replace hmem := Lib.hid hmem
            cases hsb : capB x with
            | true =>
              have hG := Lib.hid (show ∀ s ∈ g.names.take (i + 1), capB s = true by
                intro s hs
                rw [htk.out] at hs
                rcases List.mem_append.1 hs with h | h
                · exact hP.out s h
                · simp at h; rw [h]; exact hsb)
              rw [hsb] at hsi
              replace hsb := Lib.hid hsb
              go_wp2_with (go_at_call 113; refine (hsi.out _).mono ?_; rintro e w' ⟨rfl, rfl⟩)
              go_roundg (g.names.length - (i + 1))
              case measure => have := hi.out; omega
              case rel => exact ⟨i + 1, rfl, by go_num, by have := hi.out; omega, hG.out⟩
            | false =>
              have hnF : R = 12 := by
                rw [hR.out, if_pos]
                rw [hNB2.out, List.all_eq_false]
                exact ⟨x, hmem.out, by simp [hsb]⟩
              subst hnF
              rw [hsb] at hsi
              replace hsb := Lib.hid hsb
              go_wp2_with (go_at_call 113; refine (hsi.out _).mono ?_; rintro e w' ⟨rfl, rfl⟩)
              go_ret
              exact ⟨rfl, hb⟩
          · have hAll : g.names.all capB = true := by
              rw [List.all_eq_true]
              intro s hs
              refine hP.out s ?_
              rwa [List.take_of_length_le (by omega)]
            have hR2 : R = if diffB g = false then 8 else 0 := by rw [hR.out, if_neg (by rw [hNB2.out, hAll]; simp)]
            rw [hDB.out] at hR2
            have hcc := bcell (Below.refl wr.heap.size wr)
            have hq0 := q0.lt
            cases hd1 : decide L.Nodup with
            | false =>
              rw [hd1, Bool.false_and, if_pos rfl] at hR2
              subst hR2
              have hT := Lib.hid (fun (w : World) (hrd) => rtwice_any A L.length c L w hrd (by omega))
              rw [hd1] at hT
              replace hd1 := Lib.hid hd1
              go_wp2_with (go_at_call 114; refine (hT.out _ hrd).mono ?_; rintro e w1 ⟨rfl, hb1⟩)
              go_ret
              exact ⟨rfl, bStep hb hb1⟩
            | true =>
              rw [hd1, Bool.true_and] at hR2
              have hT := Lib.hid (fun (w : World) (hrd) => rtwice_any A L.length c L w hrd (by omega))
              have hT2 := Lib.hid (fun (w : World) (hrd) => rtwice_any na g.names.length nc g.names w hrd (by omega))
              rw [hd1] at hT
              replace hd1 := Lib.hid hd1
              cases hd2 : decide g.names.Nodup with
              | false =>
                rw [hd2, if_pos rfl] at hR2
                subst hR2
                rw [hd2] at hT2
                replace hd2 := Lib.hid hd2
                go_wp2_with fail
                refine (hT.out _ hrd).mono ?_
                rintro e w1 ⟨rfl, hb1⟩
                have q1 := (q0.step hb1).cell 3
                have hn1 := (hga.names.below (hb1.mono hb.size)).mono (Nat.le_trans hb.size hb1.size)
                simp only [List.getElem?_toArray, List.getElem?_cons_zero, List.getElem?_cons_succ] at q1
                go_wp2_with fail
                refine (hT2.out _ hn1).mono ?_
                rintro e w2 ⟨rfl, hb2⟩
                go_wp2_with fail
                go_ret
                exact ⟨rfl, bStep (bStep hb hb1) hb2⟩
              | true =>
                rw [hd2, if_neg (by simp)] at hR2
                subst hR2
                rw [hd2] at hT2
                replace hd2 := Lib.hid hd2
                go_wp2_with fail
                refine (hT.out _ hrd).mono ?_
                rintro e w1 ⟨rfl, hb1⟩
                have q1 := (q0.step hb1).cell 3
                have hn1 := (hga.names.below (hb1.mono hb.size)).mono (Nat.le_trans hb.size hb1.size)
                simp only [List.getElem?_toArray, List.getElem?_cons_zero, List.getElem?_cons_succ] at q1
                go_wp2_with fail
                refine (hT2.out _ hn1).mono ?_
                rintro e w2 ⟨rfl, hb2⟩
                go_wp2_with fail
                go_ret
                exact ⟨rfl, bStep (bStep hb hb1) hb2⟩
end Go.Proofs.YtnnkfgekiaaehaaGreat

/- The reference 09: symbols, Check. -/
namespace Go.Proofs.YtnnkfgekiaaehaaGreat
open Go.ChangeShapes Go.WideShapes Go.ChangeAt Go.RowKit
set_option linter.unusedVariables false
def GB (w : World) (g : Gr) (a : GA) (W : World) : Prop := Blk W w.heap.size 25 (gcells g a) ∧ GrAt W w.heap.size g a ∧ Below w.heap.size w W
theorem GB.start {w : World} {g : Gr} {a : GA} (h : GrAt w w.heap.size g a) : GB w g a (w.alloc (.cells (gcells g a) 25)) :=
  ⟨Blk.new w 25 _, h.below (bAlc (Below.refl w.heap.size w) _), bAlc (Below.refl w.heap.size w) _⟩
theorem GB.step {w : World} {g : Gr} {a : GA} {W W1 : World} (h : GB w g a W) (hb : Below W.heap.size W W1) : GB w g a W1 :=
  ⟨h.1.step hb, h.2.1.below (hb.mono h.2.2.size), bStep h.2.2 hb⟩
theorem GB.alloc {w : World} {g : Gr} {a : GA} {W : World} (h : GB w g a W) (o : Obj) : GB w g a (W.alloc o) := h.step ((Below.refl _ _).alloc (Nat.le_refl _) o)
theorem GB.drewN {w : World} {g : Gr} {a : GA} {W : World} (h : GB w g a W) (n : Nat) : GB w g a (W.drewN n) := h.step (bDrwN' W n)
theorem GB.lt {w : World} {g : Gr} {a : GA} {W : World} (h : GB w g a W) : w.heap.size < W.heap.size := h.1.lt
theorem GB.far {w : World} {g : Gr} {a : GA} {W : World} (h : GB w g a W) (p : Addr) (v : Value) (hp : w.heap.size < p.block) : GB w g a (W.setCell p v) :=
  ⟨h.1.far (by omega) v, h.2.1.below ((Below.refl _ _).setCell (by omega) v), bSet h.2.2 p v (by omega)⟩
theorem GB.cells {w : World} {g : Gr} {a : GA} {W : World} (h : GB w g a W) : W.cell? ⟨w.heap.size, 0, none⟩ = some (.int .i64 g.k) ∧ W.cell? ⟨w.heap.size, 1, none⟩ = some (.slice a.ta g.toks.length a.tc) ∧ W.cell? ⟨w.heap.size, 2, none⟩ = some (.string g.sep) ∧
    W.cell? ⟨w.heap.size, 3, none⟩ = some (.slice a.na g.names.length a.nc) ∧ W.cell? ⟨w.heap.size, 4, none⟩ = some (.int .i64 g.start) ∧ W.cell? ⟨w.heap.size, 5, none⟩ = some (.slice a.pa g.prods.length a.pc) :=
  ⟨h.1.cell 0, h.1.cell 1, h.1.cell 2, h.1.cell 3, h.1.cell 4, h.1.cell 5⟩
def syB (g : Gr) (s : Int) : Bool := tmB g s || ntB g s
def prB (g : Gr) (p : Pr) : Bool := ntB g p.left && p.right.all (syB g)
def syTo (g : Gr) (i : Nat) : Bool := ntB g g.start && (g.prods.take i).all (prB g)
theorem syTo_all (g : Gr) : syTo g g.prods.length = symB g := by
  unfold syTo symB
  rw [List.take_of_length_le (Nat.le_refl _)]
  rfl
theorem prIdx_none (ps : List Pr) (s : Int) : (prIdx ps s ps.length).length = 0 ↔ ps.any (fun p => decide (p.left = s)) = false := by
  rw [List.length_eq_zero_iff, List.any_eq_false]
  unfold prIdx
  rw [List.map_eq_nil_iff, List.filter_eq_nil_iff]
  constructor
  · intro h p hp
    obtain ⟨i, hi, rfl⟩ := List.mem_iff_getElem.1 hp
    have := h i (List.mem_range.2 hi)
    simpa [List.getD_eq_getElem?_getD, List.getElem?_eq_getElem hi] using this
  · intro h i hi
    have hi := List.mem_range.1 hi
    have := h ps[i] (List.getElem_mem hi)
    simpa [List.getD_eq_getElem?_getD, List.getElem?_eq_getElem hi] using this
theorem ord_iff (g : Gr) : ordB g = true ↔ ∀ (j : Nat) (p q : Pr), g.prods[j]? = some p → g.prods[j + 1]? = some q → p.left ≤ q.left := by
  unfold ordB
  rw [List.all_eq_true]
  constructor
  · intro h j p q hp hq
    have hlt := (List.getElem?_eq_some_iff.1 hq).1
    have := h (j + 1) (List.mem_range.2 hlt)
    simpa [List.getD_eq_getElem?_getD, hp, hq] using this
  · intro h i hi
    have hi := List.mem_range.1 hi
    cases i with
    | zero => simp
    | succ j =>
      have hp : g.prods[j]? = some g.prods[j] := List.getElem?_eq_getElem (by omega)
      have hq : g.prods[j + 1]? = some g.prods[j + 1] := List.getElem?_eq_getElem hi
      have := h j _ _ hp hq
      simpa [List.getD_eq_getElem?_getD, hp, hq] using this
set_option maxHeartbeats 2000000 in
theorem rsymbols_any (g : Gr) (a : GA) (w : World) (hg : GrAt w w.heap.size g a) (ht : g.toks.length ≤ 100000) (hn : g.names.length ≤ 100000) (hp : g.prods.length ≤ 100000) (hr : ∀ p ∈ g.prods, p.right.length ≤ 1000000) :
    Calls Tryz.prog 78 #[gval g a] w fun e w' => e = .returned (.int .i64 (if symB g = false then 14 else if ordB g = false then 9 else if compB g = false then 7 else 0)) ∧ Below w.heap.size w w' := by
  obtain ⟨ta, tc, na, nc, pa, pc⟩ := a
  obtain ⟨R, hR⟩ : ∃ R : Int, R = if symB g = false then 14 else if ordB g = false then 9 else if compB g = false then 7 else 0 := ⟨_, rfl⟩
  rw [← hR]
  replace hR := Lib.hid hR
  have hG0 := GB.start hg
  clear hg
  have hT := Lib.hid (fun s w => rterminal_any g ⟨ta, tc, na, nc, pa, pc⟩ s w (by omega))
  have hN := Lib.hid (fun s w => rnonterm_any g ⟨ta, tc, na, nc, pa, pc⟩ s w (by omega))
  unfold gval at *
  unfold gcells at hT hN hG0 ⊢
  dsimp only at *
  go_enter Tryz.func78, Tryz.ntmps78
  go_wp2_with fail
  refine (hN.out _ _).mono ?_
  rintro e w1 ⟨rfl, hb1⟩
  have hG := hG0.step hb1
  clear hG0 hb1
  have hs0 : ntB g g.start = syTo g 0 := by simp [syTo]
  rw [hs0]
  replace hs0 := Lib.hid hs0
  go_wp2_with fail
  go_loopg [3, 4] g.prods.length (fun gk s3 s4 wr => ∃ i : Nat, s3 = .bool (syTo g i) ∧ s4 = .int .i64 i ∧ i + gk = g.prods.length ∧ GB w g ⟨ta, tc, na, nc, pa, pc⟩ wr)
  case atStart => exact ⟨0, rfl, rfl, by omega, hG⟩
  case round =>
    clear hG
    obtain ⟨i, rfl, rfl, hi, hG⟩ := hrel
    replace hi := Lib.hid hi
    obtain ⟨c0, c1, c2, c3, c4, c5⟩ := hG.cells
    dsimp only at c1 c3 c5
    by_cases hin : i < g.prods.length
    · have hxi : g.prods[i]? = some g.prods[i] := List.getElem?_eq_getElem hin
      obtain ⟨b, off, hA, hbt, x0, RA, rc, x1, hx2, hx3, hx4⟩ := hG.2.1.prods.get hxi
      dsimp only at hA
      subst hA
      have hmem := List.getElem_mem hin
      have hrl := hr _ hmem
      have htk : g.prods.take (i + 1) = g.prods.take i ++ [g.prods[i]] := List.take_succ_eq_append_getElem hin
      have hsucc : syTo g (i + 1) = (syTo g i && prB g g.prods[i]) := by unfold syTo; rw [htk, List.all_append, List.all_cons, List.all_nil, Bool.and_true, Bool.and_assoc]
      clear htk
      generalize g.prods[i] = p at *
      replace hxi := Lib.hid hxi
      replace hsucc := Lib.hid hsucc
      replace hmem := Lib.hid hmem
      have hzi : (0 : Int) ≤ i := by omega
      have hzn : (i : Int) < g.prods.length := by omega
      generalize syTo g i = ok at *
      go_upto_region 6 with (fail)
      have hG1 := hG.alloc (.cells #[.int .i64 p.left, .slice RA p.right.length rc] 47)
      have hP1 := Blk.new wr 47 #[.int .i64 p.left, .slice RA p.right.length rc]
      have hwlt := hG.lt
      have hRr : ∀ W, Below w.heap.size wr W → Rd1 W w.heap.size RA p.right.length (ints p.right) := fun W h => hx2.below h
      have hbW : Below w.heap.size wr (wr.alloc (.cells #[.int .i64 p.left, .slice RA p.right.length rc] 47)) := (Below.refl _ _).alloc hG.2.2.size _
      obtain ⟨wq, hwq⟩ : ∃ wq, wq = wr.alloc (.cells #[.int .i64 p.left, .slice RA p.right.length rc] 47) := ⟨_, rfl⟩
      rw [← hwq] at hG1 hP1 hbW ⊢
      replace hRr := Lib.hid hRr
      have hlt2 : wr.heap.size < wq.heap.size := by rw [hwq]; simp
      clear hwq
      clear c0 c1 c2 c3 c4 c5 x0 x1 hx2 hG
      obtain ⟨c0, c1, c2, c3, c4, c5⟩ := hG1.cells
      dsimp only at c1 c3 c5
      have p0 := hP1.cell 0
      have p1 := hP1.cell 1
      simp only [List.getElem?_toArray, List.getElem?_cons_zero, List.getElem?_cons_succ] at p0 p1
      go_cut [3] (fun s3 wx => s3 = .bool (ok && ntB g p.left) ∧ GB w g ⟨ta, tc, na, nc, some ⟨b, off, none⟩, pc⟩ wx ∧ Blk wx wr.heap.size 47 #[.int .i64 p.left, .slice RA p.right.length rc] ∧ Below w.heap.size wr wx ∧ wr.heap.size < wx.heap.size)
      case first =>
        cases ok with
        | false =>
          go_wp2_with fail
          go_meet
          exact ⟨rfl, hG1, hP1, hbW, hlt2⟩
        | true =>
          go_wp2_with fail
          refine (hN.out _ _).mono ?_
          rintro e w2 ⟨rfl, hb2⟩
          go_wp2_with fail
          go_meet
          exact ⟨rfl, hG1.step hb2, hP1.step hb2, hbW.trans (hb2.mono hG1.2.2.size), Nat.lt_of_lt_of_le hlt2 hb2.size⟩
      case rest =>
        clear hG1 hP1 hbW hlt2 c0 c1 c2 c3 c4 c5 p0 p1
        obtain ⟨rfl, hG, hP1, hbW, hlt2⟩ := hcut
        generalize hcc : (ok && ntB g p.left) = c
        replace hcc := Lib.hid hcc
        go_wp2_with fail
        go_loopg [3, 6] p.right.length (fun gk s3 s6 wx => ∃ k : Nat, s3 = .bool (c && (p.right.take k).all (syB g)) ∧ s6 = .int .i64 k ∧ k + gk = p.right.length ∧ GB w g ⟨ta, tc, na, nc, some ⟨b, off, none⟩, pc⟩ wx ∧ Blk wx wr.heap.size 47 #[.int .i64 p.left, .slice RA p.right.length rc] ∧ Below w.heap.size wr wx)
        case atStart => exact ⟨0, by simp, rfl, by omega, hG, hP1, hbW⟩
        case round =>
          clear hG hP1 hbW hlt2
          obtain ⟨k, rfl, rfl, hk, hG, hP1, hbW⟩ := hrel
          replace hk := Lib.hid hk
          obtain ⟨c0, c1, c2, c3, c4, c5⟩ := hG.cells
          dsimp only at c1 c3 c5
          have p0 := hP1.cell 0
          have p1 := hP1.cell 1
          simp only [List.getElem?_toArray, List.getElem?_cons_zero, List.getElem?_cons_succ] at p0 p1
          by_cases hkn : k < p.right.length
          · have hsk : p.right[k]? = some p.right[k] := List.getElem?_eq_getElem hkn
            obtain ⟨b2, off2, rfl, hbt2, y0⟩ := (hRr.out _ hbW).get (i := k) (v := .int .i64 p.right[k]) (by simp [ints, hsk])
            have htk : p.right.take (k + 1) = p.right.take k ++ [p.right[k]] := List.take_succ_eq_append_getElem hkn
            have hsucc2 : (c && (p.right.take (k + 1)).all (syB g)) = ((c && (p.right.take k).all (syB g)) && syB g p.right[k]) := by rw [htk, List.all_append, List.all_cons, List.all_nil, Bool.and_true, Bool.and_assoc]
            clear htk
            generalize p.right[k] = s at *
            replace hsk := Lib.hid hsk
            replace hsucc2 := Lib.hid hsucc2
            have hzk : (0 : Int) ≤ k := by omega
            have hzkn : (k : Int) < p.right.length := by omega
            generalize hd : (c && (p.right.take k).all (syB g)) = d
            replace hd := Lib.hid hd
            have z0 := cell_kept c0
            have z1 := cell_kept c1
            have z2 := cell_kept c2
            have z3 := cell_kept c3
            have z4 := cell_kept c4
            have z5 := cell_kept c5
            have zp := cell_kept p1
            have zy := cell_kept y0
            cases d with
            | false =>
              go_wp2_with fail
              refine wp_region_kept (by kernel_rfl) (by kernel_rfl) ?_
              repeat (go_big_quiet_step (fail))
              refine wpQuiet_nil ?_
              rintro _ ⟨q, rfl⟩
              have hqk := q.kept
              generalize q.world = w2 at hqk
              clear z0 z1 z2 z3 z4 z5 zp zy
              go_wp2_with fail
              go_roundg (p.right.length - (k + 1))
              case measure => have := hk.out; omega
              case rel => exact ⟨k + 1, by rw [hsucc2.out, hd.out]; rfl, by go_num, by have := hk.out; omega, hG.step hqk, hP1.step hqk, hbW.trans (hqk.mono hG.2.2.size)⟩
            | true =>
              cases ht1 : tmB g s with
              | true =>
                have hT2 := Lib.hid (hT.out s)
                rw [ht1] at hT2
                have hsy : syB g s = true := by unfold syB; rw [ht1]; rfl
                replace ht1 := Lib.hid ht1
                go_wp2_with fail
                refine wp_region_kept (by kernel_rfl) (by kernel_rfl) ?_
                repeat (go_big_quiet_step ((go_at_call 115; exact Calls.kept_by (hT2.out _))))
                refine wpQuiet_nil ?_
                rintro _ ⟨q, rfl⟩
                have hqk := q.kept
                generalize q.world = w2 at hqk
                clear z0 z1 z2 z3 z4 z5 zp zy
                go_wp2_with fail
                go_roundg (p.right.length - (k + 1))
                case measure => have := hk.out; omega
                case rel => exact ⟨k + 1, by rw [hsucc2.out, hd.out, hsy]; rfl, by go_num, by have := hk.out; omega, hG.step hqk, hP1.step hqk, hbW.trans (hqk.mono hG.2.2.size)⟩
              | false =>
                have hT2 := Lib.hid (hT.out s)
                have hN2 := Lib.hid (hN.out s)
                rw [ht1] at hT2
                have hsy : syB g s = ntB g s := by unfold syB; rw [ht1]; rfl
                replace ht1 := Lib.hid ht1
                generalize hnn : ntB g s = nn at *
                replace hnn := Lib.hid hnn
                go_wp2_with fail
                refine wp_region_kept (by kernel_rfl) (by kernel_rfl) ?_
                repeat (go_big_quiet_step ((first | (go_at_call 115; exact Calls.kept_by (hT2.out _)) | (go_at_call 98; exact Calls.kept_by (hN2.out _)))))
                refine wpQuiet_nil ?_
                rintro _ ⟨q, rfl⟩
                have hqk := q.kept
                generalize q.world = w2 at hqk
                clear z0 z1 z2 z3 z4 z5 zp zy
                go_wp2_with fail
                go_roundg (p.right.length - (k + 1))
                case measure => have := hk.out; omega
                case rel => exact ⟨k + 1, by rw [hsucc2.out, hd.out, hsy]; rfl, by go_num, by have := hk.out; omega, hG.step hqk, hP1.step hqk, hbW.trans (hqk.mono hG.2.2.size)⟩
          · have hall : (p.right.take k).all (syB g) = p.right.all (syB g) := by rw [List.take_of_length_le (by omega)]
            go_wp2_with fail
            go_roundg (g.prods.length - (i + 1))
            case measure => have := hi.out; omega
            case rel => exact ⟨i + 1, by rw [hsucc.out, hall, ← hcc.out]; simp [prB, Bool.and_assoc], by go_num, by have := hi.out; omega, hG⟩
    · have hall : syTo g i = symB g := by rw [← syTo_all, show i = g.prods.length by have := hi.out; omega]
      cases hsy : symB g with
      | false =>
        have hR1 : R = 14 := by rw [hR.out, if_pos hsy]
        subst hR1
        rw [hall, hsy]
        go_wp2_with fail
        go_ret
        exact ⟨rfl, hG.2.2⟩
      | true =>
        have hR1 : R = if ordB g = false then 9 else if compB g = false then 7 else 0 := by rw [hR.out, if_neg (by rw [hsy]; simp)]
        have hO := Lib.hid (ord_iff g)
        generalize ordB g = ob at hO hR1
        generalize hcb : compB g = cb at hR1
        replace hcb := Lib.hid hcb
        rw [hall, hsy]
        replace hR1 := Lib.hid hR1
        clear hall
        replace hsy := Lib.hid hsy
        go_wp2_with fail
        go_loopg [7] g.prods.length (fun gk s7 wx => ∃ j : Nat, s7 = .int .i64 (j + 1 : Nat) ∧ (j + gk = g.prods.length) ∧ GB w g ⟨ta, tc, na, nc, pa, pc⟩ wx ∧ ∀ (k : Nat) (p q : Pr), k < j → g.prods[k]? = some p → g.prods[k + 1]? = some q → p.left ≤ q.left)
        case atStart => exact ⟨0, rfl, by omega, hG, by intro k p q h; omega⟩
        case round =>
          clear hG c0 c1 c2 c3 c4 c5
          obtain ⟨j, rfl, hj, hG, hP⟩ := hrel
          replace hj := Lib.hid hj
          replace hP := Lib.hid hP
          obtain ⟨c0, c1, c2, c3, c4, c5⟩ := hG.cells
          dsimp only at c1 c3 c5
          by_cases hjn : j + 1 < g.prods.length
          · have hxj : g.prods[j]? = some g.prods[j] := List.getElem?_eq_getElem (by omega)
            have hxi : g.prods[j + 1]? = some g.prods[j + 1] := List.getElem?_eq_getElem hjn
            obtain ⟨b, off, hA, hbt, x0, RA, rc, x1, hx2, hx3, hx4⟩ := hG.2.1.prods.get hxi
            dsimp only at hA
            subst hA
            obtain ⟨b', off', hA', hbt', y0, RA', rc', y1, hy2, hy3, hy4⟩ := hG.2.1.prods.get hxj
            cases hA'
            generalize g.prods[j] = p at *
            generalize g.prods[j + 1] = q at *
            replace hxi := Lib.hid hxi
            replace hxj := Lib.hid hxj
            have zI : ((j + 1 : Nat) : Int) - 1 = (j : Int) := by omega
            have zw : IntKind.i64.wrap (j : Int) = j := IntWalk.i64_in _ (by omega)
            have z2 : (0 : Int) ≤ j := by omega
            have z3 : ((j + 1 : Nat) : Int) < g.prods.length := by omega
            have z5 : (j : Int) < g.prods.length := by omega
            by_cases hle : q.left < p.left
            · have hoF : ob = false := by
                cases ob
                · rfl
                · have := hO.out.1 rfl j p q hxj.out hxi.out; omega
              subst hoF
              have hR2 := hR1.out
              rw [if_pos rfl] at hR2
              subst hR2
              go_wp2_with fail
              go_quiet (fail)
              go_wp2_with fail
              go_ret
              exact ⟨rfl, bDrwN hG.2.2 _⟩
            · have hGG := Lib.hid (show ∀ (k : Nat) (p q : Pr), k < j + 1 → g.prods[k]? = some p → g.prods[k + 1]? = some q → p.left ≤ q.left by
                intro k p' q' hk hp' hq'
                by_cases e : k = j
                · subst e
                  rw [hxj.out] at hp'; rw [hxi.out] at hq'
                  cases hp'; cases hq'; omega
                · exact hP.out k p' q' (by omega) hp' hq')
              go_wp2_with fail
              go_quiet (fail)
              go_wp2_with fail
              go_roundg (g.prods.length - (j + 1))
              case measure => have := hj.out; omega
              case rel => exact ⟨j + 1, by go_num, by have := hj.out; omega, hG.drewN _, hGG.out⟩
          · have hoT : ob = true := by
              rw [hO.out]
              intro k p q hp' hq'
              have := (List.getElem?_eq_some_iff.1 hq').1
              exact hP.out k p q (by omega) hp' hq'
            subst hoT
            have hR2 := hR1.out
            rw [if_neg (by simp)] at hR2
            replace hR2 := Lib.hid hR2
            go_wp2_with fail
            go_loopg [8] g.names.length (fun gk s8 wx => ∃ k : Nat, s8 = .int .i64 k ∧ (k + gk = g.names.length) ∧ GB w g ⟨ta, tc, na, nc, pa, pc⟩ wx ∧ ∀ i : Nat, i < k → g.prods.any (fun p => decide (p.left = 16 + (i : Int))) = true)
            case atStart => exact ⟨0, rfl, by omega, hG, by intro i h; omega⟩
            case round =>
              clear hG c0 c1 c2 c3 c4 c5
              obtain ⟨k, rfl, hk, hG, hK⟩ := hrel
              replace hk := Lib.hid hk
              replace hK := Lib.hid hK
              obtain ⟨c0, c1, c2, c3, c4, c5⟩ := hG.cells
              dsimp only at c1 c3 c5
              by_cases hkn : k < g.names.length
              · have hPr := Lib.hid (fun (w : World) (hg : GrAt w w.heap.size g ⟨ta, tc, na, nc, pa, pc⟩) => rprods_any g ⟨ta, tc, na, nc, pa, pc⟩ (16 + (k : Int)) w hg hp)
                unfold gval at hPr
                unfold gcells at hPr
                dsimp only at hPr
                have hnone := Lib.hid (prIdx_none g.prods (16 + (k : Int)))
                have hcb2 := Lib.hid (show g.prods.any (fun p => decide (p.left = 16 + (k : Int))) = false → cb = false from fun h => by
                  rw [← hcb.out]
                  unfold compB
                  rw [List.all_eq_false]
                  exact ⟨k, List.mem_range.2 hkn, by rw [h]; simp⟩)
                have zw : IntKind.i64.wrap (16 + (k : Int)) = 16 + (k : Int) := IntWalk.i64_in _ (by omega)
                go_wp2_with fail
                refine (hPr.out _ (hG.2.1.mono hG.2.2.size)).mono ?_
                rintro e w2 ⟨v, rfl, ho, hb2⟩
                obtain ⟨A, c, rfl, hd1, hk1, hm1, hg1⟩ := ho.reads
                have hil : (ints (prIdx g.prods (16 + (k : Int)) g.prods.length)).length = (prIdx g.prods (16 + (k : Int)) g.prods.length).length := by simp [ints]
                rw [hil]
                clear ho hd1 hk1 hil
                generalize (prIdx g.prods (16 + (k : Int)) g.prods.length).length = m at *
                by_cases hm : m = 0
                · have hcF : cb = false := hcb2.out (hnone.out.1 hm)
                  have hR3 : R = 7 := by rw [hR2.out, if_pos hcF]
                  subst hR3
                  have hmb : ((m : Int) == 0) = true := by simp [hm]
                  clear hm
                  go_wp2_with fail
                  go_ret
                  exact ⟨rfl, bStep hG.2.2 hb2⟩
                · have hmb : ((m : Int) == 0) = false := by simp [hm]
                  have hKK := Lib.hid (show ∀ i : Nat, i < k + 1 → g.prods.any (fun p => decide (p.left = 16 + (i : Int))) = true by
                    intro i hi
                    by_cases e : i = k
                    · subst e
                      cases hany : g.prods.any (fun p => decide (p.left = 16 + (i : Int)))
                      · exact absurd (hnone.out.2 hany) hm
                      · rfl
                    · exact hK.out i (by omega))
                  clear hm
                  go_wp2_with fail
                  go_roundg (g.names.length - (k + 1))
                  case measure => have := hk.out; omega
                  case rel => exact ⟨k + 1, by go_num, by have := hk.out; omega, hG.step hb2, hKK.out⟩
              · have hcT : cb = true := by
                  rw [← hcb.out]
                  unfold compB
                  rw [List.all_eq_true]
                  intro i hi
                  exact hK.out i (by have := List.mem_range.1 hi; omega)
                have hR3 : R = 0 := by rw [hR2.out, if_neg (by rw [hcT]; simp)]
                subst hR3
                go_wp2_with fail
                go_ret
                exact ⟨rfl, hG.2.2⟩
end Go.Proofs.YtnnkfgekiaaehaaGreat

/- The reference 09: Check. -/
namespace Go.Proofs.YtnnkfgekiaaehaaGreat
open Go.ChangeShapes Go.WideShapes Go.ChangeAt Go.RowKit
set_option linter.unusedVariables false
structure Small (g : Gr) : Prop where
  t : g.toks.length ≤ 100000
  n : g.names.length ≤ 100000
  p : g.prods.length ≤ 100000
  r : ∀ p ∈ g.prods, p.right.length ≤ 1000000
theorem gchk_1 {g : Gr} (h : g.k < 1 ∨ 4 < g.k) : gchk g = 2 := by unfold gchk; rw [if_pos h]
theorem gchk_2 {g : Gr} (h : ¬ (g.k < 1 ∨ 4 < g.k)) (h2 : fullB g = false) : gchk g = 6 := by unfold gchk; rw [if_neg h, if_pos h2]
theorem gchk_3 {g : Gr} (h : ¬ (g.k < 1 ∨ 4 < g.k)) (h2 : fullB g = true) (h3 : shortB g = true) : gchk g = 5 := by unfold gchk; rw [if_neg h, if_neg (by simp [h2]), if_pos h3]
theorem gchk_4 {g : Gr} (h : ¬ (g.k < 1 ∨ 4 < g.k)) (h2 : fullB g = true) (h3 : shortB g = false) (h4 : nameB g = false) : gchk g = 12 := by unfold gchk; rw [if_neg h, if_neg (by simp [h2]), if_neg (by simp [h3]), if_pos h4]
theorem gchk_5 {g : Gr} (h : ¬ (g.k < 1 ∨ 4 < g.k)) (h2 : fullB g = true) (h3 : shortB g = false) (h4 : nameB g = true) (h5 : diffB g = false) : gchk g = 8 := by
  unfold gchk; rw [if_neg h, if_neg (by simp [h2]), if_neg (by simp [h3]), if_neg (by simp [h4]), if_pos h5]
theorem gchk_6 {g : Gr} (h : ¬ (g.k < 1 ∨ 4 < g.k)) (h2 : fullB g = true) (h3 : shortB g = false) (h4 : nameB g = true) (h5 : diffB g = true) :
    gchk g = if symB g = false then 14 else if ordB g = false then 9 else if compB g = false then 7 else 0 := by
  unfold gchk; rw [if_neg h, if_neg (by simp [h2]), if_neg (by simp [h3]), if_neg (by simp [h4]), if_neg (by simp [h5])]
set_option maxHeartbeats 2000000 in
theorem rcheckg_any (g : Gr) (a : GA) (w : World) (hg : GrAt w w.heap.size g a) (hs : Small g) : Calls Tryz.prog 39 #[gval g a] w fun e w' => e = .returned (.int .i64 (gchk g)) ∧ Below w.heap.size w w' := by
  obtain ⟨ta, tc, na, nc, pa, pc⟩ := a
  obtain ⟨R, hR⟩ : ∃ R : Int, R = gchk g := ⟨_, rfl⟩
  rw [← hR]
  replace hR := Lib.hid hR
  have hs1 := hs.t
  have hs2 := hs.n
  have hs3 := hs.p
  have hs4 := Lib.hid hs.r
  clear hs
  have hF := Lib.hid (fun w h => rfull_any g ⟨ta, tc, na, nc, pa, pc⟩ w h (by omega) (by omega) (by omega) hs4.out)
  have hN := Lib.hid (fun w h => rnamed_any g ⟨ta, tc, na, nc, pa, pc⟩ w h hs1 hs2)
  have hY := Lib.hid (fun w h => rsymbols_any g ⟨ta, tc, na, nc, pa, pc⟩ w h hs1 hs2 hs3 hs4.out)
  have hG0 := GB.start hg
  clear hg
  unfold gval at *
  unfold gcells at hF hN hY hG0 ⊢
  dsimp only at *
  by_cases k1 : g.k < 1
  · have hR1 : R = 2 := hR.out.trans (gchk_1 (.inl k1))
    subst hR1
    go_enter Tryz.func39, Tryz.ntmps39
    go_wp2_with fail
    go_ret
    exact ⟨rfl, hG0.2.2⟩
  by_cases k2 : 4 < g.k
  · have hR1 : R = 2 := hR.out.trans (gchk_1 (.inr k2))
    subst hR1
    go_enter Tryz.func39, Tryz.ntmps39
    go_wp2_with fail
    go_ret
    exact ⟨rfl, hG0.2.2⟩
  have hk : ¬ (g.k < 1 ∨ 4 < g.k) := by omega
  replace hk := Lib.hid hk
  cases hf : fullB g with
  | false =>
    have hR1 : R = 6 := hR.out.trans (gchk_2 hk.out hf)
    subst hR1
    rw [hf] at hF
    replace hf := Lib.hid hf
    go_enter Tryz.func39, Tryz.ntmps39
    go_wp2_with fail
    refine (hF.out _ (hG0.2.1.mono hG0.2.2.size)).mono ?_
    rintro e w1 ⟨rfl, hb1⟩
    have hG := hG0.step hb1
    clear hG0 hb1
    rw [if_pos trivial]
    go_wp2_with fail
    go_ret
    exact ⟨rfl, hG.2.2⟩
  | true =>
    rw [hf] at hF
    cases hsh : shortB g with
    | true =>
      have hR1 : R = 5 := hR.out.trans (gchk_3 hk.out hf hsh)
      subst hR1
      replace hf := Lib.hid hf
      simp only [shortB, Bool.or_eq_true, decide_eq_true_eq] at hsh
      by_cases hs0 : g.toks.length = 0
      · have hsb : ((g.toks.length : Int) == 0) = true := by simp [hs0]
        clear hsh hs0
        go_enter Tryz.func39, Tryz.ntmps39
        go_wp2_with fail
        refine (hF.out _ (hG0.2.1.mono hG0.2.2.size)).mono ?_
        rintro e w1 ⟨rfl, hb1⟩
        have hG := hG0.step hb1
        clear hG0 hb1
        rw [if_neg (by simp)]
        obtain ⟨c0, c1, c2, c3, c4, c5⟩ := hG.cells
        dsimp only at c1 c3 c5
        go_wp2_with fail
        go_ret
        exact ⟨rfl, hG.2.2⟩
      · have hsb : ((g.toks.length : Int) == 0) = false := by simp [hs0]
        have hsc : ((g.names.length : Int) == 0) = true := by rcases hsh with h | h; · exact absurd h hs0
                                                              · simp [h]
        clear hsh hs0
        go_enter Tryz.func39, Tryz.ntmps39
        go_wp2_with fail
        refine (hF.out _ (hG0.2.1.mono hG0.2.2.size)).mono ?_
        rintro e w1 ⟨rfl, hb1⟩
        have hG := hG0.step hb1
        clear hG0 hb1
        rw [if_neg (by simp)]
        obtain ⟨c0, c1, c2, c3, c4, c5⟩ := hG.cells
        dsimp only at c1 c3 c5
        go_wp2_with fail
        go_ret
        exact ⟨rfl, hG.2.2⟩
    | false =>
      have hsh' := hsh
      simp only [shortB, Bool.or_eq_false_iff, decide_eq_false_iff_not] at hsh'
      have hsb : ((g.toks.length : Int) == 0) = false := by simpa using hsh'.1
      have hsc : ((g.names.length : Int) == 0) = false := by simpa using hsh'.2
      clear hsh'
      obtain ⟨E1, hE1⟩ : ∃ E : Int, E = if nameB g = false then 12 else if diffB g = false then 8 else 0 := ⟨_, rfl⟩
      rw [← hE1] at hN
      by_cases h0 : E1 = 0
      · have hn : nameB g = true := by
          cases h : nameB g
          · rw [h, if_pos rfl] at hE1; omega
          · rfl
        have hd : diffB g = true := by
          cases h : diffB g
          · rw [hn, h, if_neg (by simp), if_pos rfl] at hE1; omega
          · rfl
        have hR1 := hR.out.trans (gchk_6 hk.out hf hsh hn hd)
        rw [← hR1] at hY
        replace hf := Lib.hid hf
        replace hsh := Lib.hid hsh
        replace hn := Lib.hid hn
        replace hd := Lib.hid hd
        replace hR1 := Lib.hid hR1
        clear hE1
        subst h0
        go_enter Tryz.func39, Tryz.ntmps39
        go_wp2_with fail
        refine (hF.out _ (hG0.2.1.mono hG0.2.2.size)).mono ?_
        rintro e w1 ⟨rfl, hb1⟩
        have hG := hG0.step hb1
        clear hG0 hb1
        rw [if_neg (by simp)]
        obtain ⟨c0, c1, c2, c3, c4, c5⟩ := hG.cells
        dsimp only at c1 c3 c5
        go_wp2_with fail
        refine (hN.out _ (hG.2.1.mono hG.2.2.size)).mono ?_
        rintro e w2 ⟨rfl, hb2⟩
        have hG2 := hG.step hb2
        clear c0 c1 c2 c3 c4 c5 hG hb2
        obtain ⟨c0, c1, c2, c3, c4, c5⟩ := hG2.cells
        dsimp only at c1 c3 c5
        go_wp2_with fail
        refine (hY.out _ (hG2.2.1.mono hG2.2.2.size)).mono ?_
        rintro e w3 ⟨rfl, hb3⟩
        go_wp2_with fail
        go_ret
        exact ⟨rfl, bStep hG2.2.2 hb3⟩
      · have hR1 : R = E1 := by
          rw [hR.out, hE1]
          cases hn : nameB g
          · rw [gchk_4 hk.out hf hsh hn]; rfl
          · cases hd : diffB g
            · rw [gchk_5 hk.out hf hsh hn hd]; rfl
            · rw [hn, hd] at hE1; simp at hE1; exact absurd hE1 h0
        subst hR1
        have h0b : (R == 0) = false := by simp [h0]
        clear h0
        replace hf := Lib.hid hf
        replace hsh := Lib.hid hsh
        replace hE1 := Lib.hid hE1
        go_enter Tryz.func39, Tryz.ntmps39
        go_wp2_with fail
        refine (hF.out _ (hG0.2.1.mono hG0.2.2.size)).mono ?_
        rintro e w1 ⟨rfl, hb1⟩
        have hG := hG0.step hb1
        clear hG0 hb1
        rw [if_neg (by simp)]
        obtain ⟨c0, c1, c2, c3, c4, c5⟩ := hG.cells
        dsimp only at c1 c3 c5
        go_wp2_with fail
        refine (hN.out _ (hG.2.1.mono hG.2.2.size)).mono ?_
        rintro e w2 ⟨rfl, hb2⟩
        go_wp2_with fail
        go_ret
        exact ⟨rfl, bStep hG.2.2 hb2⟩
end Go.Proofs.YtnnkfgekiaaehaaGreat

/- slices.All over the productions of a grammar; grammar.prods. -/
namespace Go.Proofs.YtnnkfgekiaaehaaGreat
open Go.RowKit Go.Shelf
set_option linter.unusedVariables false
attribute [local go_sem] Oper.semAt_some
structure PV where
  p : Pr
  ra : Option Addr
  rc : Nat
  deriving Inhabited
def PV.v (x : PV) : Value := .agg #[.int .i64 x.p.left, .slice x.ra x.p.right.length x.rc]
def PVok (w : World) (B : Nat) (x : PV) : Prop := Rd1 w B x.ra x.p.right.length (ints x.p.right) ∧ x.p.right.length ≤ x.rc ∧ x.rc ≤ maxLen
def RdV (w : World) (B : Nat) (A : Option Addr) (n : Nat) (vs : List PV) : Prop :=
  vs.length = n ∧ (n = 0 ∨ ∃ b off, A = some ⟨b, off, none⟩ ∧ b < B ∧ ∀ (i : Nat) (x : PV), vs[i]? = some x → w.cell? ⟨b, off + i * 2, none⟩ = some (.int .i64 x.p.left) ∧ w.cell? ⟨b, off + i * 2 + 1, none⟩ = some (.slice x.ra x.p.right.length x.rc))
theorem RdP.vals {w : World} {B : Nat} {A : Option Addr} {n : Nat} {ps : List Pr} (h : RdP w B A n ps) : ∃ vs : List PV, vs.map PV.p = ps ∧ RdV w B A n vs ∧ ∀ x ∈ vs, PVok w B x := by
  rcases h.2 with h0 | ⟨b, off, rfl, hb, hc⟩
  · have : ps = [] := List.eq_nil_of_length_eq_zero (by rw [h.1]; exact h0)
    subst this
    exact ⟨[], rfl, ⟨h.1, .inl h0⟩, by simp⟩
  · have key : ∀ (i : Nat) (p : Pr), ps[i]? = some p → ∃ x : PV, x.p = p ∧ w.cell? ⟨b, off + i * 2, none⟩ = some (.int .i64 x.p.left) ∧ w.cell? ⟨b, off + i * 2 + 1, none⟩ = some (.slice x.ra x.p.right.length x.rc) ∧ PVok w B x := by
      intro i p hp
      obtain ⟨h1, RA, c, h2, h3, h4, h5⟩ := hc i p hp
      exact ⟨⟨p, RA, c⟩, rfl, h1, h2, h3, h4, h5⟩
    have : ∀ m, m ≤ ps.length → ∃ vs : List PV, vs.map PV.p = ps.take m ∧ (∀ (i : Nat) (x : PV), vs[i]? = some x → w.cell? ⟨b, off + i * 2, none⟩ = some (.int .i64 x.p.left) ∧ w.cell? ⟨b, off + i * 2 + 1, none⟩ = some (.slice x.ra x.p.right.length x.rc)) ∧ ∀ x ∈ vs, PVok w B x := by
      intro m
      induction m with
      | zero => intro _; exact ⟨[], by simp, by simp, by simp⟩
      | succ m ih =>
        intro hm
        obtain ⟨vs, h1, h2, h3⟩ := ih (by omega)
        have hl : vs.length = m := by have := congrArg List.length h1; simp at this; omega
        obtain ⟨x, hx, hx1, hx2, hx3⟩ := key m ps[m] (List.getElem?_eq_getElem (by omega))
        refine ⟨vs ++ [x], ?_, ?_, ?_⟩
        · rw [List.map_append, h1, List.take_succ_eq_append_getElem (by omega)]; simp [hx]
        · intro i y hy
          rw [List.getElem?_append] at hy
          split at hy
          · exact h2 i y hy
          · rename_i hge
            have : i = m := by have := (List.getElem?_eq_some_iff.1 hy).1; simp at this; omega
            subst this
            rw [hl, Nat.sub_self] at hy
            have : x = y := by simpa using hy
            subst this
            exact ⟨hx1, hx2⟩
        · intro y hy
          rcases List.mem_append.1 hy with hy | hy
          · exact h3 y hy
          · simp at hy; rw [hy]; exact hx3
    obtain ⟨vs, h1, h2, h3⟩ := this ps.length (Nat.le_refl _)
    rw [List.take_of_length_le (Nat.le_refl _)] at h1
    exact ⟨vs, h1, ⟨by rw [← h.1, ← h1]; simp, .inr ⟨b, off, rfl, hb, h2⟩⟩, h3⟩
theorem RdV.below {w w' : World} {B : Nat} {A : Option Addr} {n : Nat} {vs : List PV} (h : RdV w B A n vs) (hb : Below B w w') : RdV w' B A n vs := by
  refine ⟨h.1, ?_⟩
  rcases h.2 with h0 | ⟨b, off, rfl, hlt, hc⟩
  · exact .inl h0
  · refine .inr ⟨b, off, rfl, hlt, fun i x hx => ?_⟩
    obtain ⟨h1, h2⟩ := hc i x hx
    exact ⟨by rw [hb.cell (p := ⟨b, off + i * 2, none⟩) hlt]; exact h1, by rw [hb.cell (p := ⟨b, off + i * 2 + 1, none⟩) hlt]; exact h2⟩
theorem PVok.below {w w' : World} {B : Nat} {x : PV} (h : PVok w B x) (hb : Below B w w') : PVok w' B x := ⟨h.1.below hb, h.2⟩
def prUpto (vs : List PV) (k : Nat) : List (Nat × PV) := (List.range k).map fun j => (j, vs.getD j default)
theorem prUpto_succ (vs : List PV) (k : Nat) : prUpto vs (k + 1) = prUpto vs k ++ [(k, vs.getD k default)] := by simp [prUpto, List.range_succ]
theorem prUpto_length (vs : List PV) (k : Nat) : (prUpto vs k).length = k := by simp [prUpto]
def encP (x : Nat × PV) : Array Value := #[.int .i64 (x.1 : Int), .agg #[.int .i64 x.2.p.left, .slice x.2.ra x.2.p.right.length x.2.rc]]
set_option maxRecDepth 100000 in
set_option maxHeartbeats 2000000 in
theorem all1_in (n : Nat) (hn : 1 ≤ n) (l Bs n₀ : Nat) (A : Option Addr) (len cap : Nat) (vs : List PV) (hlen : len ≤ 1000000) (J Jx : List (Nat × PV) → World → Prop)
    (hY : ∀ pre x W, J pre W → pre.length < len → YieldAt Fence.wide (n - 1) Tryz.prog l (encP x) W fun e W' =>
      (e = .returned (.bool true) ∧ J (pre ++ [x]) W' ∧ Below n₀ W W') ∨ (e = .returned (.bool false) ∧ Jx (pre ++ [x]) W'))
    (W : World) (hJ : AbidesFrom W.heap.size J) (hn0 : n₀ ≤ W.heap.size) (hBs : W.cell? ⟨Bs, 0, none⟩ = some (.slice A len cap)) (hR : RdV W n₀ A len vs) (h0 : J [] W) :
    CallsIn Fence.wide n Tryz.prog 160 #[.func (.yield l) #[] #[], .pointer (some ⟨Bs, 0, none⟩)] W fun e W' => (∃ v, e = .returned v) ∧
      ((∃ ys, ys = prUpto vs len ∧ J ys W') ∨ (∃ pre, (∃ k, k ≤ len ∧ pre = prUpto vs k) ∧ Jx pre W')) := by
  refine callsIn_of_wp Tryz.func160 rfl trivial ?_ rfl
  simp only [Tryz.ntmps160, List.size_toArray, List.length_cons, List.length_nil, Nat.reduceAdd, Nat.reduceSub, Array.replicate_succ, Array.replicate_zero, List.push_toArray, List.append_toArray, List.nil_append, List.cons_append]
  gi_wp2
  gi_loopw [7] (fun i wr => ∃ k : Nat, k ≤ len ∧ i = .int .i64 k ∧ J (prUpto vs k) wr ∧ Below n₀ W wr ∧ W.heap.size ≤ wr.heap.size)
    (fun i _ => len - (intOf i).toNat)
  case atStart => exact ⟨0, Nat.zero_le _, rfl, h0, Below.refl _ _, Nat.le_refl _⟩
  case round =>
    obtain ⟨k, hk, rfl, hJs, hnx, hge⟩ := hrel
    by_cases hlt : k < len
    · rcases hR.2 with hz | ⟨b, off, rfl, hb, hcs⟩
      · omega
      have hkl : k < vs.length := by rw [hR.1]; exact hlt
      obtain ⟨h1, h2⟩ := hcs k vs[k] (List.getElem?_eq_getElem hkl)
      have hgd : vs.getD k default = vs[k] := by simp [List.getD_eq_getElem?_getD, hkl]
      have x0 : wr.cell? ⟨b, off + k * 2, none⟩ = some (.int .i64 vs[k].p.left) := (hnx.cell (p := ⟨b, off + k * 2, none⟩) hb).trans h1
      have x1 : wr.cell? ⟨b, off + k * 2 + 1, none⟩ = some (.slice vs[k].ra vs[k].p.right.length vs[k].rc) := (hnx.cell (p := ⟨b, off + k * 2 + 1, none⟩) hb).trans h2
      have hsu := prUpto_succ vs k
      rw [hgd] at hsu
      replace hsu := Lib.hid hsu
      generalize vs[k] = x at *
      have hJ1 := hJ _ _ _ none hJs (World.grownBy_alloc wr (.cells #[.int .i64 x.p.left, .slice x.ra x.p.right.length x.rc] 47) none) (by simp)
      have hbA : Below n₀ wr (wr.alloc (.cells #[.int .i64 x.p.left, .slice x.ra x.p.right.length x.rc] 47)) := (Below.refl _ _).alloc (by omega) _
      obtain ⟨fn, tmps, assign, body, hy, hR2⟩ := hY _ (k, x) _ hJ1 (by rw [prUpto_length]; exact hlt)
      dsimp only [encP] at hy
      gi_wp2
      refine hR2.mono ?_
      rintro e W3 (⟨rfl, hJ3, hk3⟩ | ⟨rfl, hJx3⟩)
      · gi_wp2
        go_roundw
        case rel => exact ⟨k + 1, by omega, by simp, by rw [hsu.out]; exact hJ3, hnx.trans (hbA.trans hk3), by have := hk3.size; simp at this; omega⟩
        case measure => simp [intOf]; omega
      · gi_wp2
        refine bodyPost_ret (results_none rfl _ _ _) rfl ?_
        exact ⟨⟨_, rfl⟩, .inr ⟨_, ⟨k + 1, by omega, hsu.out.symm⟩, hJx3⟩⟩
    · obtain rfl : k = len := by omega
      gi_wp2
      go_end0
      exact ⟨⟨_, rfl⟩, .inl ⟨_, rfl, hJs⟩⟩
set_option maxHeartbeats 1000000 in
theorem all_in (n : Nat) (A : Option Addr) (len cap : Nat) (w : World) :
    CallsIn Fence.wide n Tryz.prog 138 #[.slice A len cap] w fun e w' => e = .returned (.func (.func 160) #[] #[.pointer (some ⟨w.heap.size, 0, none⟩)]) ∧ w' = w.alloc (.cells #[.slice A len cap] 23) := by
  refine callsIn_of_wp Tryz.func138 rfl trivial ?_ rfl
  simp only [Tryz.ntmps138, List.size_toArray, List.length_cons, List.length_nil, Nat.reduceAdd, Nat.reduceSub, Array.replicate_succ, Array.replicate_zero, List.push_toArray, List.append_toArray, List.nil_append, List.cons_append]
  gi_wp2
  go_ret
  exact ⟨rfl, rfl⟩
def RetSeq (w : World) (g : Gr) (a : GA) (e : Ending) (w' : World) : Prop :=
  ∃ B, e = .returned (.func (.func 160) #[] #[.pointer (some ⟨B, 0, none⟩)]) ∧ w'.cell? ⟨B, 0, none⟩ = some (.slice a.pa g.prods.length a.pc) ∧ B < w'.heap.size ∧ Below w.heap.size w w'
theorem prods_any (g : Gr) (a : GA) (w : World) : Calls Tryz.prog 100 #[gval g a] w (RetSeq w g a) := by
  have h101 := Lib.hid (fun A len cap w => callsIn_wide.1 (all_in 3 A len cap w))
  have hP := Lib.hid (fun (B : Nat) (w' : World) (h1 : w'.cell? ⟨B, 0, none⟩ = some (.slice a.pa g.prods.length a.pc)) (h2 : B < w'.heap.size) (h3 : Below w.heap.size w w') =>
    (show RetSeq w g a (.returned (.func (.func 160) #[] #[.pointer (some ⟨B, 0, none⟩)])) w' from ⟨B, rfl, h1, h2, h3⟩))
  unfold gval gcells
  go_enter Tryz.func100, Tryz.ntmps100
  go_wp2_with fail
  refine (h101.out _ _ _ _).mono ?_
  rintro e w1 ⟨rfl, hw1⟩
  subst hw1
  rw [World.size_alloc]
  go_wp2_with fail
  go_ret
  refine hP.out _ _ ?_ ?_ ?_
  · exact (Blk.newAt _ _ _ _ (by simp)).cell 0
  · simp
  · exact bAlc (bAlc (Below.refl _ _) _) _
theorem all_stops (n : Nat) (hn : 1 ≤ n) (Bs n₀ : Nat) (A : Option Addr) (len cap : Nat) (vs : List PV) (hlen : len ≤ 1000000) (w : World) (hBs : Bs < w.heap.size) (hn₀ : n₀ ≤ w.heap.size)
    (hc : w.cell? ⟨Bs, 0, none⟩ = some (.slice A len cap)) (hI : RdV w n₀ A len vs) :
    SeqStopsK Fence.wide n Tryz.prog 160 #[.pointer (some ⟨Bs, 0, none⟩)] encP (Below n₀) (fun ys => ys = prUpto vs len) (fun pre => ∃ k, k ≤ len ∧ pre = prUpto vs k) len w := fun l J Jx W hW hJ _ hY h0 => by
  have hc' := (hW.cell (p := ⟨Bs, 0, none⟩) hBs).trans hc
  exact all1_in n hn l Bs n₀ A len cap vs hlen J Jx hY W hJ (Nat.le_trans hn₀ hW.size) hc' (hI.below (hW.mono hn₀)) h0
end Go.Proofs.YtnnkfgekiaaehaaGreat

/- grammar.many. -/
namespace Go.Proofs.YtnnkfgekiaaehaaGreat
open Go.RowKit Go.Shelf
set_option linter.unusedVariables false
attribute [local go_sem] Oper.semAt_some
theorem blk_own {β : Type} (g : Nat) (t : TypeId) (f : β → Array Value) : Own (fun s W => Blk W g t (f s)) := fun s X Y row hs hg hr =>
  hs.grown hg (fun e => by obtain ⟨o, ho, hc⟩ := hr g e.symm; have : X.heap[g]? = some (.cells (f s) t (0, 0)) := hs; rw [this] at ho; cases ho; cases hc)
theorem under30 : Tryz.prog.underlying 29 = some (.int .i64) := by kernel_rfl
theorem loadVar30 (w : World) (a : Addr) (v : Value) (h : w.cell? a = some v) : (loadVar 29 a).run Tryz.prog w = .ok v w := by
  have hagg : (isAgg 29).run Tryz.prog w = .ok false w := by unfold isAgg; rw [Sem.run_bind, run_underlying under30 w]; rfl
  simp [loadVar, Sem.run_bind, hagg, h]
theorem results_cell30 {fn : Func} {p : Tmp} (h : fn.results = #[.cell p 29]) (tmps : Array Value) (w : World) (g : Nat) (v : Value) (hp : tmps.getD p undef = .pointer (some ⟨g, 0, none⟩)) (hc : w.cell? ⟨g, 0, none⟩ = some v) :
    (results fn tmps).run Tryz.prog w = .ok v w := by
  have hp' : tmps[p]?.getD undef = .pointer (some ⟨g, 0, none⟩) := by simpa using hp
  simp [results, h, hp', asAddr, loadVar30 w _ v hc]
theorem upto_all {vs : List PV} {q : Pr → Bool} (h : ∀ y ∈ prUpto vs vs.length, q y.2.p = true) : (vs.map PV.p).all q = true := by
  rw [List.all_eq_true]
  intro p hp
  obtain ⟨x, hx, rfl⟩ := List.mem_map.1 hp
  obtain ⟨i, hi, rfl⟩ := List.mem_iff_getElem.1 hx
  have := h (i, vs[i]) (by
    unfold prUpto
    exact List.mem_map.2 ⟨i, List.mem_range.2 hi, by simp [List.getD_eq_getElem?_getD, hi]⟩)
  exact this
theorem upto_mem {vs : List PV} {k : Nat} {y : Nat × PV} (hk : k ≤ vs.length) (h : y ∈ prUpto vs k) : y.2 ∈ vs ∧ vs[y.1]? = some y.2 := by
  unfold prUpto at h
  obtain ⟨j, hj, rfl⟩ := List.mem_map.1 h
  have hj := List.mem_range.1 hj
  have hl : j < vs.length := by omega
  simp [List.getD_eq_getElem?_getD, hl]
def ManyI (w : World) (q : Pr → Bool) (r : Int) (pre : List (Nat × PV)) (W : World) : Prop := ((∀ y ∈ pre, q y.2.p = true) ∧ Blk W (w.heap.size + 1) 29 #[.int .i64 r]) ∧ Below w.heap.size w W
def ManyX (w : World) (q : Pr → Bool) (r : Int) (c : Code) (pre : List (Nat × PV)) (W : World) : Prop := ((c = .ret ∧ ∃ y ∈ pre, q y.2.p = false) ∧ Blk W (w.heap.size + 1) 29 #[.int .i64 r]) ∧ Below w.heap.size w W
theorem manyI_own {B : Nat} (w : World) (q : Pr → Bool) (r : Int) (h : w.heap.size ≤ B) : OwnFrom B (ManyI w q r) := OwnFrom.and (OwnFrom.and (ownFrom_pure _ _) (Own.from (blk_own _ _ _) _)) (ownFrom_below (Nat.le_refl _) h)
theorem manyX_own {B : Nat} (w : World) (q : Pr → Bool) (r : Int) (h : w.heap.size ≤ B) (c : Code) : OwnFrom B (ManyX w q r c) := OwnFrom.and (OwnFrom.and (ownFrom_pure _ _) (Own.from (blk_own _ _ _) _)) (ownFrom_below (Nat.le_refl _) h)
def len6 (p : Pr) : Bool := decide (p.right.length ≤ 6)
set_option maxRecDepth 100000 in
set_option maxHeartbeats 4000000 in
theorem many_any (g : Gr) (a : GA) (w : World) (hg : GrAt w w.heap.size g a) (hs : Small g) :
    Calls Tryz.prog 62 #[gval g a] w fun e w' => e = .returned (.int .i64 (if fullB g = false then 6 else 0)) ∧ Below w.heap.size w w' := by
  obtain ⟨ta, tc, na, nc, pa, pc⟩ := a
  obtain ⟨R, hR⟩ : ∃ R : Int, R = if fullB g = false then 6 else 0 := ⟨_, rfl⟩
  rw [← hR]
  replace hR := Lib.hid hR
  have hs1 := hs.t
  have hs2 := hs.n
  have hs3 := hs.p
  have hs4 := Lib.hid hs.r
  clear hs
  have hG0 := GB.start hg
  clear hg
  have hPr := Lib.hid (fun w => prods_any g ⟨ta, tc, na, nc, pa, pc⟩ w)
  unfold gval at *
  unfold gcells at *
  dsimp only at *
  refine (callsIn_wide (n := 6)).1 ?_
  by_cases h1 : g.toks.length ≤ 8 ∧ g.names.length ≤ 8 ∧ g.prods.length ≤ 24
  · obtain ⟨h1, h2, h3⟩ := h1
    refine callsIn_of_wp_marks Tryz.func62 rfl trivial ?_ rfl
    simp only [Tryz.ntmps62, List.size_toArray, List.length_cons, List.length_nil, Nat.reduceAdd, Nat.reduceSub, Array.replicate_succ, Array.replicate_zero, List.push_toArray, List.append_toArray, List.nil_append, List.cons_append]
    gi_wp2_with (refine ⟨trivial, ?_⟩; gi_at_call 100; refine (callsIn_wide.2 (hPr.out _)).mono ?_; rintro e w1 ⟨B, rfl, hB1, hB2, hB3⟩)
    have hG := (hG0.alloc _).step hB3
    have bR : Blk w1 (w.heap.size + 1) 29 #[.int .i64 0] := (Blk.newAt _ _ _ _ (by simp)).step hB3
    obtain ⟨vs, hvs1, hvs2, hvs3⟩ := hG.2.1.prods.vals
    have hvl : vs.length = g.prods.length := by rw [← hvs1]; simp
    have hF : fullB g = g.prods.all fun p => decide (p.right.length ≤ 6) := by simp [fullB, h1, h2, h3]
    rw [← hvs1] at hF
    have hR2 : R = if (vs.map PV.p).all len6 = false then 6 else 0 := by rw [hR.out, hF]; rfl
    replace hR2 := Lib.hid hR2
    have hlen : ∀ x ∈ vs, x.p.right.length ≤ 1000000 := fun x hx => hs4.out _ (by rw [← hvs1]; exact List.mem_map_of_mem hx)
    replace hlen := Lib.hid hlen
    have hw1 := hG.2.2.size
    clear hF hvs1 hR
    replace hvl := Lib.hid hvl
    refine wpIn_rangeFunc_ownH (F := Fence.wide) rfl (by omega) (gf := 160) (lb := #[.pointer (some ⟨B, 0, none⟩)]) rfl trivial (enters_of Tryz.func160 (by kernel_rfl) rfl)
      (all_stops 5 (by omega) B w.heap.size pa g.prods.length pc vs (by omega) w1 hB2 hw1 hB1 hvs2) belowK_t (belowK_b hw1) (Below.refl _ _) (fun _ => rfl)
      (ManyI w len6 0) (ManyX w len6 6) (manyI_own w len6 0 hw1) (manyX_own w len6 6 hw1)
      ⟨⟨by simp, bR⟩, hG.2.2⟩
      (fun x a' W => ∃ Bx, w.heap.size + 1 < Bx ∧ Blk W Bx 47 #[.int .i64 x.2.p.left, .slice x.2.ra x.2.p.right.length x.2.rc] ∧ ∃ (u0 u3 u5 u6 u7 u8 u9 u10 u11 u12 u13 u14 u15 u16 u17 u18 u19 u20 u21 u22 u23 u24 u25 u26 u27 u28 : Value), a' = { tmps := #[u0, .pointer (some ⟨w.heap.size, 0, none⟩), .pointer (some ⟨w.heap.size + 1, 0, none⟩), u3, .pointer (some ⟨Bx, 0, none⟩), u5, u6, u7, u8, u9, u10, u11, u12, u13, u14, u15, u16, u17, u18, u19, u20, u21, u22, u23, u24, u25, u26, u27, u28], defers := [] })
      (fun x a' _ X Y row hs hg hr => by obtain ⟨Bx, h1, h2, h3⟩ := hs; exact ⟨Bx, h1, blk_own Bx 47 (fun (_ : Unit) => #[.int .i64 x.2.p.left, .slice x.2.ra x.2.p.right.length x.2.rc]) () X Y row h2 hg (fun r e => (hr r e).2), h3⟩)
      ?assign ?body ?done ?stop
    case assign =>
      rintro l pre x W K ⟨⟨hp, bR1⟩, hb⟩ hK
      dsimp only [encP]
      gi_wp2
      exact hK _ _ ((KeepsOthers.alloc _ _).from _) ((Below.refl _ W).alloc hb.size _) ⟨⟨hp, bR1.alloc _⟩, bAlc hb _⟩ ⟨W.heap.size, by have := bR1.lt; omega, Blk.new W 47 _, _, _, _, _, _, _, _, _, _, _, _, _, _, _, _, _, _, _, _, _, _, _, _, _, _, _, rfl⟩
    case body =>
      rintro l pre x a' W hl ⟨r, hr⟩ ⟨⟨hp, bR1⟩, hb⟩ ⟨Bx, hBx, bX, u0, u3, u5, u6, u7, u8, u9, u10, u11, u12, u13, u14, u15, u16, u17, u18, u19, u20, u21, u22, u23, u24, u25, u26, u27, u28, rfl⟩ hlt
      have p1 := bX.cell 1
      have r0 := bR1.cell 0
      have f0 := bR1.frozen 0
      simp only [List.getElem?_toArray, List.getElem?_cons_zero, List.getElem?_cons_succ] at p1 r0
      by_cases h6 : x.2.p.right.length ≤ 6
      · have h6d := Lib.hid (show len6 x.2.p = true from decide_eq_true h6)
        gi_wp2
        exact ⟨KeepsFrom.refl _ _, Below.refl _ _, ⟨fun y hy => (List.mem_append.1 hy).elim (hp y) (fun e => by simp at e; rw [e]; exact h6d.out), bR1⟩, hb⟩
      · have h6d := Lib.hid (show len6 x.2.p = false from decide_eq_false h6)
        gi_wp2
        exact ⟨(KeepsOthers.setCell _ _ _).from _, ⟨⟨rfl, x, by simp, h6d.out⟩, bR1.put 0 _⟩, bSet hb _ _ (by simp <;> omega)⟩
    case done =>
      rintro D ys W hD rfl ⟨⟨hp, bR1⟩, hb⟩ hK
      have hR3 : R = 0 := by
        rw [hR2.out, if_neg]
        rw [← hvl.out] at hp
        rw [upto_all hp]; simp
      subst hR3
      have r0 := bR1.cell 0
      have f0 := bR1.frozen 0
      simp only [List.getElem?_toArray, List.getElem?_cons_zero, List.getElem?_cons_succ] at r0
      gi_wp2
      have hK' := (KeepsOthers.setCell W ⟨w.heap.size + 1, 0, none⟩ (.int .i64 0)).same D _ hK rfl
      refine ⟨by simp, .inl ⟨_, _, rfl, run_takeDeferred hK', ?_⟩⟩
      have b2 := (bR1.put 0 (.int .i64 0)).grown (grownBy_putObj' _ D (.deferred none)) (by have := bR.lt; simp; omega)
      exact ⟨_, results_cell30 rfl _ _ _ _ rfl (b2.cell 0), rfl, (bSet hb _ _ (by simp <;> omega)).trans (belowK_b (w := w) (Nat.le_refl _) _ D _ _ (by omega) hK' rfl rfl)⟩
    case stop =>
      rintro D c pre W hD ⟨k, hk, rfl⟩ ⟨⟨⟨rfl, y, hy, hyq⟩, bR1⟩, hb⟩ hK
      have hR3 : R = 6 := by
        rw [hR2.out, if_pos]
        rw [List.all_eq_false]
        exact ⟨y.2.p, List.mem_map_of_mem (upto_mem (by rw [hvl.out]; exact hk) hy).1, by rw [hyq]; simp⟩
      subst hR3
      gi_wp2
      refine ⟨by simp, .inl ⟨_, _, rfl, run_takeDeferred hK, ?_⟩⟩
      have b2 := bR1.grown (grownBy_putObj' _ D (.deferred none)) (by have := bR.lt; simp; omega)
      exact ⟨_, results_cell30 rfl _ _ _ _ rfl (b2.cell 0), rfl, hb.trans (belowK_b (w := w) (Nat.le_refl _) _ D _ _ (by omega) hK rfl rfl)⟩
  · have hF : fullB g = false := by
      cases h : fullB g
      · rfl
      · simp [fullB] at h; exact absurd ⟨h.1, h.2.1, h.2.2.1⟩ h1
    have hR3 : R = 6 := by rw [hR.out, if_pos hF]
    subst hR3
    clear hF
    refine callsIn_wide.2 ?_
    have hq : 8 < g.toks.length ∨ (g.toks.length ≤ 8 ∧ 8 < g.names.length) ∨ (g.toks.length ≤ 8 ∧ g.names.length ≤ 8 ∧ 24 < g.prods.length) := by omega
    clear h1
    rcases hq with h | ⟨h, h2⟩ | ⟨h, h2, h3⟩
    all_goals
      go_enter Tryz.func62, Tryz.ntmps62
      go_wp2_with fail
      exact bodyPost_ret (results_cell30 rfl _ _ _ _ rfl ((Blk.newAt _ _ _ _ (by simp)).cell 0)) rfl ⟨rfl, bAlc (bAlc (Below.refl _ _) _) _⟩
end Go.Proofs.YtnnkfgekiaaehaaGreat

/- grammar: the closures of symbols and complete, and the library's IndexFunc, ContainsFunc at them. -/
namespace Go.Proofs.YtnnkfgekiaaehaaGreat
open Go.ChangeShapes Go.WideShapes Go.ChangeAt Go.RowKit
set_option linter.unusedVariables false
set_option maxHeartbeats 1000000 in
theorem symcl_any (g : Gr) (a : GA) (s : Int) (b0 : Nat) (w : World) (hb : Blk w b0 25 (gcells g a)) (ht : g.toks.length ≤ 100000) (hn : g.names.length ≤ 100000) :
    Calls Tryz.prog 105 #[.int .i64 s, .pointer (some ⟨b0, 0, none⟩)] w fun e w' => e = .returned (.bool (!syB g s)) ∧ Below w.heap.size w w' := by
  obtain ⟨ta, tc, na, nc, pa, pc⟩ := a
  have hT := Lib.hid (fun w => terminal_any g ⟨ta, tc, na, nc, pa, pc⟩ s w (by omega))
  have hN := Lib.hid (fun w => nonterm_any g ⟨ta, tc, na, nc, pa, pc⟩ s w (by omega))
  have c0 := hb.cell 0
  have c1 := hb.cell 1
  have c2 := hb.cell 2
  have c3 := hb.cell 3
  have c4 := hb.cell 4
  have c5 := hb.cell 5
  have hlt := hb.lt
  unfold gval gcells at *
  dsimp only at *
  simp only [List.getElem?_toArray, List.getElem?_cons_zero, List.getElem?_cons_succ] at c0 c1 c2 c3 c4 c5
  cases h1 : tmB g s with
  | true =>
    have hs : syB g s = true := by unfold syB; rw [h1]; rfl
    rw [hs]
    rw [h1] at hT
    replace h1 := Lib.hid h1
    replace hs := Lib.hid hs
    go_enter Tryz.func105, Tryz.ntmps105
    go_wp2_with fail
    refine (hT.out _).mono ?_
    rintro e w1 ⟨rfl, hb1⟩
    go_wp2_with fail
    go_ret
    exact ⟨rfl, hb1⟩
  | false =>
    have hs : syB g s = ntB g s := by unfold syB; rw [h1]; rfl
    rw [hs]
    rw [h1] at hT
    replace h1 := Lib.hid h1
    replace hs := Lib.hid hs
    generalize ntB g s = q at *
    go_enter Tryz.func105, Tryz.ntmps105
    go_wp2_with fail
    refine (hT.out _).mono ?_
    rintro e w1 ⟨rfl, hb1⟩
    have d0 := cell_later hb1 c0
    have d1 := cell_later hb1 c1
    have d2 := cell_later hb1 c2
    have d3 := cell_later hb1 c3
    have d4 := cell_later hb1 c4
    have d5 := cell_later hb1 c5
    go_wp2_with fail
    refine (hN.out _).mono ?_
    rintro e w2 ⟨rfl, hb2⟩
    go_wp2_with fail
    go_ret
    exact ⟨rfl, bStep hb1 hb2⟩
def fstI {α : Type} (q : α → Bool) (l : List α) : Int := match l.findIdx? q with | some i => (i : Int) | none => -1
theorem fstI_nonneg {α : Type} (q : α → Bool) (l : List α) : decide (0 ≤ fstI q l) = l.any q := by
  unfold fstI
  cases h : l.findIdx? q with
  | none =>
    rw [List.findIdx?_eq_none_iff] at h
    have : l.any q = false := by rw [List.any_eq_false]; intro x hx; rw [h x hx]; simp
    rw [this]; rfl
  | some i =>
    have := List.findIdx?_eq_some_iff_getElem.1 h
    obtain ⟨hi, hq, _⟩ := this
    have h2 : l.any q = true := List.any_eq_true.2 ⟨l[i], List.getElem_mem hi, hq⟩
    rw [h2]; simp
theorem fstI_at {α : Type} {q : α → Bool} {l : List α} {i : Nat} (hi : i < l.length) (hq : q l[i] = true) (h : ∀ (j : Nat) (x : α), j < i → l[j]? = some x → q x = false) : fstI q l = i := by
  have : l.findIdx? q = some i := List.findIdx?_eq_some_iff_getElem.2 ⟨hi, hq, fun j hj => by
    have := h j l[j] hj (List.getElem?_eq_getElem (by omega)); simp [this]⟩
  unfold fstI; rw [this]
theorem fstI_none {α : Type} {q : α → Bool} {l : List α} (h : ∀ (j : Nat) (x : α), l[j]? = some x → q x = false) : fstI q l = -1 := by
  have : l.findIdx? q = none := by
    rw [List.findIdx?_eq_none_iff]; intro x hx
    obtain ⟨i, hi, rfl⟩ := List.mem_iff_getElem.1 hx
    exact h i _ (List.getElem?_eq_getElem hi)
  unfold fstI; rw [this]
set_option maxHeartbeats 2000000 in
theorem idxsym_any (g : Gr) (a : GA) (b0 : Nat) (A : Option Addr) (n c : Nat) (l : List Int) (w : World) (hb : Blk w b0 25 (gcells g a)) (ht : g.toks.length ≤ 100000) (hn : g.names.length ≤ 100000) (hr : Rd1 w w.heap.size A n (ints l)) (hl : n ≤ 1000000) :
    Calls Tryz.prog 140 #[.slice A n c, .func (.func 105) #[] #[.pointer (some ⟨b0, 0, none⟩)]] w fun e w' => e = .returned (.int .i64 (fstI (fun s => !syB g s) l)) ∧ Below w.heap.size w w' := by
  have hll : l.length = n := by have := hr.1; simpa [ints] using this
  obtain ⟨R, hR⟩ : ∃ R : Int, R = fstI (fun s => !syB g s) l := ⟨_, rfl⟩
  rw [← hR]
  replace hR := Lib.hid hR
  replace hll := Lib.hid hll
  have hcl := Lib.hid (fun s w hb => symcl_any g a s b0 w hb ht hn)
  go_enter Tryz.func140, Tryz.ntmps140
  go_wp2_with fail
  go_loopg [8] n (fun gk s8 wr => ∃ i : Nat, s8 = .int .i64 i ∧ i + gk = n ∧ (∀ (j : Nat) (s : Int), j < i → l[j]? = some s → (!syB g s) = false) ∧ Blk wr b0 25 (gcells g a) ∧ Rd1 wr w.heap.size A n (ints l) ∧ Below w.heap.size w wr)
  case atStart => exact ⟨0, rfl, by omega, by intros; omega, hb, hr, Below.refl _ _⟩
  case round =>
    clear hb hr
    obtain ⟨i, rfl, hi, hP, hb, hr, hw⟩ := hrel
    replace hi := Lib.hid hi
    replace hP := Lib.hid hP
    by_cases hin : i < n
    · have hil : i < l.length := by have := hll.out; omega
      have hsk : l[i]? = some l[i] := List.getElem?_eq_getElem hil
      obtain ⟨b2, off2, rfl, hbt2, y0⟩ := hr.get (i := i) (v := .int .i64 l[i]) (by simp [ints, hsk])
      have hzk : (0 : Int) ≤ i := by omega
      have hzkn : (i : Int) < n := by omega
      have hc := Lib.hid (hcl.out l[i] _ hb)
      have hfa := Lib.hid (fun hq => fstI_at (q := fun s => !syB g s) hil hq hP.out)
      generalize l[i] = s at *
      replace hsk := Lib.hid hsk
      cases hq : (!syB g s) with
      | true =>
        have hR2 : R = i := hR.out.trans (hfa.out hq)
        subst hR2
        rw [hq] at hc
        replace hq := Lib.hid hq
        go_wp2_with fail
        refine hc.out.mono ?_
        rintro e w1 ⟨rfl, hb1⟩
        go_wp2_with fail
        go_ret
        exact ⟨rfl, bStep hw hb1⟩
      | false =>
        rw [hq] at hc
        have hG := Lib.hid (show ∀ (j : Nat) (s : Int), j < i + 1 → l[j]? = some s → (!syB g s) = false by
          intro j t hj ht
          by_cases e : j = i
          · subst e; rw [hsk.out] at ht; cases ht; exact hq
          · exact hP.out j t (by omega) ht)
        replace hq := Lib.hid hq
        go_wp2_with fail
        refine hc.out.mono ?_
        rintro e w1 ⟨rfl, hb1⟩
        go_wp2_with fail
        go_roundg (n - (i + 1))
        case measure => have := hi.out; omega
        case rel => exact ⟨i + 1, by go_num, by have := hi.out; omega, hG.out, hb.step hb1, hr.below (hb1.mono hw.size), bStep hw hb1⟩
    · have hR2 : R = -1 := hR.out.trans (fstI_none fun j x hx => hP.out j x (by have := (List.getElem?_eq_some_iff.1 hx).1; have := hll.out; omega) hx)
      subst hR2
      go_wp2_with fail
      go_ret
      exact ⟨rfl, hw⟩
end Go.Proofs.YtnnkfgekiaaehaaGreat

/- grammar.complete, and the library's ContainsFunc. -/
namespace Go.Proofs.YtnnkfgekiaaehaaGreat
open Go.ChangeShapes Go.WideShapes Go.ChangeAt Go.RowKit
set_option linter.unusedVariables false
theorem consym_any (g : Gr) (a : GA) (b0 : Nat) (A : Option Addr) (n c : Nat) (l : List Int) (w : World) (hb : Blk w b0 25 (gcells g a)) (ht : g.toks.length ≤ 100000) (hn : g.names.length ≤ 100000) (hr : Rd1 w w.heap.size A n (ints l)) (hl : n ≤ 1000000) :
    Calls Tryz.prog 104 #[.slice A n c, .func (.func 105) #[] #[.pointer (some ⟨b0, 0, none⟩)]] w fun e w' => e = .returned (.bool (!l.all (syB g))) ∧ Below w.heap.size w w' := by
  have hI := Lib.hid (idxsym_any g a b0 A n c l w hb ht hn hr hl)
  have hR : (!l.all (syB g)) = decide (0 ≤ fstI (fun s => !syB g s) l) := by rw [fstI_nonneg, List.all_eq_not_any_not]; simp
  rw [hR]
  generalize fstI (fun s => !syB g s) l = k at *
  clear hR
  go_enter Tryz.func104, Tryz.ntmps104
  go_wp2_with fail
  refine hI.out.mono ?_
  rintro e w1 ⟨rfl, hb1⟩
  go_wp2_with fail
  go_ret
  exact ⟨rfl, hb1⟩
set_option maxHeartbeats 1000000 in
theorem comcl_any (p : Pr) (RA : Option Addr) (rc : Nat) (i : Nat) (b0 : Nat) (w : World) (hb : w.cell? ⟨b0, 0, none⟩ = some (.int .i64 i)) (hi : i ≤ 100000) :
    Calls Tryz.prog 108 #[.agg #[.int .i64 p.left, .slice RA p.right.length rc], .pointer (some ⟨b0, 0, none⟩)] w fun e w' => e = .returned (.bool (decide (p.left = 16 + (i : Int)))) ∧ Below w.heap.size w w' := by
  have hlt : b0 < w.heap.size := block_lt_of_cell hb
  by_cases h : p.left = 16 + (i : Int)
  · have hbb : (p.left == 16 + (i : Int)) = true := by simp [h]
    rw [decide_eq_true h]
    clear h
    go_enter Tryz.func108, Tryz.ntmps108
    go_wp2_with fail
    go_ret
    exact ⟨rfl, bAlc (Below.refl _ _) _⟩
  · have hbb : (p.left == 16 + (i : Int)) = false := by simp [h]
    rw [decide_eq_false h]
    clear h
    go_enter Tryz.func108, Tryz.ntmps108
    go_wp2_with fail
    go_ret
    exact ⟨rfl, bAlc (Below.refl _ _) _⟩
set_option maxHeartbeats 2000000 in
theorem idxcom_any (i0 : Nat) (b0 : Nat) (A : Option Addr) (n c : Nat) (l : List Pr) (w : World) (hb : w.cell? ⟨b0, 0, none⟩ = some (.int .i64 i0)) (hi0 : i0 ≤ 100000) (hr : RdP w w.heap.size A n l) (hl : n ≤ 1000000) :
    Calls Tryz.prog 141 #[.slice A n c, .func (.func 108) #[] #[.pointer (some ⟨b0, 0, none⟩)]] w fun e w' => e = .returned (.int .i64 (fstI (fun p => decide (p.left = 16 + (i0 : Int))) l)) ∧ Below w.heap.size w w' := by
  have hll : l.length = n := hr.1
  obtain ⟨R, hR⟩ : ∃ R : Int, R = fstI (fun p => decide (p.left = 16 + (i0 : Int))) l := ⟨_, rfl⟩
  rw [← hR]
  replace hR := Lib.hid hR
  replace hll := Lib.hid hll
  have hcl := Lib.hid (fun p RA rc w hb => comcl_any p RA rc i0 b0 w hb hi0)
  go_enter Tryz.func141, Tryz.ntmps141
  go_wp2_with fail
  go_loopg [8] n (fun gk s8 wr => ∃ i : Nat, s8 = .int .i64 i ∧ i + gk = n ∧ (∀ (j : Nat) (p : Pr), j < i → l[j]? = some p → decide (p.left = 16 + (i0 : Int)) = false) ∧ wr.cell? ⟨b0, 0, none⟩ = some (.int .i64 i0) ∧ RdP wr w.heap.size A n l ∧ Below w.heap.size w wr)
  case atStart => exact ⟨0, rfl, by omega, by intros; omega, hb, hr, Below.refl _ _⟩
  case round =>
    clear hb hr
    obtain ⟨i, rfl, hi, hP, hb, hr, hw⟩ := hrel
    replace hi := Lib.hid hi
    replace hP := Lib.hid hP
    by_cases hin : i < n
    · have hil : i < l.length := by have := hll.out; omega
      have hsk : l[i]? = some l[i] := List.getElem?_eq_getElem hil
      obtain ⟨b2, off2, rfl, hbt2, y0, RA, rc, y1, hy2, hy3, hy4⟩ := hr.get hsk
      have hzk : (0 : Int) ≤ i := by omega
      have hzkn : (i : Int) < n := by omega
      have hc := Lib.hid (hcl.out l[i] RA rc _ hb)
      have hfa := Lib.hid (fun hq => fstI_at (q := fun p : Pr => decide (p.left = 16 + (i0 : Int))) hil hq hP.out)
      generalize l[i] = s at *
      replace hsk := Lib.hid hsk
      clear hy2 hy3 hy4
      cases hq : decide (s.left = 16 + (i0 : Int)) with
      | true =>
        have hR2 : R = i := hR.out.trans (hfa.out hq)
        subst hR2
        rw [hq] at hc
        replace hq := Lib.hid hq
        go_wp2_with fail
        refine hc.out.mono ?_
        rintro e w1 ⟨rfl, hb1⟩
        go_wp2_with fail
        go_ret
        exact ⟨rfl, bStep hw hb1⟩
      | false =>
        rw [hq] at hc
        have hG := Lib.hid (show ∀ (j : Nat) (p : Pr), j < i + 1 → l[j]? = some p → decide (p.left = 16 + (i0 : Int)) = false by
          intro j t hj ht
          by_cases e : j = i
          · subst e; rw [hsk.out] at ht; cases ht; exact hq
          · exact hP.out j t (by omega) ht)
        replace hq := Lib.hid hq
        go_wp2_with fail
        refine hc.out.mono ?_
        rintro e w1 ⟨rfl, hb1⟩
        have hb2 := cell_later hb1 hb
        go_wp2_with fail
        go_roundg (n - (i + 1))
        case measure => have := hi.out; omega
        case rel => exact ⟨i + 1, by go_num, by have := hi.out; omega, hG.out, hb2, hr.below (hb1.mono hw.size), bStep hw hb1⟩
    · have hR2 : R = -1 := hR.out.trans (fstI_none fun j x hx => hP.out j x (by have := (List.getElem?_eq_some_iff.1 hx).1; have := hll.out; omega) hx)
      subst hR2
      go_wp2_with fail
      go_ret
      exact ⟨rfl, hw⟩
theorem concom_any (i0 : Nat) (b0 : Nat) (A : Option Addr) (n c : Nat) (l : List Pr) (w : World) (hb : w.cell? ⟨b0, 0, none⟩ = some (.int .i64 i0)) (hi0 : i0 ≤ 100000) (hr : RdP w w.heap.size A n l) (hl : n ≤ 1000000) :
    Calls Tryz.prog 107 #[.slice A n c, .func (.func 108) #[] #[.pointer (some ⟨b0, 0, none⟩)]] w fun e w' => e = .returned (.bool (l.any fun p => decide (p.left = 16 + (i0 : Int)))) ∧ Below w.heap.size w w' := by
  have hI := Lib.hid (idxcom_any i0 b0 A n c l w hb hi0 hr hl)
  rw [← fstI_nonneg]
  generalize fstI (fun p : Pr => decide (p.left = 16 + (i0 : Int))) l = k at *
  go_enter Tryz.func107, Tryz.ntmps107
  go_wp2_with fail
  refine hI.out.mono ?_
  rintro e w1 ⟨rfl, hb1⟩
  go_wp2_with fail
  go_ret
  exact ⟨rfl, hb1⟩
set_option maxHeartbeats 2000000 in
theorem complete_any (g : Gr) (a : GA) (w : World) (hg : GrAt w w.heap.size g a) (hs : Small g) :
    Calls Tryz.prog 67 #[gval g a] w fun e w' => e = .returned (.int .i64 (if compB g = false then 7 else 0)) ∧ Below w.heap.size w w' := by
  obtain ⟨ta, tc, na, nc, pa, pc⟩ := a
  obtain ⟨R, hR⟩ : ∃ R : Int, R = if compB g = false then 7 else 0 := ⟨_, rfl⟩
  rw [← hR]
  replace hR := Lib.hid hR
  have hs2 := hs.n
  have hs3 := hs.p
  clear hs
  have hG0 := GB.start hg
  clear hg
  unfold gval at *
  unfold gcells at *
  dsimp only at *
  go_enter Tryz.func67, Tryz.ntmps67
  go_wp2_with fail
  go_loopg [7] g.names.length (fun gk s7 wr => ∃ i : Nat, s7 = .int .i64 i ∧ i + gk = g.names.length ∧ (∀ j : Nat, j < i → (g.prods.any fun p => decide (p.left = 16 + (j : Int))) = true) ∧ GB w g ⟨ta, tc, na, nc, pa, pc⟩ wr)
  case atStart => exact ⟨0, rfl, by omega, by intros; omega, hG0⟩
  case round =>
    clear hG0
    obtain ⟨i, rfl, hi, hP, hG⟩ := hrel
    replace hi := Lib.hid hi
    replace hP := Lib.hid hP
    obtain ⟨c0, c1, c2, c3, c4, c5⟩ := hG.cells
    dsimp only at c1 c3 c5
    by_cases hin : i < g.names.length
    · have hlt := hG.lt
      have hC := Lib.hid (fun w hb hr => concom_any i wr.heap.size pa g.prods.length pc g.prods w hb (by omega) hr (by omega))
      cases hq : (g.prods.any fun p => decide (p.left = 16 + (i : Int))) with
      | false =>
        have hR2 : R = 7 := by
          rw [hR.out, if_pos]
          unfold compB
          rw [List.all_eq_false]
          exact ⟨i, List.mem_range.2 hin, by rw [hq]; simp⟩
        subst hR2
        rw [hq] at hC
        replace hq := Lib.hid hq
        go_wp2_with fail
        refine (hC.out _ ?_ ?_).mono ?_
        · exact (Blk.new wr 3 #[.int .i64 (i : Int)]).cell 0
        · exact ((hG.alloc _).2.1.mono (hG.alloc _).2.2.size).prods
        rintro e w1 ⟨rfl, hb1⟩
        go_wp2_with fail
        go_ret
        exact ⟨rfl, bStep (bAlc hG.2.2 _) hb1⟩
      | true =>
        rw [hq] at hC
        have hGG := Lib.hid (show ∀ j : Nat, j < i + 1 → (g.prods.any fun p => decide (p.left = 16 + (j : Int))) = true by
          intro j hj
          by_cases e : j = i
          · subst e; exact hq
          · exact hP.out j (by omega))
        replace hq := Lib.hid hq
        go_wp2_with fail
        refine (hC.out _ ?_ ?_).mono ?_
        · exact (Blk.new wr 3 #[.int .i64 (i : Int)]).cell 0
        · exact ((hG.alloc _).2.1.mono (hG.alloc _).2.2.size).prods
        rintro e w1 ⟨rfl, hb1⟩
        go_wp2_with fail
        go_roundg (g.names.length - (i + 1))
        case measure => have := hi.out; omega
        case rel => exact ⟨i + 1, by go_num, by have := hi.out; omega, hGG.out, (hG.alloc _).step hb1⟩
    · have hR2 : R = 0 := by
        rw [hR.out, if_neg]
        rw [show compB g = true from by
          unfold compB
          rw [List.all_eq_true]
          intro j hj
          exact hP.out j (by have := List.mem_range.1 hj; omega)]
        simp
      subst hR2
      go_wp2_with fail
      go_ret
      exact ⟨rfl, hG.2.2⟩
end Go.Proofs.YtnnkfgekiaaehaaGreat

/- A map of keys to true, whatever the keys. -/
namespace Go.Proofs.YtnnkfgekiaaehaaGreat
open Go.ChangeShapes Go.WideShapes Go.ChangeAt Go.RowKit
open Go.ChangeMaps (heap_setBlock_same setBlock)
open Go.MapKept (Stamped stamped_push)
set_option linter.unusedVariables false
structure KeyEnc (α : Type) where
  K : TypeId
  enc : α → Value
  ok : α → Prop
  keyed : Maps.Keyed Tryz.prog K
  key : ∀ x, ok x → ∃ l, keyOf Tryz.prog K (enc x) = some l
  inj : ∀ x y, enc x = enc y → x = y
def MapK {α : Type} (E : KeyEnc α) (w : World) (b : Nat) (s : List α) : Prop :=
  ∃ (es : Array MapEntry) (clock : Nat), w.heap[b]? = some (.map es clock) ∧ es.toList.map (·.key) = s.map E.enc ∧ (∀ e ∈ es.toList, e.val = .bool true) ∧ (∀ x ∈ s, E.ok x) ∧ s.Nodup ∧ Stamped es clock
theorem MapK.lt {α : Type} {E : KeyEnc α} {w : World} {b : Nat} {s : List α} (h : MapK E w b s) : b < w.heap.size := by
  obtain ⟨es, clock, hb, _⟩ := h
  exact (Array.getElem?_eq_some_iff.1 hb).1
theorem MapK.grown {α : Type} {E : KeyEnc α} {w w' : World} {b : Nat} {s : List α} {row : Option Nat} (h : MapK E w b s) (hg : w.grownBy w' row) (hb : some b ≠ row) : MapK E w' b s := by
  have hlt := h.lt
  obtain ⟨es, clock, h1, h2⟩ := h
  exact ⟨es, clock, (hg.block b hlt hb).trans h1, h2⟩
theorem MapK.step {α : Type} {E : KeyEnc α} {w w' : World} {b : Nat} {s : List α} (h : MapK E w b s) (hb : Below w.heap.size w w') : MapK E w' b s := by
  have hlt := h.lt
  obtain ⟨es, clock, h1, h2⟩ := h
  exact ⟨es, clock, (hb.block b hlt).trans h1, h2⟩
theorem MapK.keys {α : Type} {E : KeyEnc α} {es : Array MapEntry} {s : List α} (hk : es.toList.map (·.key) = s.map E.enc) (hw : ∀ x ∈ s, E.ok x) : ∀ e ∈ es.toList, ∃ l, keyOf Tryz.prog E.K e.key = some l := by
  intro e he
  have h1 : e.key ∈ es.toList.map (·.key) := List.mem_map_of_mem he
  rw [hk] at h1
  obtain ⟨x, hx, hxe⟩ := List.mem_map.mp h1
  rw [← hxe]
  exact E.key x (hw x hx)
theorem MapK.look {α : Type} [DecidableEq α] {E : KeyEnc α} {t : TypeId} (ht : Tryz.prog.underlying t = some (.map E.K 4)) {w : World} {b : Nat} {s : List α} (h : MapK E w b s) (x : α) (hx : E.ok x) :
    (Instr.lookup t (.map (some b)) (E.enc x) false).run Tryz.prog w = .ok (.bool (decide (x ∈ s))) w := by
  obtain ⟨es, clock, hb, hk, hv, hw, hn, hst⟩ := h
  obtain ⟨l, hl⟩ := E.key x hx
  have hz := zero_bool w
  rcases E.keyed.find w hl es.toList (MapK.keys hk hw) with ⟨h1, h2⟩ | ⟨j, e, h1, h2, h3⟩
  · have hns : x ∉ s := by
      intro hm
      have : E.enc x ∈ es.toList.map (·.key) := by rw [hk]; exact List.mem_map_of_mem hm
      obtain ⟨e, he, hee⟩ := List.mem_map.mp this
      exact h2 e he hee
    simp [Instr.lookup, run_underlying ht, MapKept.run_getObj_map hb, E.keyed.check w _ hl, h1, hz, Result.andThen, hns]
  · have he := List.mem_of_getElem? h2
    have hs : x ∈ s := by
      have : e.key ∈ es.toList.map (·.key) := List.mem_map_of_mem he
      rw [hk, h3] at this
      obtain ⟨y, hy, hyy⟩ := List.mem_map.mp this
      rw [← E.inj _ _ hyy]; exact hy
    simp [Instr.lookup, run_underlying ht, MapKept.run_getObj_map hb, E.keyed.check w _ hl, h1, Result.andThen, hs, hv e he]
theorem MapK.put {α : Type} [DecidableEq α] {E : KeyEnc α} {t : TypeId} (ht : Tryz.prog.underlying t = some (.map E.K 4)) {w : World} {b : Nat} {s : List α} (h : MapK E w b s) (x : α) (hx : E.ok x) :
    ∃ w', (Instr.mapUpdate t (.map (some b)) (E.enc x) (.bool true)).run Tryz.prog w = .ok () w' ∧ MapK E w' b (if x ∈ s then s else s ++ [x]) ∧ w.mapTurned w' b := by
  obtain ⟨es, clock, hb, hk, hv, hw, hn, hst⟩ := h
  obtain ⟨l, hl⟩ := E.key x hx
  rcases E.keyed.find w hl es.toList (MapK.keys hk hw) with ⟨h1, h2⟩ | ⟨j, e, h1, h2, h3⟩
  · have hns : x ∉ s := by
      intro hm
      have : E.enc x ∈ es.toList.map (·.key) := by rw [hk]; exact List.mem_map_of_mem hm
      obtain ⟨e, he, hee⟩ := List.mem_map.mp this
      exact h2 e he hee
    rw [if_neg hns]
    refine ⟨setBlock w b (.map (es.push { key := E.enc x, val := .bool true, born := clock }) (clock + 1)), ?_, ⟨_, _, heap_setBlock_same hb _, by simp [hk], ?_, ?_, ?_, stamped_push hst h2⟩, ⟨es, clock, _, _, hb, rfl⟩⟩
    · simp [Instr.mapUpdate, run_underlying ht, MapKept.run_getObj_map hb, E.keyed.check w _ hl, h1, MapKept.run_setObj_map _ hb, Result.andThen, setBlock]
    · intro e he
      simp at he
      rcases he with he | rfl
      · exact hv e (by simpa using he)
      · rfl
    · intro y hy
      rcases List.mem_append.mp hy with hy | hy
      · exact hw y hy
      · have : y = x := by simpa using hy
        rw [this]; exact hx
    · rw [List.nodup_append]
      refine ⟨hn, by simp, ?_⟩
      intro a ha c hc
      have : c = x := by simpa using hc
      rw [this]; intro e; exact hns (e ▸ ha)
  · have he := List.mem_of_getElem? h2
    have hs : x ∈ s := by
      have : e.key ∈ es.toList.map (·.key) := List.mem_map_of_mem he
      rw [hk, h3] at this
      obtain ⟨y, hy, hyy⟩ := List.mem_map.mp this
      rw [← E.inj _ _ hyy]; exact hy
    rw [if_pos hs]
    have hj : es[j]? = some e := by simpa using h2
    have hee : ({ e with key := E.enc x, val := .bool true } : MapEntry) = e := by
      cases e; simp at h3; have := hv _ he; simp at this; simp [h3, this]
    have hmod : es.modify j (fun e => { e with key := E.enc x, val := .bool true }) = es := by
      apply Array.ext_getElem?
      intro i
      rw [Array.getElem?_modify]
      split
      · rename_i h; subst h; rw [hj]; simp [hee]
      · rfl
    refine ⟨setBlock w b (.map es clock), ?_, ⟨es, clock, heap_setBlock_same hb _, hk, hv, hw, hn, hst⟩, ⟨es, clock, _, _, hb, rfl⟩⟩
    have hst2 := E.keyed.stays w hl
    have hkey : (((es[j]?).map (·.key)).getD (E.enc x)) = E.enc x := by rw [hj]; simp [h3]
    simp [Instr.mapUpdate, run_underlying ht, MapKept.run_getObj_map hb, E.keyed.check w _ hl, h1, hj, h3, hst2, hmod, MapKept.run_setObj_map _ hb, Result.andThen, setBlock]
section
variable (w : World) {ops : Array Oper} {rest : List Oper} {o : Oper} {a : Act} {Q : Exit → Act → World → Prop} {α : Type} [DecidableEq α] {E : KeyEnc α}
theorem wpList_lookK {t : TypeId} (ht : Tryz.prog.underlying t = some (.map E.K 4)) (hg : o.guard = none) (m x : Operand) (hop : o.op = Op.lookup t m x false) (b : Nat) (s : List α) (k : α) (bd : Bool) (hbd : bd = true ↔ k ∈ s) (hm : a.eval m = .map (some b)) (hx : a.eval x = E.enc k) (h : MapK E w b s) (hk : E.ok k)
    (hK : wpList Tryz.prog ops Q rest (a.put o.dst (.bool bd)) w) : wpList Tryz.prog ops Q (o :: rest) a w := by
  refine wpList_plain hg fun K' hK' => ?_
  have hrun := h.look ht k hk
  have hb : decide (k ∈ s) = bd := by
    cases bd
    · exact decide_eq_false fun h => by have := hbd.2 h; cases this
    · exact decide_eq_true (hbd.1 rfl)
  rw [hb] at hrun
  unfold Oper.wp
  simp [execOp, hop, hm, hx, hrun, Result.andThen]
  exact hK' _ _ hK
theorem wpList_layK {t : TypeId} (ht : Tryz.prog.underlying t = some (.map E.K 4)) (hg : o.guard = none) (m x v : Operand) (hop : o.op = Op.mapUpdate t m x v) (b : Nat) (s s' : List α) (k : α) (hs : (k ∈ s ∧ s' = s) ∨ (k ∉ s ∧ s' = s ++ [k])) (hm : a.eval m = .map (some b)) (hx : a.eval x = E.enc k) (hv : a.eval v = .bool true) (h : MapK E w b s) (hk : E.ok k)
    (hK : ∀ w', MapK E w' b s' → w.mapTurned w' b → wpList Tryz.prog ops Q rest (a.put o.dst undef) w') : wpList Tryz.prog ops Q (o :: rest) a w := by
  refine wpList_plain hg fun K' hK' => ?_
  obtain ⟨w', hrun, h1, h2⟩ := h.put ht k hk
  have e : (if k ∈ s then s else s ++ [k]) = s' := by
    rcases hs with ⟨h, rfl⟩ | ⟨h, rfl⟩
    · rw [if_pos h]
    · rw [if_neg h]
  rw [e] at h1
  unfold Oper.wp
  simp [execOp, hop, hm, hx, hv, hrun, Result.andThen]
  exact hK' _ _ (hK w' h1 h2)
end
theorem turned_grown {w w' : World} {b : Nat} (h : w.mapTurned w' b) : w.grownBy w' (some b) := by
  obtain ⟨es, clock, es', clock', hb, rfl⟩ := h
  exact ⟨rfl, rfl, rfl, by simp [setBlock], fun i hi hne => by
    have hne' : b ≠ i := fun e => hne (by rw [e])
    simp only [setBlock]
    rw [Array.getElem?_setIfInBounds_ne hne']⟩
def strKey : KeyEnc ByteArray where
  K := 9
  enc := Value.string
  ok := fun s => s.size ≤ maxLen
  keyed := Maps.string_keyed (by kernel_rfl)
  key := fun x hx => ⟨_, Go.WideMaps.keyOf_string_mk (by kernel_rfl) hx⟩
  inj := fun x y h => by injection h
end Go.Proofs.YtnnkfgekiaaehaaGreat
