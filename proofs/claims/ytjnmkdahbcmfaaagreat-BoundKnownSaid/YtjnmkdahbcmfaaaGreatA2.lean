/- Walks and plain laws, part 2 of 8: follow.all: the walk; follow.Of; FOLLOW of a given grammar, reckoned; the chapter's example; Productions of the call's own; The kit's OwnGrammar; The kit's Any; look.Check; look.of and look.Check: no draw is taken back (tools/mkWg.py); look.right at right looks: no draw taken back; look.Compare at right looks: no draw taken back; the order of first.sorted, and slices.SortFunc with it; maps.Keys over the looks of a map, as an iterator; maps.Keys over the looks of a map, as an iterator: its contract; slices.AppendSeq(nil, maps.Keys(m)) over looks; slices.AppendSeq(nil, seq) and slices.Collect over looks, for whatever iterator; Helpers that make walks short; slices.Values over looks; first.sorted; FIRST of the program, plainly: sets of looks as predicates; first: then; first.sorted: a closure over the sorted slice. Conditions: none beyond those that each theorem states. -/
import Derived.Test.YtjnmkdahbcmfaaaGreatA1
import Derived.Deep.OwnRows
import Derived.WalkMore
import Derived.Deep.RegionHeld3
import Derived.Deep.LoopGhost
import Derived.Laws.IdiomStrings
import Derived.Laws.CopyOwn
import Derived.RangeFuncNested
import Derived.RangeFuncBound
import Derived.RangeFuncCalls
import Derived.RangeFuncLeaves
import Derived.RangeFuncBox
import Derived.Shelf.Abstract
import Derived.Shelf.RegionOpen
import Derived.OwnWalkIn
import Derived.TacticsInMore
import Derived.LoopNIn
import Derived.LoopIn
import Derived.Sort.MapsRangeIn
import Derived.Sort.LoopGhostIn
/- follow.all: the walk. -/
namespace Go.Proofs.YtjnmkdahbcmfaaaGreat
open Go.RowKit Go.Shelf Go.ChangeShapes Go.WideShapes Go.ChangeAt
set_option linter.unusedVariables false
attribute [local go_sem] Oper.semAt_some
def ClU (g : Gr) (k : Nat) (ss fs : List (List Lk)) (u : Nat × Nat × Int) : Prop := ∀ z ∈ usesL k ss fs (g.prods.getD u.1 default) u.2.1, z ∈ fs.getD (u.2.2 - 16).toNat []
def AI (w : World) (g : Gr) (a : GA) (n bo fo k : Nat) (ss fs0 : List (List Lk)) (mbs Ds : List Nat) (b5 B : Nat) {q : Int → Bool} {vs : List PV} (pre : List (UseT q vs)) (W : World) : Prop :=
  ∃ (fs : List (List Lk)) (gr : Bool), AF w g a n bo fo ss W ∧ SetsM W fo n mbs fs ∧ Blk W b5 4 #[.bool gr] ∧ MarksOk W fo Ds ∧ B ≤ W.heap.size ∧ Hid (fs.length = n) ∧ Hid (SetsFit k fs) ∧ Hid (SoundO g.prods k g.start fs) ∧ Hid (Lk.of [] ∈ fs.getD (g.start - 16).toNat []) ∧
    Hid (if gr then tot fs0 < tot fs else fs = fs0 ∧ ∀ u ∈ pre, ClU g k ss fs0 u.1)
theorem AI.own {w : World} {g : Gr} {a : GA} {n bo fo k : Nat} {ss fs0 : List (List Lk)} {mbs Ds : List Nat} {b5 B : Nat} {q : Int → Bool} {vs : List PV} (h1 : fo < B) (h2 : ∀ m ∈ mbs, m < B) (h3 : b5 < B) (h4 : ∀ D ∈ Ds, D < B) :
    OwnFrom B (fun (pre : List (UseT q vs)) W => AI w g a n bo fo k ss fs0 mbs Ds b5 B pre W) := by
  rintro s X Y row ⟨fs, gr, c1, c2, c3, c4, c5, c6⟩ hg hr
  refine ⟨fs, gr, c1.low (below_of_grown hg (fun r e => by have := (hr r e).1; omega) c1.2.2.2.2.2), c2.grown hg (fun e => by have := (hr _ e).1; omega) (fun m hm e => by have := (hr _ e).1; have := h2 m hm; omega),
    c3.grown hg (fun e => by have := (hr _ e.symm).1; omega), ⟨c4.1, fun D hD => ⟨(c4.2 D hD).1, (hg.block D (Array.getElem?_eq_some_iff.1 (c4.2 D hD).2).1 (fun e => by have := (hr _ e.symm).1; have := h4 D hD; omega)).trans (c4.2 D hD).2⟩⟩, Nat.le_trans c5 hg.size, c6⟩
theorem MarksOk.step {W W' : World} {lo : Nat} {Ds : List Nat} (h : MarksOk W lo Ds) (hb : Below W.heap.size W W') : MarksOk W' lo Ds :=
  ⟨h.1, fun D hD => ⟨(h.2 D hD).1, (hb.block D (Array.getElem?_eq_some_iff.1 (h.2 D hD).2).1).trans (h.2 D hD).2⟩⟩
theorem AI.step {w : World} {g : Gr} {a : GA} {n bo fo k : Nat} {ss fs0 : List (List Lk)} {mbs Ds : List Nat} {b5 B : Nat} {q : Int → Bool} {vs : List PV} {pre : List (UseT q vs)} {W W' : World} (h : AI w g a n bo fo k ss fs0 mbs Ds b5 B pre W) (hb : Below W.heap.size W W') : AI w g a n bo fo k ss fs0 mbs Ds b5 B pre W' := by
  obtain ⟨fs, gr, c1, c2, c3, c4, c5, c6⟩ := h
  exact ⟨fs, gr, c1.step hb, c2.step hb, c3.step hb, c4.step hb, Nat.le_trans c5 hb.size, c6⟩
end Go.Proofs.YtjnmkdahbcmfaaaGreat

/- follow.Of. -/
namespace Go.Proofs.YtjnmkdahbcmfaaaGreat
open Go.ChangeShapes Go.WideShapes Go.ChangeAt Go.RowKit
set_option linter.unusedVariables false
theorem MapK.len {w : World} {b : Nat} {s : List Lk} (h : MapK lookKey w b s) (ty : TypeId) : (Builtin.len_ #[287] ty #[.map (some b)]).run Tryz.prog w = .ok (.int .i64 s.length) w := by
  obtain ⟨es, clock, hb, hk, hv, hw, hn, hst⟩ := h
  have e : es.size = s.length := by
    have := congrArg List.length hk
    simpa using this
  simp [Builtin.len_, run_underlying under67, MapKept.run_getObj_map hb, goInt, Result.andThen, e]
end Go.Proofs.YtjnmkdahbcmfaaaGreat

/- FOLLOW of a given grammar, reckoned; the chapter's example. -/
namespace Go.Proofs.YtjnmkdahbcmfaaaGreat
set_option linter.unusedVariables false
def stepF (k : Nat) (ss : List (List Lk)) (p : Pr) : List (List Lk) := ss.set (p.left - 16).toNat (newS k ss p)
def runF (k : Nat) (ps : List Pr) : Nat → List (List Lk) → List (List Lk)
  | 0, ss => ss
  | m + 1, ss => runF k ps m (ps.foldl (stepF k) ss)
end Go.Proofs.YtjnmkdahbcmfaaaGreat

/- Productions of the call's own. -/
namespace Go.Proofs.YtjnmkdahbcmfaaaGreat
open Go.ChangeShapes Go.WideShapes Go.ChangeAt Go.RowKit
set_option linter.unusedVariables false
def RtAt (W : World) (base : Nat) (RA : Option Addr) (c : Nat) (l : List Int) : Prop :=
  l.length ≤ c ∧ c ≤ maxLen ∧ (l = [] ∨ ∃ b off cs, RA = some ⟨b, off, none⟩ ∧ base ≤ b ∧ Blk W b 3 cs ∧ ∀ (i : Nat) (v : Value), (ints l)[i]? = some v → cs[off + i]? = some v)
theorem RtAt.of {W : World} {base : Nat} {v : Value} {l : List Int} (h : Own1 W base 3 v (ints l)) : ∃ RA c, v = .slice RA l.length c ∧ RtAt W base RA c l := by
  have hl : (ints l).length = l.length := by simp [ints]
  rcases h.2 with ⟨rfl, h0⟩ | ⟨g, cap, cur, rfl, hb, hg, hnc, hcm, hcs, ht⟩
  · have : l = [] := List.eq_nil_of_length_eq_zero (by omega)
    subst this
    exact ⟨none, 0, rfl, Nat.le_refl _, by simp [maxLen], .inl rfl⟩
  · rw [hl] at hnc ⊢
    refine ⟨some ⟨g, 0, none⟩, cap, rfl, hnc, hcm, .inr ⟨g, 0, cur, rfl, hb, hg, fun i x hx => ?_⟩⟩
    have hlt := (List.getElem?_eq_some_iff.1 hx).1
    rw [← ht, List.getElem?_take, if_pos (by omega)] at hx
    rw [Nat.zero_add]
    simpa using hx
theorem RtAt.step {W W' : World} {base : Nat} {RA : Option Addr} {c : Nat} {l : List Int} (h : RtAt W base RA c l) (hb : Below W.heap.size W W') : RtAt W' base RA c l := by
  obtain ⟨h1, h2, h3⟩ := h
  refine ⟨h1, h2, h3.imp id ?_⟩
  rintro ⟨b, off, cs, e, e1, e2, e3⟩
  exact ⟨b, off, cs, e, e1, e2.step hb, e3⟩
theorem RtAt.grown {W W' : World} {base : Nat} {RA : Option Addr} {c : Nat} {l : List Int} {row : Option Nat} (h : RtAt W base RA c l) (hg : W.grownBy W' row) (hne : ∀ g cs, row = some g → ¬ Blk W g 3 cs) : RtAt W' base RA c l := by
  obtain ⟨h1, h2, h3⟩ := h
  refine ⟨h1, h2, h3.imp id ?_⟩
  rintro ⟨b, off, cs, e, e1, e2, e3⟩
  exact ⟨b, off, cs, e, e1, e2.grown hg (fun e' => hne b cs e'.symm e2), e3⟩
theorem RtAt.reads {W : World} {base : Nat} {RA : Option Addr} {c : Nat} {l : List Int} (h : RtAt W base RA c l) : Rd1 W W.heap.size RA l.length (ints l) := by
  refine ⟨by simp [ints], ?_⟩
  rcases h.2.2 with rfl | ⟨b, off, cs, rfl, e1, e2, e3⟩
  · exact .inl rfl
  · exact .inr ⟨b, off, rfl, e2.lt, fun i v hv => by rw [e2.cell]; exact e3 i v hv⟩
def cellsP : List Pr → List (Option Addr × Nat) → List Value
  | p :: ps, r :: rs => .int .i64 p.left :: .slice r.1 p.right.length r.2 :: cellsP ps rs
  | _, _ => []
theorem cellsP_get : ∀ (ps : List Pr) (rs : List (Option Addr × Nat)) (i : Nat) (p : Pr) (r : Option Addr × Nat), ps[i]? = some p → rs[i]? = some r → (cellsP ps rs)[i * 2]? = some (.int .i64 p.left) ∧ (cellsP ps rs)[i * 2 + 1]? = some (.slice r.1 p.right.length r.2)
  | [], _, i, p, r, h, _ => by simp at h
  | _ :: _, [], i, p, r, _, h => by simp at h
  | p0 :: ps, r0 :: rs, 0, p, r, h, h' => by simp at h h'; subst h; subst h'; exact ⟨rfl, rfl⟩
  | p0 :: ps, r0 :: rs, i + 1, p, r, h, h' => by
    have := cellsP_get ps rs i p r (by simpa using h) (by simpa using h')
    rw [show (i + 1) * 2 = i * 2 + 1 + 1 by omega]
    exact this
def PsR (W : World) (base : Nat) (v : Value) (ps : List Pr) (rs : List (Option Addr × Nat)) : Prop :=
  ps.length = rs.length ∧ W.ownsRow base 61 2 v ps.length (cellsP ps rs) ∧ ∀ (i : Nat) (p : Pr) (r : Option Addr × Nat), ps[i]? = some p → rs[i]? = some r → RtAt W base r.1 r.2 p.right
def PsO (W : World) (base : Nat) (v : Value) (ps : List Pr) : Prop := ∃ rs, PsR W base v ps rs
theorem PsO.nil (W : World) (base : Nat) : PsO W base (.slice none 0 0) [] := ⟨[], rfl, World.ownsRow_nil W base 61 2, by simp⟩
theorem row_step {W W' : World} {base : Nat} {e : TypeId} {size : Nat} {v : Value} {n : Nat} {xs : List Value} (h : W.ownsRow base e size v n xs) (hb : Below W.heap.size W W') : W'.ownsRow base e size v n xs := by
  refine ⟨h.1, ?_⟩
  rcases h.2 with hn | ⟨g, cap, cur, rfl, hg0, hg, rest⟩
  · exact .inl hn
  · exact .inr ⟨g, cap, cur, rfl, hg0, (hb.block g (Array.getElem?_eq_some_iff.1 hg).1).trans hg, rest⟩
theorem row_grown {W W' : World} {base : Nat} {e : TypeId} {size : Nat} {v : Value} {n : Nat} {xs : List Value} {row : Option Nat} (h : W.ownsRow base e size v n xs) (hg : W.grownBy W' row) (hne : ∀ g cs, row = some g → ¬ Blk W g e cs) : W'.ownsRow base e size v n xs := by
  refine ⟨h.1, ?_⟩
  rcases h.2 with hn | ⟨g, cap, cur, rfl, hg0, hg', rest⟩
  · exact .inl hn
  · exact .inr ⟨g, cap, cur, rfl, hg0, (hg.block g (Array.getElem?_eq_some_iff.1 hg').1 (fun e' => hne g cur e'.symm hg')).trans hg', rest⟩
theorem PsO.step {W W' : World} {base : Nat} {v : Value} {ps : List Pr} (h : PsO W base v ps) (hb : Below W.heap.size W W') : PsO W' base v ps := by
  obtain ⟨rs, h1, h2, h3⟩ := h
  exact ⟨rs, h1, row_step h2 hb, fun i p r a b => (h3 i p r a b).step hb⟩
theorem PsO.grown {W W' : World} {base : Nat} {v : Value} {ps : List Pr} {row : Option Nat} (h : PsO W base v ps) (hg : W.grownBy W' row) (h3' : ∀ g cs, row = some g → ¬ Blk W g 3 cs) (h59 : ∀ g cs, row = some g → ¬ Blk W g 61 cs) : PsO W' base v ps := by
  obtain ⟨rs, h1, h2, h3⟩ := h
  exact ⟨rs, h1, row_grown h2 hg h59, fun i p r a b => (h3 i p r a b).grown hg h3'⟩
theorem PsO.mono {W : World} {base b' : Nat} {v : Value} {ps : List Pr} (h : PsO W base v ps) (hb : b' ≤ base) : PsO W b' v ps := by
  obtain ⟨rs, h1, h2, h3⟩ := h
  refine ⟨rs, h1, ⟨h2.1, ?_⟩, fun i p r a b => ?_⟩
  · rcases h2.2 with hn | ⟨g, cap, cur, rfl, hg0, rest⟩
    · exact .inl hn
    · exact .inr ⟨g, cap, cur, rfl, by omega, rest⟩
  · obtain ⟨c1, c2, c3⟩ := h3 i p r a b
    refine ⟨c1, c2, c3.imp id ?_⟩
    rintro ⟨b, off, cs, e, e1, e2, e3⟩
    exact ⟨b, off, cs, e, by omega, e2, e3⟩
theorem own_blk {W : World} {base : Nat} {e : TypeId} {size : Nat} {v : Value} {n : Nat} {xs : List Value} (h : W.ownsRow base e size v n xs) {g : Nat} (hg : v.ownBlock = some g) : ∃ cs, Blk W g e cs := by
  rcases h.2 with ⟨rfl, _⟩ | ⟨g', cap, cur, rfl, _, hb, _⟩
  · simp [Value.ownBlock] at hg
  · simp [Value.ownBlock] at hg; subst hg; exact ⟨cur, hb⟩
theorem blk_type {W : World} {g : Nat} {t t' : TypeId} {cs cs' : Array Value} (h : Blk W g t cs) (h' : Blk W g t' cs') : t = t' := by
  unfold Blk at h h'; rw [h] at h'; injection h' with h'; injection h'
theorem PsO.reads {W : World} {base : Nat} {v : Value} {ps : List Pr} (h : PsO W base v ps) : ∃ A c, v = .slice A ps.length c ∧ RdP W W.heap.size A ps.length ps ∧ ps.length ≤ c ∧ c ≤ maxLen := by
  obtain ⟨rs, h1, h2, h3⟩ := h
  rcases h2.2 with ⟨rfl, h0⟩ | ⟨g, cap, cur, rfl, hb, hg, hnc, hcm, hcs, ht⟩
  · exact ⟨none, 0, by rw [h0], ⟨rfl, .inl h0⟩, by omega, by simp [maxLen]⟩
  · refine ⟨some ⟨g, 0, none⟩, cap, rfl, ⟨rfl, .inr ⟨g, 0, rfl, (Array.getElem?_eq_some_iff.1 hg).1, fun i p hp => ?_⟩⟩, hnc, hcm⟩
    have hi := (List.getElem?_eq_some_iff.1 hp).1
    have hri : rs[i]? = some rs[i] := List.getElem?_eq_getElem (by omega)
    obtain ⟨d1, d2⟩ := cellsP_get ps rs i p _ hp hri
    rw [← ht, List.getElem?_take, if_pos (by omega)] at d1 d2
    have hr := h3 i p _ hp hri
    refine ⟨?_, _, _, ?_, hr.reads, hr.1, hr.2.1⟩
    · rw [cell_of_row W g _ cur 61 (0, 0) hg, Nat.zero_add]; simpa using d1
    · rw [cell_of_row W g _ cur 61 (0, 0) hg, Nat.zero_add]; simpa using d2
end Go.Proofs.YtjnmkdahbcmfaaaGreat

/- The kit's OwnGrammar. -/
namespace Go.Proofs.YtjnmkdahbcmfaaaGreat
open Go.ChangeShapes Go.WideShapes Go.ChangeAt Go.RowKit
set_option linter.unusedVariables false
section
variable (w : World) {ops : Array Oper} {rest : List Oper} {o : Oper} {a : Act} {K : Act → World → Prop} {Q : Exit → Act → World → Prop}
end
theorem grownBy_setC' (w : World) (b i : Nat) (v : Value) : w.grownBy (w.setCell ⟨b, i, none⟩ v) (some b) :=
  ⟨rfl, rfl, rfl, by simp, fun k hk hne => Below.heap_setCell w ⟨b, i, none⟩ v k (fun e => hne (by rw [e]))⟩
def ogc (g : Gr) (tv nv pv : Value) : Array Value := #[.int .i64 g.k, tv, .string g.sep, nv, .int .i64 g.start, pv]
def OG (w : World) (g : Gr) (a : GA) (tv nv pv : Value) (W : World) : Prop :=
  GrAt W w.heap.size g a ∧ Blk W w.heap.size 25 (ogc g tv nv pv) ∧ Blk W (w.heap.size + 1) 25 #[.int .i64 0, .slice none 0 0, .string ByteArray.empty, .slice none 0 0, .int .i64 0, .slice none 0 0] ∧ Own1 W (w.heap.size + 2) 9 tv (strs g.toks) ∧ Own1 W (w.heap.size + 2) 9 nv (strs g.names) ∧ Below w.heap.size w W
theorem OG.step {w : World} {g : Gr} {a : GA} {tv nv pv : Value} {W W' : World} (h : OG w g a tv nv pv W) (hb : Below W.heap.size W W') : OG w g a tv nv pv W' := by
  obtain ⟨h1, h2, h3, h4, h5, h6⟩ := h
  exact ⟨h1.below (hb.mono h6.size), h2.step hb, h3.step hb, h4.step hb, h5.step hb, bStep h6 hb⟩
theorem OG.grown {w : World} {g : Gr} {a : GA} {tv nv pv : Value} {W W' : World} {row : Option Nat} (h : OG w g a tv nv pv W) (hg : W.grownBy W' row) (hr : ∀ r, row = some r → w.heap.size + 2 ≤ r ∧ ∃ cs, Blk W r 61 cs) : OG w g a tv nv pv W' := by
  obtain ⟨h1, h2, h3, h4, h5, h6⟩ := h
  have hb : Below w.heap.size W W' := ⟨hg.os, hg.tape, hg.output, hg.size, fun k hk => hg.block k (by have := h6.size; omega) (fun e => by have := (hr k e.symm).1; omega)⟩
  have h9 : ∀ b cs, row = some b → ¬ Blk W b 9 cs := fun b cs e hq => by obtain ⟨_, cs', hq'⟩ := hr b e; cases blk_type hq hq'
  exact ⟨h1.below hb, h2.grown hg (fun e => by have := (hr _ e.symm).1; omega), h3.grown hg (fun e => by have := (hr _ e.symm).1; omega), row_grown h4 hg h9, row_grown h5 hg h9, h6.trans hb⟩
theorem OG.own {w : World} {g : Gr} {a : GA} {tv nv pv : Value} {W W' : World} (h : OG w g a tv nv pv W) {v : Value} {n : Nat} {xs : List Value} (hr : W.ownsRow (w.heap.size + 2) 61 2 v n xs) (hg : W.grownBy W' v.ownBlock) : OG w g a tv nv pv W' :=
  h.grown hg fun r e => ⟨(own_in hr r e).1, own_blk hr e⟩
theorem RtAt.mono {W : World} {base b' : Nat} {RA : Option Addr} {c : Nat} {l : List Int} (h : RtAt W base RA c l) (hb : b' ≤ base) : RtAt W b' RA c l := by
  obtain ⟨c1, c2, c3⟩ := h
  refine ⟨c1, c2, c3.imp id ?_⟩
  rintro ⟨b, off, cs, e, e1, e2, e3⟩
  exact ⟨b, off, cs, e, by omega, e2, e3⟩
end Go.Proofs.YtjnmkdahbcmfaaaGreat

/- The kit's Any. -/
namespace Go.Proofs.YtjnmkdahbcmfaaaGreat
open Go.ChangeShapes Go.WideShapes Go.ChangeAt Go.RowKit
set_option linter.unusedVariables false
def YI (w : World) (K : Int) (t : Nat) (NA : Option Addr) (nk : Nat) (PA : Option Addr) (pk : Nat) (ns : List ByteArray) (ps : List Pr) (W : World) : Prop :=
  Blk W w.heap.size 25 #[.int .i64 0, .slice none 0 0, .string ByteArray.empty, .slice none 0 0, .int .i64 0, .slice none 0 0] ∧ Blk W (w.heap.size + 1) 9 #[.string { data := #[97] }, .string { data := #[98] }] ∧
    Blk W (w.heap.size + 2) 25 #[.int .i64 K, .slice (some ⟨w.heap.size + 1, 0, none⟩) t 2, .string { data := #[122] }, .slice NA ns.length nk, .int .i64 16, .slice PA ps.length pk] ∧
    Own1 W (w.heap.size + 3) 9 (.slice NA ns.length nk) (strs ns) ∧ PsO W (w.heap.size + 3) (.slice PA ps.length pk) ps ∧ Below w.heap.size w W
theorem YI.step {w : World} {K : Int} {t : Nat} {NA : Option Addr} {nk : Nat} {PA : Option Addr} {pk : Nat} {ns : List ByteArray} {ps : List Pr} {W W' : World} (h : YI w K t NA nk PA pk ns ps W) (hb : Below W.heap.size W W') : YI w K t NA nk PA pk ns ps W' := by
  obtain ⟨h1, h2, h3, h4, h5, h6⟩ := h
  exact ⟨h1.step hb, h2.step hb, h3.step hb, h4.step hb, h5.step hb, bStep h6 hb⟩
theorem YI.box {w : World} {K : Int} {t : Nat} {NA : Option Addr} {nk : Nat} {PA : Option Addr} {pk : Nat} {ns : List ByteArray} {ps : List Pr} {W W1 : World} {row : Option Nat} (h : YI w K t NA nk PA pk ns ps W) (hg : W.grownBy W1 row) (hr : ∀ r, row = some r → w.heap.size + 3 ≤ r) (j : Nat) :
    W1.cell? ⟨w.heap.size + 2, j, none⟩ = W.cell? ⟨w.heap.size + 2, j, none⟩ ∧ W1.frozen? ⟨w.heap.size + 2, j, none⟩ = false := by
  have h3 := h.2.2.1.grown hg (fun e => by have := hr _ e.symm; omega)
  exact ⟨by rw [h3.cell, h.2.2.1.cell], h3.frozen j⟩
theorem YI.names {w : World} {K : Int} {t : Nat} {NA NA2 : Option Addr} {nk nk2 : Nat} {PA : Option Addr} {pk : Nat} {ns : List ByteArray} {s : ByteArray} {ps : List Pr} {W W1 : World} (h : YI w K t NA nk PA pk ns ps W) (hg : W.grownBy W1 (Value.slice NA ns.length nk).ownBlock) (ho : Own1 W1 (w.heap.size + 3) 9 (.slice NA2 (ns ++ [s]).length nk2) (strs (ns ++ [s]))) :
    YI w K t NA2 nk2 PA pk (ns ++ [s]) ps (W1.setCell ⟨w.heap.size + 2, 3, none⟩ (.slice NA2 (ns ++ [s]).length nk2)) := by
  obtain ⟨h1, h2, h3, h4, h5, h6⟩ := h
  have hlo : ∀ r, (Value.slice NA ns.length nk).ownBlock = some r → w.heap.size + 3 ≤ r := fun r e => (own_in h4 r e).1
  have h3' := h3.grown hg (fun e => by have := hlo _ e.symm; omega)
  have hty : ∀ (e : TypeId), e ≠ 9 → ∀ (b : Nat) (cs : Array Value), (Value.slice NA ns.length nk).ownBlock = some b → ¬ Blk W b e cs := fun e he b cs e1 hq => by obtain ⟨cs', hq'⟩ := own_blk h4 e1; exact he (blk_type hq hq')
  have hst := grownBy_setC' W1 (w.heap.size + 2) 3 (.slice NA2 (ns ++ [s]).length nk2)
  have hty2 : ∀ (e : TypeId), e ≠ 25 → ∀ (b : Nat) (cs : Array Value), some (w.heap.size + 2) = some b → ¬ Blk W1 b e cs := fun e he b cs e1 hq => by injection e1 with e1; subst e1; exact he (blk_type hq h3')
  have hb : Below w.heap.size W W1 := ⟨hg.os, hg.tape, hg.output, hg.size, fun k hk => hg.block k (by have := h6.size; omega) (fun e => by have := hlo _ e.symm; omega)⟩
  exact ⟨(h1.grown hg (fun e => by have := hlo _ e.symm; omega)).far (by simp) _, (h2.grown hg (fun e => by have := hlo _ e.symm; omega)).far (by simp) _, h3'.put 3 _, row_grown ho hst (hty2 9 (by decide)), (h5.grown hg (hty 3 (by decide)) (hty 61 (by decide))).grown hst (hty2 3 (by decide)) (hty2 61 (by decide)), bSet (h6.trans hb) _ _ (by simp)⟩
theorem YI.prods {w : World} {K : Int} {t : Nat} {NA PA2 : Option Addr} {nk pk2 : Nat} {PA : Option Addr} {pk : Nat} {ns : List ByteArray} {ps qs : List Pr} {W W1 : World} (h : YI w K t NA nk PA pk ns ps W) (hg : W.grownBy W1 (Value.slice PA ps.length pk).ownBlock) (ho : PsO W1 (w.heap.size + 3) (.slice PA2 qs.length pk2) qs) :
    YI w K t NA nk PA2 pk2 ns qs (W1.setCell ⟨w.heap.size + 2, 5, none⟩ (.slice PA2 qs.length pk2)) := by
  obtain ⟨h1, h2, h3, h4, h5, h6⟩ := h
  obtain ⟨rs, hpr⟩ := h5
  have hlo : ∀ r, (Value.slice PA ps.length pk).ownBlock = some r → w.heap.size + 3 ≤ r := fun r e => (own_in hpr.2.1 r e).1
  have h3' := h3.grown hg (fun e => by have := hlo _ e.symm; omega)
  have hty : ∀ (e : TypeId), e ≠ 61 → ∀ (b : Nat) (cs : Array Value), (Value.slice PA ps.length pk).ownBlock = some b → ¬ Blk W b e cs := fun e he b cs e1 hq => by obtain ⟨cs', hq'⟩ := own_blk hpr.2.1 e1; exact he (blk_type hq hq')
  have hst := grownBy_setC' W1 (w.heap.size + 2) 5 (.slice PA2 qs.length pk2)
  have hty2 : ∀ (e : TypeId), e ≠ 25 → ∀ (b : Nat) (cs : Array Value), some (w.heap.size + 2) = some b → ¬ Blk W1 b e cs := fun e he b cs e1 hq => by injection e1 with e1; subst e1; exact he (blk_type hq h3')
  have hb : Below w.heap.size W W1 := ⟨hg.os, hg.tape, hg.output, hg.size, fun k hk => hg.block k (by have := h6.size; omega) (fun e => by have := hlo _ e.symm; omega)⟩
  exact ⟨(h1.grown hg (fun e => by have := hlo _ e.symm; omega)).far (by simp) _, (h2.grown hg (fun e => by have := hlo _ e.symm; omega)).far (by simp) _, h3'.put 5 _, row_grown (row_grown h4 hg (hty 9 (by decide))) hst (hty2 9 (by decide)), ho.grown hst (hty2 3 (by decide)) (hty2 61 (by decide)), bSet (h6.trans hb) _ _ (by simp)⟩
end Go.Proofs.YtjnmkdahbcmfaaaGreat

/- look.Check. -/
namespace Go.Proofs.YtjnmkdahbcmfaaaGreat
open Go.ChangeShapes Go.WideShapes Go.ChangeAt Go.RowKit
set_option linter.unusedVariables false
theorem splice_of (l : List Int) (h : l.length ≤ 4) : (splice [Value.int .i64 0, .int .i64 0, .int .i64 0, .int .i64 0, .int .i64 0] 1 (ints l)).toArray = #[.int .i64 0, .int .i64 (Lk.of l).a, .int .i64 (Lk.of l).b, .int .i64 (Lk.of l).c, .int .i64 (Lk.of l).d] := by
  match l, h with
  | [], _ => rfl
  | [a], _ => rfl
  | [a, b], _ => rfl
  | [a, b, c], _ => rfl
  | [a, b, c, d], _ => rfl
  | a :: b :: c :: d :: e :: l, h => exfalso; simp at h
theorem size3 : (Tryz.prog.info? 3).map (·.size) = some 1 := by kernel_rfl
theorem pad_of {x : Lk} (h0 : 0 ≤ x.n) (h4 : x.n ≤ 4) : Lk.of x.l = x ↔ padB x = true := by
  obtain ⟨n, a, b, c, d⟩ := x
  simp only at h0 h4
  obtain ⟨k, rfl⟩ := Int.eq_ofNat_of_zero_le h0
  have : k = 0 ∨ k = 1 ∨ k = 2 ∨ k = 3 ∨ k = 4 := by omega
  rcases this with rfl | rfl | rfl | rfl | rfl <;> simp [Lk.of, Lk.l, padB, List.range_succ, Lk.s] <;> constructor <;> intro h <;> omega
theorem lk_rd {W : World} {g : Nat} {x : Lk} (h : Blk W g 45 x.cells) (k : Nat) (hk : x.n = k) (h4 : k ≤ 4) : Rd1 W W.heap.size (some ⟨g, 1, none⟩) k (ints x.l) := by
  have hl : x.l.length = k := by unfold Lk.l; rw [hk, List.length_take]; simp; omega
  refine ⟨by simp [ints, hl], .inr ⟨g, 1, rfl, h.lt, fun i v hv => ?_⟩⟩
  have hi : i < x.l.length := by have := (List.getElem?_eq_some_iff.1 hv).1; simpa [ints] using this
  rw [h.cell]
  have e : (ints x.l)[i]? = some (.int .i64 (x.s i)) := by
    have h1 : x.l[i]? = some (x.s i) := by
      unfold Lk.l
      rw [hk, List.getElem?_take, if_pos (by simp; omega)]
      rcases i with _ | _ | _ | _ | i <;> first | rfl | omega
    simp [ints, h1]
  rw [e] at hv
  cases hv
  exact Lk.cellAt x i (by omega)
theorem of_wf {x : Lk} (hx : x.wf) (h0 : 0 ≤ x.n) (h4 : x.n ≤ 4) : (Lk.of x.l).wf := by
  obtain ⟨n, a, b, c, d⟩ := x
  obtain ⟨h1, h2, h3, h5, h6⟩ := hx
  simp only at h0 h4 h1 h2 h3 h5 h6
  obtain ⟨k, rfl⟩ := Int.eq_ofNat_of_zero_le h0
  have z : (Lit.int .i64 0).wf = true := by decide
  have : k = 0 ∨ k = 1 ∨ k = 2 ∨ k = 3 ∨ k = 4 := by omega
  rcases this with rfl | rfl | rfl | rfl | rfl <;> exact ⟨h1, by first | exact h2 | exact z, by first | exact h3 | exact z, by first | exact h5 | exact z, by first | exact h6 | exact z⟩
end Go.Proofs.YtjnmkdahbcmfaaaGreat

/- look.of and look.Check: no draw is taken back (tools/mkWg.py). -/
namespace Go.Proofs.YtjnmkdahbcmfaaaGreat
open Go.ChangeShapes Go.WideShapes Go.ChangeAt Go.RowKit Go.Sort
set_option linter.unusedVariables false
structure BelowM (B : Nat) (w w' : World) : Prop where
  b : Below B w w'
  d : w.drawn ≤ w'.drawn
theorem BelowM.refl (B : Nat) (w : World) : BelowM B w w := ⟨Below.refl _ _, Nat.le_refl _⟩
theorem mAlc {W0 W : World} (h : BelowM W0.heap.size W0 W) (o : Obj) : BelowM W0.heap.size W0 (W.alloc o) := ⟨bAlc h.b o, h.d⟩
theorem mStep {W0 W W1 : World} (h : BelowM W0.heap.size W0 W) (h1 : BelowM W.heap.size W W1) : BelowM W0.heap.size W0 W1 := ⟨bStep h.b h1.b, Nat.le_trans h.d h1.d⟩
theorem mSet {W0 W : World} (h : BelowM W0.heap.size W0 W) (p : Addr) (v : Value) (hp : W0.heap.size ≤ p.block) : BelowM W0.heap.size W0 (W.setCell p v) := ⟨bSet h.b p v hp, h.d⟩
theorem mDrw {W0 W : World} (h : BelowM W0.heap.size W0 W) : BelowM W0.heap.size W0 W.drew := ⟨bDrw h.b, Nat.le_succ_of_le h.d⟩
theorem mSet5 {W0 W : World} {g : Nat} (h : BelowM W0.heap.size W0 W) (hg : W0.heap.size ≤ g) (a b c d e : Value) :
    BelowM W0.heap.size W0 (((((W.setCell ⟨g, 0, none⟩ a).setCell ⟨g, 1, none⟩ b).setCell ⟨g, 2, none⟩ c).setCell ⟨g, 3, none⟩ d).setCell ⟨g, 4, none⟩ e) :=
  mSet (mSet (mSet (mSet (mSet h _ _ hg) _ _ hg) _ _ hg) _ _ hg) _ _ hg
theorem drewN_eq (w : World) (q : Nat) : w.drewN q = { w with drawn := w.drawn + q } := by
  induction q with
  | zero => rfl
  | succ q ih => show (w.drewN q).drew = _; rw [ih]; rfl
theorem BelowM.grew {w w' : World} (h : BelowM w.heap.size w w') : Grew w w' := by
  obtain ⟨⟨h1, h2, h3, h4, h5⟩, h6⟩ := h
  refine ⟨w'.drawn - w.drawn, w'.heap.extract w.heap.size w'.heap.size, ?_⟩
  obtain ⟨H, T, D, O, U⟩ := w'
  obtain ⟨H0, T0, D0, O0, U0⟩ := w
  simp only at h1 h2 h3 h4 h5 h6
  subst h1 h2 h3
  rw [drewN_eq]
  unfold grow
  simp only [World.mk.injEq, and_true, true_and]
  refine ⟨?_, by omega⟩
  apply Array.ext_getElem?
  intro i
  by_cases hi : i < H0.size
  · rw [Array.getElem?_append_left hi]; exact h5 i hi
  · rw [Array.getElem?_append_right (by omega), Array.getElem?_extract]
    by_cases hj : i < H.size
    · rw [if_pos (by omega)]; congr 1; omega
    · rw [if_neg (by omega), Array.getElem?_eq_none (by omega)]
theorem copy_lookM {W1 : World} {g B : Nat} (q : Blk W1 g 45 #[.int .i64 0, .int .i64 0, .int .i64 0, .int .i64 0, .int .i64 0]) {A : Option Addr} {n : Nat} (c : Nat) {l : List Int} (h : Rd1 W1 B A n (ints l)) (hn : n ≤ 4) :
    ∃ W2, (Builtin.copy_ #[54, 54] 3 #[.slice (some ⟨g, 1, none⟩) 4 4, .slice A n c]).run Tryz.prog W1 = .ok (.int .i64 n) W2 ∧
      Blk W2 g 45 #[.int .i64 0, .int .i64 (Lk.of l).a, .int .i64 (Lk.of l).b, .int .i64 (Lk.of l).c, .int .i64 (Lk.of l).d] ∧ ∀ W0, BelowM W0.heap.size W0 W1 → W0.heap.size ≤ g → BelowM W0.heap.size W0 W2 := by
  have hl : l.length = n := by have := h.1; simpa [ints] using this
  have hsp := splice_of l (by omega)
  by_cases h0 : n = 0
  · subst h0
    have hln : l = [] := List.eq_nil_of_length_eq_zero hl
    subst hln
    exact ⟨W1, run_copy_none (P := Tryz.prog) W1 54 54 3 3 (some ⟨g, 1, none⟩) A 4 4 0 c under22 size3 (by simp), q, fun W0 hb _ => hb⟩
  · rcases h.2 with h2 | ⟨b, off, rfl, hbt, hc⟩
    · exact absurd h2 h0
    · have hmin : (ints l).length = Nat.min n 4 := by simp only [ints, List.length_map]; rw [hl]; exact (Nat.min_eq_left hn).symm
      have hr := run_copy_row (P := Tryz.prog) W1 54 54 3 3 g 1 4 4 ⟨b, off, none⟩ n c #[.int .i64 0, .int .i64 0, .int .i64 0, .int .i64 0, .int .i64 0] 45 (ints l) under22 size3 q hmin
        (fun j v hv => by
          have hadd : (⟨b, off, none⟩ : Addr).add j = ⟨b, off + j, none⟩ := by unfold Addr.add; split <;> simp_all
          rw [hadd]; exact hc j v hv) (by simp [ints]; omega) (fun v hv => by obtain ⟨z, _, rfl⟩ := List.mem_map.1 hv; rfl)
      have hil : (ints l).length = n := by simp [ints, hl]
      rw [show goInt (ints l).length = Value.int .i64 n by rw [hil]; rfl] at hr
      have e : ((#[Value.int .i64 0, .int .i64 0, .int .i64 0, .int .i64 0, .int .i64 0] : Array Value).toList.take 1 ++ ints l ++ (#[Value.int .i64 0, .int .i64 0, .int .i64 0, .int .i64 0, .int .i64 0] : Array Value).toList.drop (1 + (ints l).length)).toArray = #[.int .i64 0, .int .i64 (Lk.of l).a, .int .i64 (Lk.of l).b, .int .i64 (Lk.of l).c, .int .i64 (Lk.of l).d] := by
        rw [List.append_assoc]; exact hsp
      rw [e] at hr
      exact ⟨_, hr, setRow_heap W1 g _ _ 45 _ q, fun W0 hb hg => ⟨below_setRow hb.b hg _, hb.d⟩⟩
set_option maxRecDepth 100000 in
theorem lookof_m (A : Option Addr) (n c : Nat) (l : List Int) (w : World) (h : Rd1 w w.heap.size A n (ints l)) (hn : n ≤ 4) : Calls Tryz.prog 280 #[.slice A n c] w fun e w' => e = .returned (Lk.of l).v ∧ BelowM w.heap.size w w' := by
  have hl : l.length = n := by have := h.1; simpa [ints] using this
  have hyn : (Lk.of l).n = n := by rw [of_n, hl]
  have hb1 : BelowM w.heap.size w (w.alloc (.cells #[.int .i64 0, .int .i64 0, .int .i64 0, .int .i64 0, .int .i64 0] 45)) := mAlc (BelowM.refl _ _) _
  obtain ⟨W2, hrun, q3, hb2⟩ := copy_lookM (Blk.new w 45 #[.int .i64 0, .int .i64 0, .int .i64 0, .int .i64 0, .int .i64 0]) c (h.below hb1.b) hn
  have hB2 := hb2 w hb1 (Nat.le_refl _)
  replace hl := Lib.hid hl
  clear h hb2
  generalize Lk.of l = y at *
  obtain ⟨yn, ya, yb, yc, yd⟩ := y
  dsimp only at hyn q3
  subst hyn
  unfold Lk.v
  go_enter Tryz.func280, Tryz.ntmps280
  have z0 := q3.cell 0
  have z1 := q3.frozen 0
  simp only [List.getElem?_toArray, List.getElem?_cons_zero] at z0
  go_upto_region 1 with (fail)
  generalize w.alloc (.cells #[.int .i64 0, .int .i64 0, .int .i64 0, .int .i64 0, .int .i64 0] 45) = W1 at *
  go_upto_region 2 with (fail)
  have q4 := q3.put 0 (.int .i64 n)
  have hb4 := mSet hB2 ⟨w.heap.size, 0, none⟩ (.int .i64 n) (Nat.le_refl _)
  clear z0 z1 q3 hB2 hb1 hrun
  generalize W2.setCell ⟨w.heap.size, 0, none⟩ (.int .i64 n) = W4 at *
  have q5 : Blk W4 w.heap.size 45 (Lk.cells ⟨n, ya, yb, yc, yd⟩) := q4
  have a0 := q5.cell 0
  have a1 := q5.cell 1
  have a2 := q5.cell 2
  have a3 := q5.cell 3
  have a4 := q5.cell 4
  have f0 := q5.frozen 0
  have f1 := q5.frozen 1
  have f2 := q5.frozen 2
  have f3 := q5.frozen 3
  have f4 := q5.frozen 4
  simp only [Lk.cells, List.getElem?_toArray, List.getElem?_cons_zero, List.getElem?_cons_succ] at a0 a1 a2 a3 a4
  go_wp2_with fail
  exact bodyPost_ret (results_look rfl _ _ _ ⟨n, ya, yb, yc, yd⟩ rfl (put5 q5 ⟨n, ya, yb, yc, yd⟩)) rfl ⟨rfl, mSet5 hb4 (Nat.le_refl _) _ _ _ _ _⟩
set_option maxRecDepth 100000 in
set_option maxHeartbeats 4000000 in
theorem lcheck_m (x : Lk) (m : Int) (w : World) (hx : x.wf) : Calls Tryz.prog 244 #[x.v, .int .i64 m] w fun e w' => e = .returned (.int .i64 (lchk x m)) ∧ BelowM w.heap.size w w' := by
  have q0 := Blk.new w 45 x.cells
  have hb0 : BelowM w.heap.size w (w.alloc (.cells x.cells 45)) := mAlc (BelowM.refl _ _) _
  have hOf0 := Lib.hid (fun (W : World) (k : Nat) (hk : x.n = k) (h4 : k ≤ 4) (h : Blk W w.heap.size 45 x.cells) => lookof_m (some ⟨w.heap.size, 1, none⟩) k 4 x.l W (lk_rd h k hk h4) h4)
  have hC := Lib.hid (Lk.cellAt x)
  have hpo := Lib.hid (pad_of (x := x))
  have hne := Lib.hid (fun (h0 : 0 ≤ x.n) (h4 : x.n ≤ 4) (W : World) => look_neq (Lk.of x.l) x (of_wf hx h0 h4) hx W)
  unfold Lk.v
  unfold Lk.cells at q0 hb0 hOf0
  by_cases h1 : m < 1
  · have hE : lchk x m = 2 := by unfold lchk; rw [if_pos (by omega)]
    rw [hE]; clear hE
    go_enter Tryz.func244, Tryz.ntmps244
    go_wp2_with fail
    go_ret
    exact ⟨rfl, hb0⟩
  by_cases h2 : 8 < m
  · have hE : lchk x m = 2 := by unfold lchk; rw [if_pos (by omega)]
    rw [hE]; clear hE
    go_enter Tryz.func244, Tryz.ntmps244
    go_wp2_with fail
    go_ret
    exact ⟨rfl, hb0⟩
  by_cases h3 : x.n < 0
  · have hE : lchk x m = 3 := by unfold lchk; rw [if_neg (by omega), if_pos (by omega)]
    rw [hE]; clear hE hOf0 hne hpo
    go_enter Tryz.func244, Tryz.ntmps244
    go_upto_region 3 with (fail)
    generalize w.alloc (.cells #[.int .i64 x.n, .int .i64 x.a, .int .i64 x.b, .int .i64 x.c, .int .i64 x.d] 45) = W1 at *
    have c0 := q0.cell 0
    simp only [List.getElem?_toArray, List.getElem?_cons_zero] at c0
    have hAll : Hid (∀ w', BelowM W1.heap.size W1 w' → w'.cell? ⟨w.heap.size, 0, none⟩ = some (.int .i64 x.n) ∧ BelowM W1.heap.size W1 w') := Lib.hid fun w' h => ⟨cell_later h.b c0, h⟩
    have hFin : Hid (∀ w', BelowM W1.heap.size W1 w' → BelowM w.heap.size w w') := Lib.hid fun w' h => mStep hb0 h
    clear c0 q0 hb0
    refine wp_region_held_drew (S := (fun w' => w'.cell? ⟨w.heap.size, 0, none⟩ = some (.int .i64 x.n) ∧ BelowM W1.heap.size W1 w')) (by kernel_rfl) (hAll.out _ (mDrw (BelowM.refl _ _))) (fun hHeld => ?_)
    refine wpAnyH_take (i := 0) (oi := ⟨some 15, _, _, _, _, _⟩) (v := ?va1) rfl (by kernel_rfl) (by kernel_rfl) (by kernel_rfl) (fun _ _ _ h => h) (Or.inl ⟨by rfl, ?hya1⟩) (by assumption) ?resta1
    case hya1 => (intro w hSw; (try dsimp only at hSw); go_simp <;> with_reducible rfl)
    try simp only [Act.put, List.setIfInBounds_toArray, List.set_cons_zero, List.set_cons_succ]
    refine wpAnyH_take (i := 1) (oi := ⟨some 16, _, _, _, _, _⟩) (v := ?va2) rfl (by kernel_rfl) (by kernel_rfl) (by kernel_rfl) (fun _ _ _ h => h) (Or.inl ⟨by rfl, ?hya2⟩) (by assumption) ?resta2
    case hya2 => (intro w hSw; (try dsimp only at hSw); go_simp <;> with_reducible rfl)
    try simp only [Act.put, List.setIfInBounds_toArray, List.set_cons_zero, List.set_cons_succ]
    refine wpAnyH_take (i := 2) (oi := ⟨some 17, _, _, _, _, _⟩) (v := ?va3) rfl (by kernel_rfl) (by kernel_rfl) (by kernel_rfl) (fun _ _ _ h => h) (Or.inl ⟨by rfl, ?hya3⟩) (by assumption) ?resta3
    case hya3 => (intro w hSw; (try dsimp only at hSw); go_simp <;> with_reducible rfl)
    try simp only [Act.put, List.setIfInBounds_toArray, List.set_cons_zero, List.set_cons_succ]
    refine wpAnyH_take (i := 3) (oi := ⟨some 18, _, _, _, _, _⟩) (v := ?va4) rfl (by kernel_rfl) (by kernel_rfl) (by kernel_rfl) (fun _ _ _ h => h) (Or.inl ⟨by rfl, ?hya4⟩) (by assumption) ?resta4
    case hya4 => (intro w hSw; (try dsimp only at hSw); go_simp <;> with_reducible rfl)
    try simp only [Act.put, List.setIfInBounds_toArray, List.set_cons_zero, List.set_cons_succ]
    refine wpAnyH_take (i := 4) (oi := ⟨some 19, _, _, _, _, _⟩) (v := undef) rfl (by kernel_rfl) (by kernel_rfl) (by kernel_rfl) (fun _ _ _ h => h) (Or.inr ⟨by rfl, rfl⟩) (by assumption) ?_
    try simp only [Act.put, List.setIfInBounds_toArray, List.set_cons_zero, List.set_cons_succ]
    refine wpAnyH_take (i := 5) (oi := ⟨some 20, _, _, _, _, _⟩) (v := undef) rfl (by kernel_rfl) (by kernel_rfl) (by kernel_rfl) (fun _ _ _ h => h) (Or.inr ⟨by rfl, rfl⟩) (by assumption) ?_
    try simp only [Act.put, List.setIfInBounds_toArray, List.set_cons_zero, List.set_cons_succ]
    refine wpAnyH_take (i := 6) (oi := ⟨some 21, _, _, _, _, _⟩) (v := undef) rfl (by kernel_rfl) (by kernel_rfl) (by kernel_rfl) (fun _ _ _ h => h) (Or.inr ⟨by rfl, rfl⟩) (by assumption) ?_
    try simp only [Act.put, List.setIfInBounds_toArray, List.set_cons_zero, List.set_cons_succ]
    refine wpAnyH_take (i := 7) (oi := ⟨some 22, _, _, _, _, _⟩) (v := ?va8) rfl (by kernel_rfl) (by kernel_rfl) (by kernel_rfl) (fun _ _ _ h => h) (Or.inl ⟨by rfl, ?hya8⟩) (by assumption) ?resta8
    case hya8 => (intro w hSw; (try dsimp only at hSw); go_simp <;> with_reducible rfl)
    try simp only [Act.put, List.setIfInBounds_toArray, List.set_cons_zero, List.set_cons_succ]
    refine wpAnyH_take (i := 8) (oi := ⟨some 23, _, _, _, _, _⟩) (v := ?va9) rfl (by kernel_rfl) (by kernel_rfl) (by kernel_rfl) (fun _ _ _ h => h) (Or.inl ⟨by rfl, ?hya9⟩) (by assumption) ?resta9
    case hya9 => (intro w hSw; (try dsimp only at hSw); go_simp <;> with_reducible rfl)
    try simp only [Act.put, List.setIfInBounds_toArray, List.set_cons_zero, List.set_cons_succ]
    refine wpAnyH_take (i := 9) (oi := ⟨some 24, _, _, _, _, _⟩) (v := undef) rfl (by kernel_rfl) (by kernel_rfl) (by kernel_rfl) (fun _ _ _ h => h) (Or.inr ⟨by rfl, rfl⟩) (by assumption) ?_
    try simp only [Act.put, List.setIfInBounds_toArray, List.set_cons_zero, List.set_cons_succ]
    refine wpAnyH_take (i := 10) (oi := ⟨some 25, _, _, _, _, _⟩) (v := undef) rfl (by kernel_rfl) (by kernel_rfl) (by kernel_rfl) (fun _ _ _ h => h) (Or.inr ⟨by rfl, rfl⟩) (by assumption) ?_
    try simp only [Act.put, List.setIfInBounds_toArray, List.set_cons_zero, List.set_cons_succ]
    refine wpAnyH_take (i := 11) (oi := ⟨some 26, _, _, _, _, _⟩) (v := undef) rfl (by kernel_rfl) (by kernel_rfl) (by kernel_rfl) (fun _ _ _ h => h) (Or.inr ⟨by rfl, rfl⟩) (by assumption) ?_
    try simp only [Act.put, List.setIfInBounds_toArray, List.set_cons_zero, List.set_cons_succ]
    refine wpAnyH_take (i := 12) (oi := ⟨some 27, _, _, _, _, _⟩) (v := undef) rfl (by kernel_rfl) (by kernel_rfl) (by kernel_rfl) (fun _ _ _ h => h) (Or.inr ⟨by rfl, rfl⟩) (by assumption) ?_
    try simp only [Act.put, List.setIfInBounds_toArray, List.set_cons_zero, List.set_cons_succ]
    refine wpAnyH_take (i := 13) (oi := ⟨some 28, _, _, _, _, _⟩) (v := undef) rfl (by kernel_rfl) (by kernel_rfl) (by kernel_rfl) (fun _ _ _ h => h) (Or.inr ⟨by rfl, rfl⟩) (by assumption) ?_
    try simp only [Act.put, List.setIfInBounds_toArray, List.set_cons_zero, List.set_cons_succ]
    refine wpAnyH_take (i := 14) (oi := ⟨some 29, _, _, _, _, _⟩) (v := undef) rfl (by kernel_rfl) (by kernel_rfl) (by kernel_rfl) (fun _ _ _ h => h) (Or.inr ⟨by rfl, rfl⟩) (by assumption) ?_
    try simp only [Act.put, List.setIfInBounds_toArray, List.set_cons_zero, List.set_cons_succ]
    refine wpAnyH_take (i := 15) (oi := ⟨some 30, _, _, _, _, _⟩) (v := undef) rfl (by kernel_rfl) (by kernel_rfl) (by kernel_rfl) (fun _ _ _ h => h) (Or.inr ⟨by rfl, rfl⟩) (by assumption) ?_
    try simp only [Act.put, List.setIfInBounds_toArray, List.set_cons_zero, List.set_cons_succ]
    refine wpAnyH_take (i := 16) (oi := ⟨some 31, _, _, _, _, _⟩) (v := ?va17) rfl (by kernel_rfl) (by kernel_rfl) (by kernel_rfl) (fun _ _ _ h => h) (Or.inl ⟨by rfl, ?hya17⟩) (by assumption) ?resta17
    case hya17 => (intro w hSw; (try dsimp only at hSw); go_simp <;> with_reducible rfl)
    try simp only [Act.put, List.setIfInBounds_toArray, List.set_cons_zero, List.set_cons_succ]
    refine wpAnyH_take (i := 17) (oi := ⟨some 14, _, _, _, _, _⟩) (v := ?va18) rfl (by kernel_rfl) (by kernel_rfl) (by kernel_rfl) (fun _ _ _ h => h) (Or.inl ⟨by rfl, ?hya18⟩) (by assumption) ?resta18
    case hya18 => (intro w hSw; (try dsimp only at hSw); go_simp <;> with_reducible rfl)
    try simp only [Act.put, List.setIfInBounds_toArray, List.set_cons_zero, List.set_cons_succ]
    refine wpAnyH_done (by kernel_rfl) ?_ _
    go_wp2_with fail
    go_ret
    exact ⟨rfl, hFin.out _ (by repeat (first | assumption | exact BelowM.refl _ _ | (refine mStep ?_ (by assumption)) | (with_reducible refine mAlc ?_ _) | (with_reducible refine mDrw ?_)))⟩
  by_cases h4 : 4 < x.n
  · have hE : lchk x m = 3 := by unfold lchk; rw [if_neg (by omega), if_pos (by omega)]
    rw [hE]; clear hE hOf0 hne hpo
    go_enter Tryz.func244, Tryz.ntmps244
    go_upto_region 3 with (fail)
    generalize w.alloc (.cells #[.int .i64 x.n, .int .i64 x.a, .int .i64 x.b, .int .i64 x.c, .int .i64 x.d] 45) = W1 at *
    have c0 := q0.cell 0
    simp only [List.getElem?_toArray, List.getElem?_cons_zero] at c0
    have hAll : Hid (∀ w', BelowM W1.heap.size W1 w' → w'.cell? ⟨w.heap.size, 0, none⟩ = some (.int .i64 x.n) ∧ BelowM W1.heap.size W1 w') := Lib.hid fun w' h => ⟨cell_later h.b c0, h⟩
    have hFin : Hid (∀ w', BelowM W1.heap.size W1 w' → BelowM w.heap.size w w') := Lib.hid fun w' h => mStep hb0 h
    clear c0 q0 hb0
    refine wp_region_held_drew (S := (fun w' => w'.cell? ⟨w.heap.size, 0, none⟩ = some (.int .i64 x.n) ∧ BelowM W1.heap.size W1 w')) (by kernel_rfl) (hAll.out _ (mDrw (BelowM.refl _ _))) (fun hHeld => ?_)
    refine wpAnyH_take (i := 0) (oi := ⟨some 15, _, _, _, _, _⟩) (v := ?vb1) rfl (by kernel_rfl) (by kernel_rfl) (by kernel_rfl) (fun _ _ _ h => h) (Or.inl ⟨by rfl, ?hyb1⟩) (by assumption) ?restb1
    case hyb1 => (intro w hSw; (try dsimp only at hSw); go_simp <;> with_reducible rfl)
    try simp only [Act.put, List.setIfInBounds_toArray, List.set_cons_zero, List.set_cons_succ]
    refine wpAnyH_take (i := 1) (oi := ⟨some 16, _, _, _, _, _⟩) (v := ?vb2) rfl (by kernel_rfl) (by kernel_rfl) (by kernel_rfl) (fun _ _ _ h => h) (Or.inl ⟨by rfl, ?hyb2⟩) (by assumption) ?restb2
    case hyb2 => (intro w hSw; (try dsimp only at hSw); go_simp <;> with_reducible rfl)
    try simp only [Act.put, List.setIfInBounds_toArray, List.set_cons_zero, List.set_cons_succ]
    refine wpAnyH_take (i := 2) (oi := ⟨some 17, _, _, _, _, _⟩) (v := ?vb3) rfl (by kernel_rfl) (by kernel_rfl) (by kernel_rfl) (fun _ _ _ h => h) (Or.inl ⟨by rfl, ?hyb3⟩) (by assumption) ?restb3
    case hyb3 => (intro w hSw; (try dsimp only at hSw); go_simp <;> with_reducible rfl)
    try simp only [Act.put, List.setIfInBounds_toArray, List.set_cons_zero, List.set_cons_succ]
    refine wpAnyH_take (i := 3) (oi := ⟨some 18, _, _, _, _, _⟩) (v := ?vb4) rfl (by kernel_rfl) (by kernel_rfl) (by kernel_rfl) (fun _ _ _ h => h) (Or.inl ⟨by rfl, ?hyb4⟩) (by assumption) ?restb4
    case hyb4 => (intro w hSw; (try dsimp only at hSw); go_simp <;> with_reducible rfl)
    try simp only [Act.put, List.setIfInBounds_toArray, List.set_cons_zero, List.set_cons_succ]
    refine wpAnyH_take (i := 4) (oi := ⟨some 19, _, _, _, _, _⟩) (v := ?vb5) rfl (by kernel_rfl) (by kernel_rfl) (by kernel_rfl) (fun _ _ _ h => h) (Or.inl ⟨by rfl, ?hyb5⟩) (by assumption) ?restb5
    case hyb5 => (intro w hSw; (try dsimp only at hSw); go_simp <;> with_reducible rfl)
    try simp only [Act.put, List.setIfInBounds_toArray, List.set_cons_zero, List.set_cons_succ]
    refine wpAnyH_take (i := 5) (oi := ⟨some 20, _, _, _, _, _⟩) (v := ?vb6) rfl (by kernel_rfl) (by kernel_rfl) (by kernel_rfl) (fun _ _ _ h => h) (Or.inl ⟨by rfl, ?hyb6⟩) (by assumption) ?restb6
    case hyb6 => (intro w hSw; (try dsimp only at hSw); go_simp <;> with_reducible rfl)
    try simp only [Act.put, List.setIfInBounds_toArray, List.set_cons_zero, List.set_cons_succ]
    refine wpAnyH_take (i := 6) (oi := ⟨some 21, _, _, _, _, _⟩) (v := ?vb7) rfl (by kernel_rfl) (by kernel_rfl) (by kernel_rfl) (fun _ _ _ h => h) (Or.inl ⟨by rfl, ?hyb7⟩) (by assumption) ?restb7
    case hyb7 => (intro w hSw; (try dsimp only at hSw); go_simp <;> with_reducible rfl)
    try simp only [Act.put, List.setIfInBounds_toArray, List.set_cons_zero, List.set_cons_succ]
    refine wpAnyH_take (i := 7) (oi := ⟨some 22, _, _, _, _, _⟩) (v := ?vb8) rfl (by kernel_rfl) (by kernel_rfl) (by kernel_rfl) (fun _ _ _ h => h) (Or.inl ⟨by rfl, ?hyb8⟩) (by assumption) ?restb8
    case hyb8 => (intro w hSw; (try dsimp only at hSw); go_simp <;> with_reducible rfl)
    try simp only [Act.put, List.setIfInBounds_toArray, List.set_cons_zero, List.set_cons_succ]
    refine wpAnyH_take (i := 8) (oi := ⟨some 23, _, _, _, _, _⟩) (v := ?vb9) rfl (by kernel_rfl) (by kernel_rfl) (by kernel_rfl) (fun _ _ _ h => h) (Or.inl ⟨by rfl, ?hyb9⟩) (by assumption) ?restb9
    case hyb9 => (intro w hSw; (try dsimp only at hSw); go_simp <;> with_reducible rfl)
    try simp only [Act.put, List.setIfInBounds_toArray, List.set_cons_zero, List.set_cons_succ]
    refine wpAnyH_take (i := 9) (oi := ⟨some 24, _, _, _, _, _⟩) (v := undef) rfl (by kernel_rfl) (by kernel_rfl) (by kernel_rfl) (fun _ _ _ h => h) (Or.inr ⟨by rfl, rfl⟩) (by assumption) ?_
    try simp only [Act.put, List.setIfInBounds_toArray, List.set_cons_zero, List.set_cons_succ]
    refine wpAnyH_take (i := 10) (oi := ⟨some 25, _, _, _, _, _⟩) (v := undef) rfl (by kernel_rfl) (by kernel_rfl) (by kernel_rfl) (fun _ _ _ h => h) (Or.inr ⟨by rfl, rfl⟩) (by assumption) ?_
    try simp only [Act.put, List.setIfInBounds_toArray, List.set_cons_zero, List.set_cons_succ]
    refine wpAnyH_take (i := 11) (oi := ⟨some 26, _, _, _, _, _⟩) (v := undef) rfl (by kernel_rfl) (by kernel_rfl) (by kernel_rfl) (fun _ _ _ h => h) (Or.inr ⟨by rfl, rfl⟩) (by assumption) ?_
    try simp only [Act.put, List.setIfInBounds_toArray, List.set_cons_zero, List.set_cons_succ]
    refine wpAnyH_take (i := 12) (oi := ⟨some 27, _, _, _, _, _⟩) (v := undef) rfl (by kernel_rfl) (by kernel_rfl) (by kernel_rfl) (fun _ _ _ h => h) (Or.inr ⟨by rfl, rfl⟩) (by assumption) ?_
    try simp only [Act.put, List.setIfInBounds_toArray, List.set_cons_zero, List.set_cons_succ]
    refine wpAnyH_take (i := 13) (oi := ⟨some 28, _, _, _, _, _⟩) (v := undef) rfl (by kernel_rfl) (by kernel_rfl) (by kernel_rfl) (fun _ _ _ h => h) (Or.inr ⟨by rfl, rfl⟩) (by assumption) ?_
    try simp only [Act.put, List.setIfInBounds_toArray, List.set_cons_zero, List.set_cons_succ]
    refine wpAnyH_take (i := 14) (oi := ⟨some 29, _, _, _, _, _⟩) (v := undef) rfl (by kernel_rfl) (by kernel_rfl) (by kernel_rfl) (fun _ _ _ h => h) (Or.inr ⟨by rfl, rfl⟩) (by assumption) ?_
    try simp only [Act.put, List.setIfInBounds_toArray, List.set_cons_zero, List.set_cons_succ]
    refine wpAnyH_take (i := 15) (oi := ⟨some 30, _, _, _, _, _⟩) (v := undef) rfl (by kernel_rfl) (by kernel_rfl) (by kernel_rfl) (fun _ _ _ h => h) (Or.inr ⟨by rfl, rfl⟩) (by assumption) ?_
    try simp only [Act.put, List.setIfInBounds_toArray, List.set_cons_zero, List.set_cons_succ]
    refine wpAnyH_take (i := 16) (oi := ⟨some 31, _, _, _, _, _⟩) (v := ?vb17) rfl (by kernel_rfl) (by kernel_rfl) (by kernel_rfl) (fun _ _ _ h => h) (Or.inl ⟨by rfl, ?hyb17⟩) (by assumption) ?restb17
    case hyb17 => (intro w hSw; (try dsimp only at hSw); go_simp <;> with_reducible rfl)
    try simp only [Act.put, List.setIfInBounds_toArray, List.set_cons_zero, List.set_cons_succ]
    refine wpAnyH_take (i := 17) (oi := ⟨some 14, _, _, _, _, _⟩) (v := ?vb18) rfl (by kernel_rfl) (by kernel_rfl) (by kernel_rfl) (fun _ _ _ h => h) (Or.inl ⟨by rfl, ?hyb18⟩) (by assumption) ?restb18
    case hyb18 => (intro w hSw; (try dsimp only at hSw); go_simp <;> with_reducible rfl)
    try simp only [Act.put, List.setIfInBounds_toArray, List.set_cons_zero, List.set_cons_succ]
    refine wpAnyH_done (by kernel_rfl) ?_ _
    go_wp2_with fail
    go_ret
    exact ⟨rfl, hFin.out _ (by repeat (first | assumption | exact BelowM.refl _ _ | (refine mStep ?_ (by assumption)) | (with_reducible refine mAlc ?_ _) | (with_reducible refine mDrw ?_)))⟩
  have hE : lchk x m = if padB x = false then 3 else if inB x m = false then 14 else 0 := by unfold lchk; rw [if_neg (by omega), if_neg (by omega)]
  rw [hE]; clear hE
  obtain ⟨n, hn⟩ := Int.eq_ofNat_of_zero_le (show 0 ≤ x.n by omega)
  have hI := Lib.hid (inB_iff x m)
  have hpo' := Lib.hid (hpo.out (by omega) (by omega))
  have hne' := hne.out (by omega) (by omega)
  have hOf1 := Lib.hid (fun (W : World) h => hOf0.out W n hn (by omega) h)
  clear hpo hne hOf0
  have hN := Lib.hid hn
  have hpd : decide (Lk.of x.l = x) = padB x := by
    cases h : padB x
    · exact decide_eq_false fun e => by have := hpo'.out.1 e; rw [h] at this; cases this
    · exact decide_eq_true (hpo'.out.2 h)
  rw [hpd] at hne'
  clear hpo'
  replace hpd := Lib.hid hpd
  generalize padB x = pb at *
  generalize inB x m = q at hI ⊢
  generalize hs : x.s = s at *
  clear hs
  generalize Lk.of x.l = y at *
  unfold Lk.v at hOf1 hne'
  generalize hxn : x.n = xn at *
  clear hxn
  subst hn
  go_enter Tryz.func244, Tryz.ntmps244
  go_upto_region 3 with (fail)
  generalize w.alloc (.cells #[.int .i64 n, .int .i64 x.a, .int .i64 x.b, .int .i64 x.c, .int .i64 x.d] 45) = W1 at *
  have c0 := q0.cell 0
  have c1 := q0.cell 1
  have c2 := q0.cell 2
  have c3 := q0.cell 3
  have c4 := q0.cell 4
  simp only [List.getElem?_toArray, List.getElem?_cons_zero, List.getElem?_cons_succ] at c0 c1 c2 c3 c4
  have hn0 : (0 : Int) ≤ n := by omega
  have hn4 : (n : Int) ≤ 4 := by omega
  have hAll : Hid (∀ w', BelowM W1.heap.size W1 w' → w'.cell? ⟨w.heap.size, 0, none⟩ = some (.int .i64 n) ∧ w'.cell? ⟨w.heap.size, 1, none⟩ = some (.int .i64 x.a) ∧ w'.cell? ⟨w.heap.size, 2, none⟩ = some (.int .i64 x.b) ∧ w'.cell? ⟨w.heap.size, 3, none⟩ = some (.int .i64 x.c) ∧ w'.cell? ⟨w.heap.size, 4, none⟩ = some (.int .i64 x.d) ∧ BelowM W1.heap.size W1 w') :=
    Lib.hid fun w' h => ⟨cell_later h.b c0, cell_later h.b c1, cell_later h.b c2, cell_later h.b c3, cell_later h.b c4, h⟩
  have hOf := Lib.hid (fun (W : World) (h : BelowM W1.heap.size W1 W) => hOf1.out W (q0.step h.b))
  clear hOf1 c0 c1 c2 c3 c4
  go_cut [14] (fun s14 wx => s14 = .bool (!pb) ∧ BelowM W1.heap.size W1 wx)
  case first =>
    refine wp_region_held_drew (S := (fun w' => w'.cell? ⟨w.heap.size, 0, none⟩ = some (.int .i64 n) ∧ w'.cell? ⟨w.heap.size, 1, none⟩ = some (.int .i64 x.a) ∧ w'.cell? ⟨w.heap.size, 2, none⟩ = some (.int .i64 x.b) ∧ w'.cell? ⟨w.heap.size, 3, none⟩ = some (.int .i64 x.c) ∧ w'.cell? ⟨w.heap.size, 4, none⟩ = some (.int .i64 x.d) ∧ BelowM W1.heap.size W1 w')) (by kernel_rfl) (hAll.out _ (mDrw (BelowM.refl _ _))) (fun hHeld => ?_)
    refine wpAnyH_take (i := 0) (oi := ⟨some 15, _, _, _, _, _⟩) (v := ?vc1) rfl (by kernel_rfl) (by kernel_rfl) (by kernel_rfl) (fun _ _ _ h => h) (Or.inl ⟨by rfl, ?hyc1⟩) (by assumption) ?restc1
    case hyc1 => (intro w hSw; (try dsimp only at hSw); go_simp <;> with_reducible rfl)
    try simp only [Act.put, List.setIfInBounds_toArray, List.set_cons_zero, List.set_cons_succ]
    refine wpAnyH_take (i := 1) (oi := ⟨some 16, _, _, _, _, _⟩) (v := ?vc2) rfl (by kernel_rfl) (by kernel_rfl) (by kernel_rfl) (fun _ _ _ h => h) (Or.inl ⟨by rfl, ?hyc2⟩) (by assumption) ?restc2
    case hyc2 => (intro w hSw; (try dsimp only at hSw); go_simp <;> with_reducible rfl)
    try simp only [Act.put, List.setIfInBounds_toArray, List.set_cons_zero, List.set_cons_succ]
    refine wpAnyH_take (i := 2) (oi := ⟨some 17, _, _, _, _, _⟩) (v := ?vc3) rfl (by kernel_rfl) (by kernel_rfl) (by kernel_rfl) (fun _ _ _ h => h) (Or.inl ⟨by rfl, ?hyc3⟩) (by assumption) ?restc3
    case hyc3 => (intro w hSw; (try dsimp only at hSw); go_simp <;> with_reducible rfl)
    try simp only [Act.put, List.setIfInBounds_toArray, List.set_cons_zero, List.set_cons_succ]
    refine wpAnyH_take (i := 3) (oi := ⟨some 18, _, _, _, _, _⟩) (v := ?vc4) rfl (by kernel_rfl) (by kernel_rfl) (by kernel_rfl) (fun _ _ _ h => h) (Or.inl ⟨by rfl, ?hyc4⟩) (by assumption) ?restc4
    case hyc4 => (intro w hSw; (try dsimp only at hSw); go_simp <;> with_reducible rfl)
    try simp only [Act.put, List.setIfInBounds_toArray, List.set_cons_zero, List.set_cons_succ]
    refine wpAnyH_take (i := 4) (oi := ⟨some 19, _, _, _, _, _⟩) (v := ?vc5) rfl (by kernel_rfl) (by kernel_rfl) (by kernel_rfl) (fun _ _ _ h => h) (Or.inl ⟨by rfl, ?hyc5⟩) (by assumption) ?restc5
    case hyc5 => (intro w hSw; (try dsimp only at hSw); go_simp <;> with_reducible rfl)
    try simp only [Act.put, List.setIfInBounds_toArray, List.set_cons_zero, List.set_cons_succ]
    refine wpAnyH_take (i := 5) (oi := ⟨some 20, _, _, _, _, _⟩) (v := ?vc6) rfl (by kernel_rfl) (by kernel_rfl) (by kernel_rfl) (fun _ _ _ h => h) (Or.inl ⟨by rfl, ?hyc6⟩) (by assumption) ?restc6
    case hyc6 => (intro w hSw; (try dsimp only at hSw); go_simp <;> with_reducible rfl)
    try simp only [Act.put, List.setIfInBounds_toArray, List.set_cons_zero, List.set_cons_succ]
    refine wpAnyH_take (i := 6) (oi := ⟨some 21, _, _, _, _, _⟩) (v := ?vc7) rfl (by kernel_rfl) (by kernel_rfl) (by kernel_rfl) (fun _ _ _ h => h) (Or.inl ⟨by rfl, ?hyc7⟩) (by assumption) ?restc7
    case hyc7 => (intro w hSw; (try dsimp only at hSw); go_simp <;> with_reducible rfl)
    try simp only [Act.put, List.setIfInBounds_toArray, List.set_cons_zero, List.set_cons_succ]
    refine wpAnyH_take (i := 7) (oi := ⟨some 22, _, _, _, _, _⟩) (v := ?vc8) rfl (by kernel_rfl) (by kernel_rfl) (by kernel_rfl) (fun _ _ _ h => h) (Or.inl ⟨by rfl, ?hyc8⟩) (by assumption) ?restc8
    case hyc8 => (intro w hSw; (try dsimp only at hSw); go_simp <;> with_reducible rfl)
    try simp only [Act.put, List.setIfInBounds_toArray, List.set_cons_zero, List.set_cons_succ]
    refine wpAnyH_take (i := 8) (oi := ⟨some 23, _, _, _, _, _⟩) (v := ?vc9) rfl (by kernel_rfl) (by kernel_rfl) (by kernel_rfl) (fun _ _ _ h => h) (Or.inl ⟨by rfl, ?hyc9⟩) (by assumption) ?restc9
    case hyc9 => (intro w hSw; (try dsimp only at hSw); go_simp <;> with_reducible rfl)
    try simp only [Act.put, List.setIfInBounds_toArray, List.set_cons_zero, List.set_cons_succ]
    refine wpAnyH_take (i := 9) (oi := ⟨some 24, _, _, _, _, _⟩) (v := ?vc10) rfl (by kernel_rfl) (by kernel_rfl) (by kernel_rfl) (fun _ _ _ h => h) (Or.inl ⟨by rfl, ?hyc10⟩) (by assumption) ?restc10
    case hyc10 => (intro w hSw; (try dsimp only at hSw); go_simp <;> with_reducible rfl)
    try simp only [Act.put, List.setIfInBounds_toArray, List.set_cons_zero, List.set_cons_succ]
    refine wpAnyH_take (i := 10) (oi := ⟨some 25, _, _, _, _, _⟩) (v := ?vc11) rfl (by kernel_rfl) (by kernel_rfl) (by kernel_rfl) (fun _ _ _ h => h) (Or.inl ⟨by rfl, ?hyc11⟩) (by assumption) ?restc11
    case hyc11 => (intro w hSw; (try dsimp only at hSw); go_simp <;> with_reducible rfl)
    try simp only [Act.put, List.setIfInBounds_toArray, List.set_cons_zero, List.set_cons_succ]
    refine wpAnyH_take (i := 11) (oi := ⟨some 26, _, _, _, _, _⟩) (v := ?vc12) rfl (by kernel_rfl) (by kernel_rfl) (by kernel_rfl) (fun _ _ _ h => h) (Or.inl ⟨by rfl, ?hyc12⟩) (by assumption) ?restc12
    case hyc12 => (intro w hSw; (try dsimp only at hSw); go_simp <;> with_reducible rfl)
    try simp only [Act.put, List.setIfInBounds_toArray, List.set_cons_zero, List.set_cons_succ]
    refine wpAnyH_take (i := 12) (oi := ⟨some 27, _, _, _, _, _⟩) (v := ?vc13) rfl (by kernel_rfl) (by kernel_rfl) (by kernel_rfl) (fun _ _ _ h => h) (Or.inl ⟨by rfl, ?hyc13⟩) (by assumption) ?restc13
    case hyc13 => (intro w hSw; (try dsimp only at hSw); go_simp <;> with_reducible rfl)
    try simp only [Act.put, List.setIfInBounds_toArray, List.set_cons_zero, List.set_cons_succ]
    refine wpAnyH_take (i := 14) (oi := ⟨some 29, _, _, _, _, _⟩) (v := ?vc14) rfl (by kernel_rfl) (by kernel_rfl) (by kernel_rfl) (fun _ _ _ h => h) (Or.inl ⟨by rfl, ?hyc14⟩) (by assumption) ?restc14
    case hyc14 => (intro w hSw; (try dsimp only at hSw); go_simp <;> with_reducible rfl)
    try simp only [Act.put, List.setIfInBounds_toArray, List.set_cons_zero, List.set_cons_succ]
    refine wpAnyH_ready (rs := [13]) (by kernel_rfl) (by simp) ?_
    refine AllReadyH.cons (o := ⟨some 28, _, _, _, _, _⟩) rfl (fun K hK => ?_) ?_
    · go_simp
      go_at_call 280
      refine (hOf.out _ (by repeat (first | assumption | exact BelowM.refl _ _ | (refine mStep ?_ (by assumption)) | (with_reducible refine mAlc ?_ _) | (with_reducible refine mDrw ?_)))).mono ?_
      rintro e w1 ⟨rfl, hb1⟩
      go_wp2_with fail
      refine hK.out _ _ ?_ (fun hHeld => ?_)
      · (refine hAll.out _ ?_; repeat (first | assumption | exact BelowM.refl _ _ | (refine mStep ?_ (by assumption)) | (with_reducible refine mAlc ?_ _) | (with_reducible refine mDrw ?_)))
      clear hK K
      try simp only [Act.put, List.setIfInBounds_toArray, List.set_cons_zero, List.set_cons_succ]
      refine wpAnyH_take (i := 15) (oi := ⟨some 30, _, _, _, _, _⟩) (v := ?vc15) rfl (by kernel_rfl) (by kernel_rfl) (by kernel_rfl) (fun _ _ _ h => h) (Or.inl ⟨by rfl, ?hyc15⟩) (by assumption) ?restc15
      case hyc15 => (intro w hSw; (try dsimp only at hSw); go_simp <;> with_reducible rfl)
      try simp only [Act.put, List.setIfInBounds_toArray, List.set_cons_zero, List.set_cons_succ]
      refine wpAnyH_take (i := 16) (oi := ⟨some 31, _, _, _, _, _⟩) (v := ?vc16) rfl (by kernel_rfl) (by kernel_rfl) (by kernel_rfl) (fun _ _ _ h => h) (Or.inl ⟨by rfl, ?hyc16⟩) (by assumption) ?restc16
      case hyc16 => (intro w hSw; (try dsimp only at hSw); go_simp <;> with_reducible rfl)
      try simp only [Act.put, List.setIfInBounds_toArray, List.set_cons_zero, List.set_cons_succ]
      refine wpAnyH_take (i := 17) (oi := ⟨some 14, _, _, _, _, _⟩) (v := ?vc17) rfl (by kernel_rfl) (by kernel_rfl) (by kernel_rfl) (fun _ _ _ h => h) (Or.inl ⟨by rfl, ?hyc17⟩) (by assumption) ?restc17
      case hyc17 => (intro w hSw; (try dsimp only at hSw); go_simp <;> with_reducible rfl)
      try simp only [Act.put, List.setIfInBounds_toArray, List.set_cons_zero, List.set_cons_succ]
      refine wpAnyH_done (by kernel_rfl) ?_ _
      go_wp2_with fail
      go_meet
      exact ⟨rfl, (by repeat (first | assumption | exact BelowM.refl _ _ | (refine mStep ?_ (by assumption)) | (with_reducible refine mAlc ?_ _) | (with_reducible refine mDrw ?_)))⟩
    exact AllReadyH.nil
  case rest =>
    obtain ⟨rfl, hbc⟩ := hcut
    have qc := q0.step hbc.b
    have hb := mStep hb0 hbc
    clear q0 hb0 hAll hOf hne' hbc
    cases pb
    · go_wp2_with fail
      go_ret
      exact ⟨rfl, hb⟩
    · have z0 := qc.cell 0
      simp only [List.getElem?_toArray, List.getElem?_cons_zero] at z0
      go_wp2_with fail
      go_loopg [37] n (fun k i wr => ∃ j : Nat, wr = wc ∧ i = .int .i64 j ∧ j + k = n ∧ ∀ i : Nat, i < j → 0 ≤ s i ∧ s i < m)
      case atStart => exact ⟨0, rfl, rfl, by omega, by intros; omega⟩
      case round =>
        obtain ⟨j, rfl, rfl, hj3, hg⟩ := hrel
        replace hg := Lib.hid hg
        replace hj3 := Lib.hid hj3
        by_cases hj : j < n
        · have hj4 : j < 4 := by omega
          have hc : wr.cell? ⟨w.heap.size, 1 + j, none⟩ = some (.int .i64 (s j)) := by rw [qc.cell]; exact hC.out j hj4
          by_cases hz : s j < 0
          · have hqF : q = false := by
              cases q
              · rfl
              · exact absurd (hI.out.1 rfl j hj4 (by omega)).1 (by omega)
            subst hqF
            go_wp2_with fail
            go_ret
            exact ⟨rfl, hb⟩
          · by_cases hz2 : s j < m
            · have hG := Lib.hid (show ∀ i : Nat, i < j + 1 → 0 ≤ s i ∧ s i < m by
                intro i h1
                by_cases e : i = j
                · rw [e]; exact ⟨by omega, hz2⟩
                · exact hg.out i (by omega))
              go_wp2_with fail
              go_roundg (n - (j + 1))
              case measure => have := hj3.out; omega
              case rel => exact ⟨j + 1, rfl, by go_num, by have := hj3.out; omega, hG.out⟩
            · have hqF : q = false := by
                cases q
                · rfl
                · exact absurd (hI.out.1 rfl j hj4 (by omega)).2 hz2
              subst hqF
              go_wp2_with fail
              go_ret
              exact ⟨rfl, hb⟩
        · have hqT : q = true := hI.out.2 fun i h4 hn => hg.out i (by omega)
          subst hqT
          go_wp2_with fail
          go_ret
          exact ⟨rfl, hb⟩
end Go.Proofs.YtjnmkdahbcmfaaaGreat

/- look.right at right looks: no draw taken back. -/
namespace Go.Proofs.YtjnmkdahbcmfaaaGreat
open Go.ChangeShapes Go.WideShapes Go.ChangeAt Go.RowKit Go.Sort
set_option linter.unusedVariables false
def RetR0 (w : World) (e : Ending) (w' : World) : Prop := e = .returned (.int .i64 0) ∧ BelowM w.heap.size w w'
set_option maxHeartbeats 2000000 in
theorem right_m (m : Int) (A : Option Addr) (n c : Nat) (l : List Lk) (w : World) (hn : n ≤ 100000) (ha : RdL w w.heap.size A n l) (hr : ∀ x ∈ l, x.right m) (hm : m ≤ 8) (hm1 : 1 ≤ m) :
    Calls Tryz.prog 281 #[.int .i64 m, .slice A n c] w (RetR0 w) := by
  have hl := Lib.hid ha.1
  have hP := Lib.hid (fun (w' : World) (h2 : BelowM w.heap.size w w') => (show RetR0 w (.returned (.int .i64 0)) w' from ⟨rfl, h2⟩))
  go_enter Tryz.func281, Tryz.ntmps281
  go_wp2_with fail
  go_loopg [10] n (fun gk s wr => ∃ i : Nat, s = .int .i64 i ∧ i + gk = n ∧ RdL wr w.heap.size A n l ∧ BelowM w.heap.size w wr)
  case atStart => exact ⟨0, rfl, by omega, ha, BelowM.refl _ _⟩
  case round =>
    clear ha
    obtain ⟨i, rfl, hi, ha, hb⟩ := hrel
    replace hi := Lib.hid hi
    by_cases hin : i < n
    · have hil : i < l.length := by have := hl.out; omega
      have hx : l[i]? = some l[i] := List.getElem?_eq_getElem hil
      obtain ⟨b, off, rfl, hbt, x0, x1, x2, x3, x4⟩ := ha.get hx
      have hxr := hr _ (List.getElem_mem hil)
      have hx8 := right_mono hxr hm (by omega)
      have hchk := Lib.hid (fun w => lcheck_m l[i] m w (right_wf hx8))
      unfold Lk.v at hchk
      generalize hy : l[i] = x at *
      replace hy := Lib.hid hy
      replace hx := Lib.hid hx
      go_upto_region 4 with (fail)
      change Code.wp Tryz.prog _ _ _ (lay5 wr x)
      have hbl : BelowM wr.heap.size wr (lay5 wr x) := ⟨lay5_below wr x, Nat.le_refl _⟩
      have q4 := lay5_blk wr x
      generalize lay5 wr x = W1 at *
      have d0 := q4.cell 0
      have d1 := q4.cell 1
      have d2 := q4.cell 2
      have d3 := q4.cell 3
      have d4 := q4.cell 4
      simp only [Lk.cells, List.getElem?_toArray, List.getElem?_cons_zero, List.getElem?_cons_succ] at d0 d1 d2 d3 d4
      go_wp2_with (go_at_call 244; refine (hchk.out _).mono ?_; rintro e w1 ⟨rfl, hb1⟩; rw [show lchk x m = 0 from hxr])
      have hb3 := mStep hbl hb1
      go_roundg (n - (i + 1))
      case measure => have := hi.out; omega
      case rel => exact ⟨i + 1, by go_num, by have := hi.out; omega, ha.below (hb3.b.mono hb.b.size), mStep hb hb3⟩
    · go_wp2_with fail
      go_ret
      exact hP.out _ hb
end Go.Proofs.YtjnmkdahbcmfaaaGreat

/- look.Compare at right looks: no draw taken back. -/
namespace Go.Proofs.YtjnmkdahbcmfaaaGreat
open Go.ChangeShapes Go.WideShapes Go.ChangeAt Go.RowKit Go.Sort
set_option linter.unusedVariables false
def RetC2 (w : World) (r : Int) (e : Ending) (w' : World) : Prop := e = .returned (.tuple #[.int .i64 r, .int .i64 0]) ∧ BelowM w.heap.size w w'
theorem rd_two {W : World} {g : Nat} {x y : Lk} (q : Blk W g 45 #[.int .i64 x.n, .int .i64 x.a, .int .i64 x.b, .int .i64 x.c, .int .i64 x.d, .int .i64 y.n, .int .i64 y.a, .int .i64 y.b, .int .i64 y.c, .int .i64 y.d]) : RdL W W.heap.size (some ⟨g, 0, none⟩) 2 [x, y] := by
  refine ⟨rfl, .inr ⟨g, 0, rfl, q.lt, fun i z hz j hj => ?_⟩⟩
  have hi : i < 2 := (List.getElem?_eq_some_iff.1 hz).1
  have : i = 0 ∨ i = 1 := by omega
  have hj' : j = 0 ∨ j = 1 ∨ j = 2 ∨ j = 3 ∨ j = 4 := by omega
  rcases this with rfl | rfl <;> cases hz <;> rcases hj' with rfl | rfl | rfl | rfl | rfl <;> (rw [q.cell]; rfl)
theorem mDrwN {W0 W : World} (h : BelowM W0.heap.size W0 W) (n : Nat) : BelowM W0.heap.size W0 (W.drewN n) := by
  induction n with
  | zero => exact h
  | succ n ih => exact mDrw ih
set_option maxRecDepth 100000 in
set_option maxHeartbeats 4000000 in
theorem cmp_m (x y : Lk) (w : World) (hx : x.right 8) (hy : y.right 8) : Calls Tryz.prog 245 #[x.v, y.v] w (RetC2 w (lcmp x y)) := by
  have hF := Lib.hid (fun (r : Int) (w' : World) (h2 : BelowM w.heap.size w w') => (show RetC2 w r (.returned (.tuple #[.int .i64 r, .int .i64 0])) w' from ⟨rfl, h2⟩))
  have hRt := Lib.hid (fun (W : World) (g : Nat) (c : Nat) (h : RdL W W.heap.size (some ⟨g, 0, none⟩) 2 [x, y]) => right_m 8 (some ⟨g, 0, none⟩) 2 c [x, y] W (by omega) h (by intro z hz; rcases List.mem_cons.1 hz with rfl | hz; exact hx; rcases List.mem_cons.1 hz with rfl | hz; exact hy; cases hz) (by omega) (by omega))
  have hpq := Lib.hid (lcmp_part hx hy)
  have hal := Lib.hid (lcmp_all hx hy)
  have heq := Lib.hid (fun (h : lcmp x y = 0) => lcmp_eq hx hy h)
  have hbe := Lib.hid (fun (W : World) => look_eql x y (right_wf hx) (right_wf hy) W)
  unfold Lk.v
  go_enter Tryz.func245, Tryz.ntmps245
  go_upto_region 1 with (fail)
  have hb0 : BelowM w.heap.size w ((w.alloc (.cells #[.int .i64 x.n, .int .i64 x.a, .int .i64 x.b, .int .i64 x.c, .int .i64 x.d] 45)).alloc (.cells #[.int .i64 y.n, .int .i64 y.a, .int .i64 y.b, .int .i64 y.c, .int .i64 y.d] 45)) := mAlc (mAlc (BelowM.refl _ _) _) _
  have q1 : Blk ((w.alloc (.cells #[.int .i64 x.n, .int .i64 x.a, .int .i64 x.b, .int .i64 x.c, .int .i64 x.d] 45)).alloc (.cells #[.int .i64 y.n, .int .i64 y.a, .int .i64 y.b, .int .i64 y.c, .int .i64 y.d] 45)) w.heap.size 45 x.cells := (Blk.new _ _ _).alloc _
  have q2 : Blk ((w.alloc (.cells #[.int .i64 x.n, .int .i64 x.a, .int .i64 x.b, .int .i64 x.c, .int .i64 x.d] 45)).alloc (.cells #[.int .i64 y.n, .int .i64 y.a, .int .i64 y.b, .int .i64 y.c, .int .i64 y.d] 45)) (w.heap.size + 1) 45 y.cells := Blk.newAt _ _ _ _ (by simp)
  generalize (w.alloc (.cells #[.int .i64 x.n, .int .i64 x.a, .int .i64 x.b, .int .i64 x.c, .int .i64 x.d] 45)).alloc (.cells #[.int .i64 y.n, .int .i64 y.a, .int .i64 y.b, .int .i64 y.c, .int .i64 y.d] 45) = W1 at *
  have a0 := q1.cell 0
  have a1 := q1.cell 1
  have a2 := q1.cell 2
  have a3 := q1.cell 3
  have a4 := q1.cell 4
  have e0 := q2.cell 0
  have e1 := q2.cell 1
  have e2 := q2.cell 2
  have e3 := q2.cell 3
  have e4 := q2.cell 4
  simp only [Lk.cells, List.getElem?_toArray, List.getElem?_cons_zero, List.getElem?_cons_succ] at a0 a1 a2 a3 a4 e0 e1 e2 e3 e4
  go_upto_region 2 with (go_at_call 281; refine (hRt.out _ _ _ (rd_two (Blk.new _ _ _))).mono ?_; rintro e w3 ⟨rfl, hb3⟩)
  have Q1 := (q1.alloc (.cells #[.int .i64 x.n, .int .i64 x.a, .int .i64 x.b, .int .i64 x.c, .int .i64 x.d, .int .i64 y.n, .int .i64 y.a, .int .i64 y.b, .int .i64 y.c, .int .i64 y.d] 45)).step hb3.b
  have Q2 := (q2.alloc (.cells #[.int .i64 x.n, .int .i64 x.a, .int .i64 x.b, .int .i64 x.c, .int .i64 x.d, .int .i64 y.n, .int .i64 y.a, .int .i64 y.b, .int .i64 y.c, .int .i64 y.d] 45)).step hb3.b
  have hbw := mStep (mAlc hb0 (.cells #[.int .i64 x.n, .int .i64 x.a, .int .i64 x.b, .int .i64 x.c, .int .i64 x.d, .int .i64 y.n, .int .i64 y.a, .int .i64 y.b, .int .i64 y.c, .int .i64 y.d] 45)) hb3
  clear hb3 hb0 q1 q2 a0 a1 a2 a3 a4 e0 e1 e2 e3 e4 hRt
  have a0 := Q1.cell 0
  have a1 := Q1.cell 1
  have a2 := Q1.cell 2
  have a3 := Q1.cell 3
  have a4 := Q1.cell 4
  have e0 := Q2.cell 0
  have e1 := Q2.cell 1
  have e2 := Q2.cell 2
  have e3 := Q2.cell 3
  have e4 := Q2.cell 4
  simp only [Lk.cells, List.getElem?_toArray, List.getElem?_cons_zero, List.getElem?_cons_succ] at a0 a1 a2 a3 a4 e0 e1 e2 e3 e4
  have hCx := Lib.hid (fun (j : Nat) (hj : j < 4) => (Q1.cell (1 + j)).trans (Lk.cellAt x j hj))
  have hDx := Lib.hid (fun (j : Nat) (hj : j < 4) => (Q2.cell (1 + j)).trans (Lk.cellAt y j hj))
  have h1 := ((right_iff x 8).1 hx).2.1
  have h2 := ((right_iff y 8).1 hy).2.1
  obtain ⟨n, hn⟩ := Int.eq_ofNat_of_zero_le h1.1
  obtain ⟨m, hm⟩ := Int.eq_ofNat_of_zero_le h2.1
  have hE := hbe.out
  have hE2 := fun W => look_same x y (right_wf hx) (right_wf hy) W
  unfold Lk.v at hE hE2
  obtain ⟨eq, heqd⟩ : ∃ eq, eq = decide (x = y) := ⟨_, rfl⟩
  rw [← heqd] at hE hE2
  replace heqd := Lib.hid heqd
  generalize hs1 : x.s = s at *
  generalize hs2 : y.s = t at *
  generalize x.n = xn at *
  generalize x.a = xa at *
  generalize x.b = xb at *
  generalize x.c = xc at *
  generalize x.d = xd at *
  generalize y.n = yn at *
  generalize y.a = ya at *
  generalize y.b = yb at *
  generalize y.c = yc at *
  generalize y.d = yd at *
  subst hn hm
  cases eq
  · have hz : lcmp x y ≠ 0 := fun h => by have := heqd.out; rw [heq.out h] at this; simp at this
    generalize lcmp x y = R at *
    replace hz := Lib.hid hz
    go_upto_region 4 with (fail)
    clear hE hE2 a1 a2 a3 a4 e1 e2 e3 e4 hbe Q1 Q2 heq
    go_upto_region 5 with (fail)
    go_loopg [25] 4 (fun k i wr => ∃ j q : Nat, wr = w3.drewN q ∧ i = .int .i64 j ∧ j ≤ n ∧ j ≤ m ∧ j + k = 4 ∧ ∀ i : Nat, i < j → s i = t i)
    case atStart => exact ⟨0, 0, rfl, rfl, by omega, by omega, by omega, by intros; omega⟩
    case round =>
      obtain ⟨j, q, rfl, rfl, hj1, hj2, hj3, hg⟩ := hrel
      replace hg := Lib.hid hg
      replace hj3 := Lib.hid hj3
      by_cases ha : j < n
      · by_cases hb : j < m
        · have hj4 : j < 4 := by omega
          have hc := hCx.out j hj4
          have hd := hDx.out j hj4
          by_cases he : s j = t j
          · have hzb : (s j != t j) = false := by simp [he]
            have hG := Lib.hid (show ∀ i : Nat, i < j + 1 → s i = t i by
              intro i h1
              by_cases e : i = j
              · rw [e]; exact he
              · exact hg.out i (by omega))
            clear he
            go_wp2_with fail
            go_quiet (fail)
            go_wp2_with fail
            go_roundg (4 - (j + 1))
            case measure => have := hj3.out; omega
            case rel => exact ⟨j + 1, _, rfl, by go_num, by omega, by omega, by have := hj3.out; omega, hG.out⟩
          · have hzb : (s j != t j) = true := by simp [he]
            have hR := hpq.out j (by omega) (by omega) hg.out he
            by_cases hl : s j < t j
            · rw [if_pos hl] at hR
              subst hR
              clear he
              go_wp2_with fail
              go_quiet (fail)
              go_wp2_with fail
              go_quiet (fail)
              go_wp2_with fail
              go_ret2
              exact hF.out _ _ (mDrwN (mDrwN (mDrwN hbw _) _) _)
            · rw [if_neg hl] at hR
              subst hR
              clear he
              go_wp2_with fail
              go_quiet (fail)
              go_wp2_with fail
              go_quiet (fail)
              go_wp2_with fail
              go_ret2
              exact hF.out _ _ (mDrwN (mDrwN (mDrwN hbw _) _) _)
        · have hR := hal.out fun i _ _ => hg.out i (by omega)
          rw [if_neg (by omega)] at hR
          have hlt : m < n := by omega
          rw [if_pos (by omega)] at hR
          subst hR
          go_wp2_with fail
          go_ret2
          exact hF.out _ _ (mDrwN hbw _)
      · have hR := hal.out fun i _ _ => hg.out i (by omega)
        by_cases hlt : n < m
        · rw [if_pos (by omega)] at hR
          subst hR
          go_wp2_with fail
          go_ret2
          exact hF.out _ _ (mDrwN hbw _)
        · rw [if_neg (by omega)] at hR
          rw [if_neg (by omega)] at hR
          exact absurd hR hz.out
  · have hR0 : lcmp x y = 0 := by rw [show x = y from of_decide_eq_true heqd.out.symm]; exact lcmp_refl y
    clear hpq hal heq hbe
    generalize lcmp x y = R at *
    subst hR0
    go_wp2_with fail
    go_ret2
    exact hF.out _ _ hbw
end Go.Proofs.YtjnmkdahbcmfaaaGreat

/- the order of first.sorted, and slices.SortFunc with it. -/
namespace Go.Proofs.YtjnmkdahbcmfaaaGreat
open Go.ChangeShapes Go.WideShapes Go.ChangeAt Go.RowKit Go.Sort Go.Shelf
set_option linter.unusedVariables false
theorem cmp292 (x y : Lk) (w : World) (hx : x.right 8) (hy : y.right 8) : Calls Tryz.prog 292 #[x.v, y.v] w fun e w' => e = .returned (.int .i64 (lcmp x y)) ∧ Grew w w' := by
  have hO := Lib.hid (fun w => cmp_m x y w hx hy)
  have hG := Lib.hid (fun (w' : World) (h : BelowM w.heap.size w w') => h.grew)
  clear hx hy
  unfold Lk.v at *
  go_enter Tryz.func292, Tryz.ntmps292
  go_wp2_with (go_at_call 245; refine (hO.out _).mono ?_; rintro e w2 ⟨rfl, hb2⟩)
  go_ret
  exact ⟨rfl, hG.out _ (mStep (mAlc (mAlc (BelowM.refl _ _) _) _) hb2)⟩
theorem sortfunc2_any (l : List Lk) (v : Value) (base : Nat) (w : World) (hr : ∀ x ∈ l, x.right 8) (hn : l.Nodup) (hlen : l.length ≤ 1000000) (ho : OwnL w base v l) :
    Calls Tryz.prog 291 #[v, .func (.func 292) #[] #[]] w fun e w' => e = .returned (.tuple #[]) ∧ OwnL w' base v (lset l) ∧ w.grownBy w' v.ownBlock ∧ (lset l).length = l.length := by
  have hll : (lset l).length = l.length := by
    rw [← sorted_is_lset l hr hn, List.length_map, List.length_mergeSort]
    have := congrArg List.length (mkR_map l hr)
    simpa using this
  rcases ho.2 with ⟨rfl, h0⟩ | ⟨g, cap, cur, rfl, hbase, hb, h1, h2, h3, h4⟩
  · have hl0 : l = [] := List.eq_nil_of_length_eq_zero h0
    subst hl0
    refine (AnyF.slices_SortFunc_none Tryz.sortL none 0 (.func (.func 292) #[] #[]) w).mono ?_
    rintro e w' ⟨rfl, rfl⟩
    exact ⟨rfl, ho, ⟨rfl, rfl, rfl, Nat.le_refl _, fun _ _ _ => rfl⟩, hll⟩
  · have hg : g < w.heap.size := (Array.getElem?_eq_some_iff.1 hb).1
    have hH : HoldsK encR 5 w g 0 (mkR l hr).toArray := by
      unfold HoldsK
      rw [flatR, mkR_map]
      exact holds_ownL (cap := cap) (base := base) hb h4
    have hms : (mkR l hr).length = l.length := by simpa using congrArg List.length (mkR_map l hr)
    have hcmp : CmpLays Tryz.prog 292 #[] encR 5 cfR g 0 (mkR l hr).toArray.size w := fun m os dk _ x y => cmp292 x.x y.x _ x.h y.h
    have eg : ∀ args w, (callFunc 292 args).run Tryz.prog w = .ok (.enter 292 args) w := enters_of Tryz.func292 (by kernel_rfl) rfl
    have hcon := AnyQ.slices_SortFunc_total Tryz.sortL 5 aggR sizeR encR encR_len encR_one cfR swoR 292 #[] g 0 cap (mkR l hr).toArray w eg hcmp hH hg (by simp [hms]; omega) totR
    have hs : (mkR l hr).toArray.size = l.length := by simp [hms]
    rw [hs] at hcon
    refine Calls.mono hcon ?_
    rintro e w' ⟨rfl, n, os, rfl⟩
    have e1 : (mkR l hr).toArray.toList = mkR l hr := rfl
    have e2 : flatK encR 5 ((mkR l hr).mergeSort fun x y => !(ltOf cfR) y x).toArray = (cellsL (lset l)).toArray := by rw [flatR, sorted_is_lset l hr hn]
    unfold sortWorldK putRowK
    rw [e1, e2]
    have hlc : (cellsL (lset l)).length = l.length * 5 := by rw [cellsL_len, hll]
    refine ⟨rfl, ⟨by rw [hll]; exact hlc, .inr ⟨g, cap, putCells id 0 (cellsL (lset l)).toArray cur, by rw [hll], hbase, ?_, by omega, h2, by simp [putCells, h3], ?_⟩⟩, ⟨rfl, rfl, rfl, by simp, fun k hk hne => ?_⟩, hll⟩
    · rw [heap_grow_old _ _ (by simpa using hg)]
      simp [putRow, mapBlock, Sort.ahead, Array.getElem?_modify, hb, onCells]
    · rw [hll]
      apply List.ext_getElem?
      intro j
      by_cases hj : j < l.length * 5
      · have hjc : j < cur.size := by rw [h3]; have := Nat.mul_le_mul_right 5 h1; omega
        rw [List.getElem?_take_of_lt hj, Array.getElem?_toList]
        simp [putCells, hlc, hj, hjc]
      · rw [List.getElem?_take_eq_none (by omega), List.getElem?_eq_none (by omega)]
    · rw [heap_grow_old _ _ (by simpa using hk)]
      have : g ≠ k := fun e => hne (by rw [← e]; rfl)
      simp [putRow, mapBlock, Sort.ahead, Array.getElem?_modify, this]
end Go.Proofs.YtjnmkdahbcmfaaaGreat

/- maps.Keys over the looks of a map, as an iterator. -/
namespace Go.Proofs.YtjnmkdahbcmfaaaGreat
open Go.RowKit Go.Shelf
set_option linter.unusedVariables false
attribute [local go_sem] Oper.semAt_some
theorem IterL.of_walks {w w' : World} {b r : Nat} {s out : List Lk} (h : IterL w b r s out) (hk : KeepsWalks w w') : IterL w' b r s out := by
  obtain ⟨es, clock, since, seen, c0, h1, h2, h3, h4⟩ := h
  exact ⟨es, clock, since, seen, c0, hk.same b _ h1 rfl, h2, hk.same r _ h3 rfl, h4⟩
section
variable {F : Fence} {n : Nat} (w : World) {ops : Array Oper} {rest : List Oper} {o : Oper} {a : Act} {Q : Exit → Act → World → Prop}
theorem wpListIn_range_look {t : TypeId} (ht : Tryz.prog.underlying t = some (.map 45 4)) (hg : o.guard = none) (m : Operand) (hop : o.op = Op.range t m) (b : Nat) (s : List Lk) (hm : a.eval m = .map (some b)) (h : MapL w b s)
    (hK : ∀ w', IterL w' b w.heap.size s [] → Below w.heap.size w w' → wpListIn F n Tryz.prog ops Q rest (a.put o.dst (.pointer (some ⟨w.heap.size, 0, none⟩))) w') : wpListIn F n Tryz.prog ops Q (o :: rest) a w := by
  refine wpListIn_plain hg fun K' hK' => ?_
  obtain ⟨w', hrun, r1, r2⟩ := mapl_range ht h
  unfold Oper.wpIn
  refine ⟨by simp [Oper.about, hop], ?_⟩
  rw [Oper.semAt_plain F _ _ (by rw [hop]; intro c hc'; cases hc')]
  simp [execOp, hop, hm, hrun, Result.andThen]
  exact hK' _ _ (hK w' r1 r2)
theorem wpListIn_next_look (hg : o.guard = none) (it : Operand) (hop : o.op = Op.next it false) (b r : Nat) (s out : List Lk) (hit : a.eval it = .pointer (some ⟨r, 0, none⟩)) (h : IterL w b r s out)
    (hDone : (∀ x ∈ s, x ∈ out) → wpListIn F n Tryz.prog ops Q rest (a.put o.dst (.tuple #[.bool false])) w)
    (hMore : ∀ (x : Lk) (w' : World), x ∈ s → x ∉ out → IterL w' b r s (out ++ [x]) → (Instr.entry (.pointer (some ⟨r, 0, none⟩))).run Tryz.prog w' = .ok (.tuple #[x.v, .bool true]) w' → w.grownBy w' (some r) → w'.heap.size = w.heap.size →
      wpListIn F n Tryz.prog ops Q rest (a.put o.dst (.tuple #[.bool true, x.v, .bool true])) w') : wpListIn F n Tryz.prog ops Q (o :: rest) a w := by
  refine wpListIn_plain hg fun K' hK' => ?_
  unfold Oper.wpIn
  refine ⟨by simp [Oper.about, hop], ?_⟩
  rw [Oper.semAt_plain F _ _ (by rw [hop]; intro c hc'; cases hc')]
  rcases iterl_next h o.type with ⟨h0, hrun⟩ | ⟨x, hx, hxo, w', hrun, r1, r2, r3, r4⟩
  · simp [execOp, hop, hit, hrun, Result.andThen]
    exact hK' _ _ (hDone h0)
  · simp [execOp, hop, hit, hrun, Result.andThen]
    exact hK' _ _ (hMore x w' hx hxo r1 r2 r3 r4)
end
def encL (x : Lk) : Array Value := #[x.v]
theorem IterL.walk {w : World} {b r : Nat} {s out : List Lk} (h : IterL w b r s out) : ∃ o : Obj, w.heap[r]? = some o ∧ o.isWalk = true := by
  obtain ⟨es, clock, since, seen, c0, h1, h2, h3, h4⟩ := h
  exact ⟨_, h3, rfl⟩
def KeyS (s : List Lk) (out : List Lk) : Prop := out.Nodup ∧ (∀ x ∈ out, x ∈ s) ∧ ∀ x ∈ s, x ∈ out
def KeyP (s : List Lk) (out : List Lk) : Prop := out.Nodup ∧ ∀ x ∈ out, x ∈ s
theorem underL : Tryz.prog.underlying 279 = some (.map 45 4) := by kernel_rfl
end Go.Proofs.YtjnmkdahbcmfaaaGreat

/- maps.Keys over the looks of a map, as an iterator: its contract. -/
namespace Go.Proofs.YtjnmkdahbcmfaaaGreat
open Go.RowKit Go.Shelf
set_option linter.unusedVariables false
attribute [local go_sem] Oper.semAt_some
set_option maxRecDepth 100000 in
set_option maxHeartbeats 2000000 in
theorem keys_stops (n : Nat) (hn : 1 ≤ n) (Bm b : Nat) (s : List Lk) (w : World) (hBm : w.cell? ⟨Bm, 0, none⟩ = some (.map (some b))) (hm : MapL w b s) :
    SeqStopsK Fence.wide n Tryz.prog 309 #[.pointer (some ⟨Bm, 0, none⟩)] encL KeepsWalks (KeyS s) (KeyP s) s.length w := by
  intro l J Jx W hW hJ _ hY h0
  have hc := (hW.cell (p := ⟨Bm, 0, none⟩) (block_lt_of_cell hBm)).trans hBm
  have hmW : MapL W b s := by
    obtain ⟨es, clock, h1, h2⟩ := hm
    exact ⟨es, clock, (hW.block b (Array.getElem?_eq_some_iff.1 h1).1).trans h1, h2⟩
  refine callsIn_of_wp Tryz.func309 rfl trivial ?_ rfl
  simp only [Tryz.ntmps309, List.size_toArray, List.length_cons, List.length_nil, Nat.reduceAdd, Nat.reduceSub, Array.replicate_succ, Array.replicate_zero, List.push_toArray, List.append_toArray, List.nil_append, List.cons_append]
  replace hJ := Lib.hid hJ
  replace hY := Lib.hid hY
  replace hmW := Lib.hid hmW
  clear hm hBm hW
  gi_wp2_with (first
    | (gi_at_range; refine wpListIn_range_look _ underL rfl _ rfl b s rfl hmW.out ?_; intro w0 hit hb0; replace hit := Lib.hid hit; replace hb0 := Lib.hid hb0)
    | gi_in)
  go_frame
  have hz0 := hb0.out.size
  have hJ0 : J [] w0 := hJ.out [] W w0 none h0 (grown_of_below hb0.out) (by simp)
  gi_loopg [3] s.length (fun gk _ wr => ∃ out : List Lk, out.length + gk = s.length ∧ IterL wr b W.heap.size s out ∧ J out wr)
  case atStart => exact ⟨[], by simp, hit.out, hJ0⟩
  case round =>
    obtain ⟨out, hlo, hit, hJs⟩ := hrel
    replace hlo := Lib.hid hlo
    replace hit := Lib.hid hit
    gi_wp2_with (first
      | (gi_at_next; refine wpListIn_next_look _ rfl _ rfl b W.heap.size s out rfl hit.out ?_ ?_)
      | gi_in)
    · intro hall
      gi_wp2
      go_end0
      exact ⟨⟨_, rfl⟩, .inl ⟨out, ⟨hit.out.parts.1, hit.out.parts.2.1, hall⟩, hJs⟩⟩
    · intro x w2 hxs hxo hit2 hen hg2 hs2
      have hlen2 := nodup_len hit2.parts.1 hit2.parts.2.1
      rw [List.length_append, List.length_singleton] at hlen2
      have hJ2 : J out w2 := hJ.out out wr w2 (some W.heap.size) hJs hg2 (fun r e => by cases e; exact ⟨Nat.le_refl _, hit.out.walk⟩)
      have hJ3 : J out (lay5 w2 x) := hJ.out out w2 _ none hJ2 (grown_of_below (lay5_below w2 x)) (by simp)
      have hit3 := hit2.grown (grown_of_below (lay5_below w2 x)) (by simp) (by simp)
      obtain ⟨fn, tmps, assign, body, hy, hR⟩ := hY.out out x _ hJ3 (by omega)
      unfold encL Lk.v at hy
      unfold lay5 at hy hR hit3
      unfold Lk.v at hen
      replace hR := Lib.hid hR
      replace hit3 := Lib.hid hit3
      replace hit2 := Lib.hid hit2
      have hlo2 := Lib.hid (show (out ++ [x]).length + (s.length - (out.length + 1)) = s.length by rw [List.length_append, List.length_singleton]; omega)
      clear hs2 hg2 hJ2 hJ3 hlen2
      gi_wp2
      refine hR.out.mono ?_
      rintro e W3 (⟨rfl, hJ3, hk3⟩ | ⟨rfl, hJx3⟩)
      · gi_wp2
        go_roundg (s.length - (out.length + 1))
        case measure => have := hlo.out; have := hlo2.out; rw [List.length_append, List.length_singleton] at this; omega
        case rel => exact ⟨out ++ [x], hlo2.out, hit3.out.of_walks hk3, hJ3⟩
      · gi_wp2
        refine bodyPost_ret (results_none rfl _ _ _) rfl ?_
        exact ⟨⟨_, rfl⟩, .inr ⟨out ++ [x], ⟨hit2.out.parts.1, hit2.out.parts.2.1⟩, hJx3⟩⟩
end Go.Proofs.YtjnmkdahbcmfaaaGreat

/- slices.AppendSeq(nil, maps.Keys(m)) over looks. -/
namespace Go.Proofs.YtjnmkdahbcmfaaaGreat
open Go.RowKit Go.Shelf
set_option linter.unusedVariables false
attribute [local go_sem] Oper.semAt_some
section
variable {F : Fence} {n : Nat} (w : World) {ops : Array Oper} {rest : List Oper} {o : Oper} {a : Act} {Q : Exit → Act → World → Prop}
theorem wpListIn_pushL (hgd : o.guard = none) (s x : Operand) (ho : o.op = .call { callee := .builtin .append, args := #[s, x], argTypes := #[147, 147] })
    (base : Nat) (v : Value) (l : List Lk) (hs : a.eval s = v) (hown : OwnL w base v l) (g : Nat) (k : Lk) (hx : a.eval x = .slice (some ⟨g, 0, none⟩) 1 1) (hb : Blk w g 45 k.cells) (h63 : l.length < 1000000) (hbase : base ≤ w.heap.size)
    (h : ∀ v' w', OwnL w' base v' (l ++ [k]) → w.grownBy w' v.ownBlock → wpListIn F n Tryz.prog ops Q rest (a.put o.dst v') w') : wpListIn F n Tryz.prog ops Q (o :: rest) a w := by
  obtain ⟨i0, hi0, hz0, hz1, hz2⟩ := info_parts info42
  have ht : Tryz.prog.underlying 147 = some (.slice 45) := by kernel_rfl
  refine wpListIn_append_own w hgd s x 147 ho base 45 i0 _ 5 40 ht hi0 hz0 hz1 hz2 rfl (by omega) v l.length (cellsL l) hs hown ⟨g, 0, none⟩ 1 1 k.cells.toList hx (by simp [Lk.cells]) (fun j u hu => ?_) (by simp [Lk.cells, Value.oneCell']) (by simp [maxLen]; omega) (by omega) hbase ?_
  · have := hb.cell j
    rw [show (⟨g, 0, none⟩ : Addr).add j = ⟨g, j, none⟩ by unfold Addr.add; split <;> simp_all, this, ← Array.getElem?_toList]; exact hu
  · intro v' w' h2 h3 h4
    refine h v' w' ?_ h3
    unfold OwnL
    rw [cellsL_append, List.length_append]
    have : cellsL [k] = k.cells.toList := by simp [cellsL]
    rw [this]
    exact h2
end
end Go.Proofs.YtjnmkdahbcmfaaaGreat

/- slices.AppendSeq(nil, seq) and slices.Collect over looks, for whatever iterator. -/
namespace Go.Proofs.YtjnmkdahbcmfaaaGreat
open Go.RowKit Go.Shelf
set_option linter.unusedVariables false
attribute [local go_sem] Oper.semAt_some
def KpB (B : Nat) (A C : World) : Prop := KeepsWalks A C ∧ Below B A C
theorem kpB_t {B : Nat} {A C D : World} (h : KpB B A C) (k : KpB B C D) : KpB B A D := ⟨h.1.trans k.1, h.2.trans k.2⟩
theorem kpB_b {w : World} {B : Nat} (hn : B ≤ w.heap.size) (W : World) (l : Nat) (o o' : Obj) (hl : w.heap.size ≤ l) (h : W.heap[l]? = some o) (hc : o.isCells = false) (hw : o.isWalk = false) : KpB B W (W.putObj l o') := ⟨walksK_b (w := w) W l o o' hl h hc hw, belowK_b hn W l o o' hl h hc hw⟩
theorem seqK_mono {α : Type} {F : Fence} {n : Nat} {P : Program} {g : Nat} {lb : Array Value} {encs : α → Array Value} {Kp Kp' : World → World → Prop} {S Sp : List α → Prop} {N : Nat} {w : World} (hK : ∀ A B, Kp' A B → Kp A B)
    (h : SeqStopsK F n P g lb encs Kp S Sp N w) : SeqStopsK F n P g lb encs Kp' S Sp N w := fun l J Jx W hb hJ hJx hY h0 =>
  h l J Jx W hb hJ hJx (fun pre x W1 hj hl => (hY pre x W1 hj hl).mono fun e W' hq => hq.imp (fun hq => ⟨hq.1, hq.2.1, hK _ _ hq.2.2⟩) id) h0
def ApI (w : World) (pre : List Lk) (W : World) : Prop := (∃ v, Boxed W w.heap.size 147 v ∧ W.ownsRow w.heap.size 45 5 v pre.length (cellsL pre) ∧ True) ∧ Below w.heap.size w W
theorem apI_own {B : Nat} (w : World) (h : w.heap.size ≤ B) : OwnFrom B (ApI w) := OwnFrom.and (Own.from (holdsRow_own w.heap.size w.heap.size 147 45 5 (fun l : List Lk => l.length) (fun l => cellsL l) (fun _ _ => True)) _) (ownFrom_below (Nat.le_refl _) h)
def RetAp (w : World) (S : List Lk → Prop) (e : Ending) (w' : World) : Prop := ∃ v out, e = .returned v ∧ S out ∧ OwnL w' w.heap.size v out ∧ Below w.heap.size w w'
set_option maxRecDepth 100000 in
set_option maxHeartbeats 4000000 in
theorem appendSeq_any (gf : Nat) (lb : Array Value) (S Sp : List Lk → Prop) (N : Nat) (w : World) (eg : ∀ args w, (callFunc gf args).run Tryz.prog w = .ok (.enter gf args) w)
    (hseq : ∀ w1, Below w.heap.size w w1 → SeqStopsK Fence.wide 5 Tryz.prog gf lb encL (KpB w.heap.size) S Sp N w1) (hlen : N ≤ 900000) :
    Calls Tryz.prog 289 #[.slice none 0 0, .func (.func gf) #[] lb] w (RetAp w S) := by
  refine (callsIn_wide (n := 6)).1 ?_
  refine callsIn_of_wp_marks Tryz.func289 rfl trivial ?_ rfl
  simp only [Tryz.ntmps289, List.size_toArray, List.length_cons, List.length_nil, Nat.reduceAdd, Nat.reduceSub, Array.replicate_succ, Array.replicate_zero, List.push_toArray, List.append_toArray, List.nil_append, List.cons_append]
  have hseq' := Lib.hid hseq
  clear hseq
  gi_wp2
  have hb1 : Below w.heap.size w (w.alloc (.cells #[.slice none 0 0] 147)) := bAlc (Below.refl _ _) _
  have hI0 : ApI w [] (w.alloc (.cells #[.slice none 0 0] 147)) := ⟨⟨_, Boxed.new _ _ _, OwnL.nil _ _, trivial⟩, bAlc (Below.refl _ _) _⟩
  have hs1 : (w.alloc (.cells #[.slice none 0 0] 147)).heap.size = w.heap.size + 1 := by simp
  have hlen' := Lib.hid hlen
  generalize w.alloc (.cells #[.slice none 0 0] 147) = w1 at *
  have hw1 : w.heap.size ≤ w1.heap.size := by omega
  refine wpIn_rangeFunc_ownH (F := Fence.wide) rfl (by omega) (gf := gf) (lb := lb) rfl trivial eg
    (hseq'.out w1 hb1) kpB_t (kpB_b hw1) (Below.refl _ _) (fun _ => rfl)
    (ApI w) (fun _ _ _ => False) (apI_own w hw1) (fun _ _ _ _ _ h _ _ => h) hI0
    (fun x a' W => ∃ Bx, w.heap.size < Bx ∧ Blk W Bx 45 x.cells ∧ ∃ (u7 u8 u9 u10 u11 u12 : Value), a' = { tmps := #[.slice none 0 0, .func (.func gf) #[] lb, .pointer (some ⟨w.heap.size, 0, none⟩), undef, .slice none 0 0, .pointer (some ⟨Bx, 0, none⟩), .func (.func gf) #[] lb, u7, u8, u9, u10, u11, u12], defers := [] })
    (fun x a' _ X Y row hs hg hr => by obtain ⟨Bx, h1, h2, h3⟩ := hs; exact ⟨Bx, h1, blk_own Bx 45 (fun (_ : Unit) => x.cells) () X Y row h2 hg (fun r e => (hr r e).2), h3⟩)
    ?assign ?body ?done ?stop
  case assign =>
    rintro l pre x W K ⟨⟨v, hv, hr, _⟩, hb⟩ hK
    dsimp only [encL]
    unfold Lk.v
    gi_wp2
    exact hK _ _ ((KeepsOthers.alloc _ _).from _) ⟨(KeepsOthers.alloc _ _).walks, (Below.refl _ W).alloc hb.size _⟩ ⟨⟨v, hv.alloc _, hr.alloc _, trivial⟩, bAlc hb _⟩ ⟨W.heap.size, by have := hv.lt; omega, Blk.new W 45 _, _, _, _, _, _, _, rfl⟩
  case body =>
    rintro l pre x a' W hl ⟨r, hr⟩ ⟨⟨v, hv, hrow, _⟩, hb⟩ ⟨Bx, hBx, bX, u7, u8, u9, u10, u11, u12, rfl⟩ hlt
    have p0 := bX.cell 0
    have p1 := bX.cell 1
    have p2 := bX.cell 2
    have p3 := bX.cell 3
    have p4 := bX.cell 4
    simp only [Lk.cells, List.getElem?_toArray, List.getElem?_cons_zero, List.getElem?_cons_succ] at p0 p1 p2 p3 p4
    have r0 := hv.cell
    have f0 := hv.frozen
    have hlt' := hlen'.out
    have hrow' := Lib.hid hrow
    clear hr hseq'
    gi_wp2_with (first
      | (gi_at_builtin; refine wpListIn_pushL _ rfl _ _ rfl w.heap.size v pre rfl (OwnL.alloc hrow'.out _) W.heap.size x rfl (Blk.new W 45 x.cells) (by omega) (by have := hb.size; simp; omega) ?_; intro v' w3 hown' hg3
         have hA := Boxed.appended (tmp := .cells x.cells 45) hv (by decide) hrow'.out hb.size (Nat.le_refl _) hown' hg3
         obtain ⟨g', cap', rfl⟩ := ownsRow_succ (k := pre.length) (by have := hown'; unfold OwnL at this; rw [List.length_append, List.length_singleton] at this; exact this)
         have r1 := hA.1.cell
         have f1 := hA.1.frozen
         replace hown' := Lib.hid hown'
         replace hA := Lib.hid hA
         go_frame)
      | gi_in)
    obtain ⟨a1, a2, a3, a4, a5⟩ := hA.out
    exact ⟨a4.from _, ⟨a4.walks, a5⟩, ⟨_, a2, a3, trivial⟩, hb.trans a5⟩
  case done =>
    rintro D ys W hD hS ⟨⟨v, hv, hrow, _⟩, hb⟩ hK
    have r0 := hv.cell
    have f0 := hv.frozen
    gi_wp2
    refine ⟨by simp, .inl ⟨_, _, rfl, run_takeDeferred hK, ?_⟩⟩
    exact ⟨_, results_tmp rfl _ _ _, v, ys, rfl, hS, ownsRow_putObj hrow _ hK rfl, hb.trans (belowK_b (w := w1) hw1 _ D _ _ hD hK rfl rfl)⟩
  case stop =>
    rintro D c pre W hD _ hf
    exact hf.elim
theorem collect_any (gf : Nat) (lb : Array Value) (S Sp : List Lk → Prop) (N : Nat) (w : World) (eg : ∀ args w, (callFunc gf args).run Tryz.prog w = .ok (.enter gf args) w)
    (hseq : ∀ w1, Below w.heap.size w w1 → SeqStopsK Fence.wide 5 Tryz.prog gf lb encL (KpB w.heap.size) S Sp N w1) (hlen : N ≤ 900000) :
    Calls Tryz.prog 269 #[.func (.func gf) #[] lb] w (RetAp w S) := by
  have hC := Lib.hid (appendSeq_any gf lb S Sp N w eg hseq hlen)
  clear hseq eg
  go_enter Tryz.func269, Tryz.ntmps269
  go_wp2_with (go_at_call 289; refine hC.out.mono ?_; rintro e w2 ⟨v, out, rfl, hS, ho, hb⟩)
  go_ret
  exact ⟨v, out, rfl, hS, ho, hb⟩
end Go.Proofs.YtjnmkdahbcmfaaaGreat

/- Helpers that make walks short. -/
namespace Go.Proofs.YtjnmkdahbcmfaaaGreat
open Go.ChangeShapes Go.WideShapes Go.ChangeAt Go.RowKit
set_option linter.unusedVariables false
theorem opq {P : Program} {f : FuncId} {args : Array Value} {w : World} {Q : Ending → World → Prop} (h : ∀ RR : Ending → World → Prop, Hid (∀ e w', Q e w' → RR e w') → Calls P f args w RR) : Calls P f args w Q := h Q (Lib.hid fun _ _ h => h)
theorem bel {p : Prop} (h : p := by repeat (first | assumption | exact Below.refl _ _ | (refine bStep ?_ (by assumption)) | (with_reducible refine bAlc ?_ _) | (with_reducible refine bDrw ?_))) : p := h
theorem Blk.c {W : World} {g : Nat} {t : TypeId} {cs : Array Value} (q : Blk W g t cs) (i : Nat) {v : Value} (h : cs[i]? = some v := by rfl) : W.cell? ⟨g, i, none⟩ = some v := (q.cell i).trans h
theorem GB.fr {w : World} {g : Gr} {a : GA} (h : GrAt w w.heap.size g a) : Hid (∀ X, Below (w.alloc (.cells (gcells g a) 25)).heap.size (w.alloc (.cells (gcells g a) 25)) X → GB w g a X) := Lib.hid fun X hb => (GB.start h).step hb
theorem GB.at {w : World} {g : Gr} {a : GA} {W : World} (h : GB w g a W) : GrAt W W.heap.size g a := h.2.1.mono h.2.2.size
end Go.Proofs.YtjnmkdahbcmfaaaGreat

/- slices.Values over looks; first.sorted. -/
namespace Go.Proofs.YtjnmkdahbcmfaaaGreat
open Go.RowKit Go.Shelf
set_option linter.unusedVariables false
attribute [local go_sem] Oper.semAt_some
theorem take_succ_get {l : List Lk} {k : Nat} {x : Lk} (h : l[k]? = some x) : l.take (k + 1) = l.take k ++ [x] := by
  rw [List.take_add_one, h]; rfl
set_option maxRecDepth 100000 in
set_option maxHeartbeats 2000000 in
theorem values_stops (n : Nat) (hn : 1 ≤ n) (Bs n₀ : Nat) (A : Option Addr) (len c : Nat) (l : List Lk) (w : World) (hBs : w.cell? ⟨Bs, 0, none⟩ = some (.slice A len c)) (hlt : Bs < w.heap.size) (hn₀ : n₀ ≤ w.heap.size) (hR : RdL w n₀ A len l) (hlen : len ≤ 900000) :
    SeqStopsK Fence.wide n Tryz.prog 312 #[.pointer (some ⟨Bs, 0, none⟩)] encL (Below n₀) (fun out => out = l) (fun pre => True) len w := by
  intro lb J Jx W hW hJ _ hY h0
  have hc := (hW.cell (p := ⟨Bs, 0, none⟩) hlt).trans hBs
  have hRW : RdL W n₀ A len l := hR.below (hW.mono hn₀)
  have hn0 : n₀ ≤ W.heap.size := Nat.le_trans hn₀ hW.size
  have hll := Lib.hid hR.1
  refine callsIn_of_wp Tryz.func312 rfl trivial ?_ rfl
  simp only [Tryz.ntmps312, List.size_toArray, List.length_cons, List.length_nil, Nat.reduceAdd, Nat.reduceSub, Array.replicate_succ, Array.replicate_zero, List.push_toArray, List.append_toArray, List.nil_append, List.cons_append]
  replace hJ := Lib.hid hJ
  replace hY := Lib.hid hY
  clear hR hBs hW
  gi_wp2
  gi_loopg [7] len (fun gk s7 wr => ∃ k : Nat, s7 = .int .i64 k ∧ k + gk = len ∧ J (l.take k) wr ∧ Below n₀ W wr ∧ W.heap.size ≤ wr.heap.size)
  case atStart => exact ⟨0, rfl, by omega, h0, Below.refl _ _, Nat.le_refl _⟩
  case round =>
    obtain ⟨k, rfl, hk, hJs, hnx, hge⟩ := hrel
    replace hk := Lib.hid hk
    by_cases hkl : k < len
    · have hil : k < l.length := by have := hll.out; omega
      have hx : l[k]? = some l[k] := List.getElem?_eq_getElem hil
      obtain ⟨b, off, rfl, hbt, x0, x1, x2, x3, x4⟩ := (hRW.below hnx).get hx
      have hsu := Lib.hid (take_succ_get hx)
      generalize hy : l[k] = x at *
      replace hy := Lib.hid hy
      replace hx := Lib.hid hx
      have hbA : Below n₀ wr (lay5 wr x) := (lay5_below wr x).mono (by omega)
      have hJ3 : J (l.take k) (lay5 wr x) := hJ.out _ wr _ none hJs (grown_of_below (lay5_below wr x)) (by simp)
      obtain ⟨fn, tmps, assign, body, hy, hR2⟩ := hY.out (l.take k) x _ hJ3 (by rw [List.length_take]; have := hll.out; omega)
      unfold encL Lk.v at hy
      unfold lay5 at hy hR2 hbA
      replace hR2 := Lib.hid hR2
      replace hbA := Lib.hid hbA
      have hk2 := Lib.hid (show k + 1 + (len - (k + 1)) = len by omega)
      clear hJ3
      gi_wp2
      refine hR2.out.mono ?_
      rintro e W3 (⟨rfl, hJ3, hk3⟩ | ⟨rfl, hJx3⟩)
      · gi_wp2
        go_roundg (len - (k + 1))
        case measure => have := hk.out; omega
        case rel => exact ⟨k + 1, by go_num, hk2.out, by rw [hsu.out]; exact hJ3, hnx.trans (hbA.out.trans hk3), Nat.le_trans hge (hbA.out.trans hk3).size⟩
      · gi_wp2
        refine bodyPost_ret (results_none rfl _ _ _) rfl ?_
        exact ⟨⟨_, rfl⟩, .inr ⟨l.take k ++ [x], trivial, hJx3⟩⟩
    · obtain rfl : k = len := by have := hk.out; omega
      have hfull : l.take k = l := List.take_of_length_le (by have := hll.out; omega)
      rw [hfull] at hJs
      gi_wp2
      go_end0
      exact ⟨⟨_, rfl⟩, .inl ⟨l, rfl, hJs⟩⟩
theorem egV : ∀ args w, (callFunc 312 args).run Tryz.prog w = .ok (.enter 312 args) w := enters_of Tryz.func312 (by kernel_rfl) rfl
theorem egK : ∀ args w, (callFunc 309 args).run Tryz.prog w = .ok (.enter 309 args) w := enters_of Tryz.func309 (by kernel_rfl) rfl
theorem values_any (A : Option Addr) (len c : Nat) (w : World) : Calls Tryz.prog 293 #[.slice A len c] w fun e w' => e = .returned (.func (.func 312) #[] #[.pointer (some ⟨w.heap.size, 0, none⟩)]) ∧ w' = w.alloc (.cells #[.slice A len c] 147) := by
  refine opq fun RR hR => ?_
  go_enter Tryz.func293, Tryz.ntmps293
  go_wp2_with fail
  exact hR.out _ _ ⟨rfl, rfl⟩
theorem keys_any (b : Nat) (w : World) : Calls Tryz.prog 290 #[.map (some b)] w fun e w' => e = .returned (.func (.func 309) #[] #[.pointer (some ⟨w.heap.size, 0, none⟩)]) ∧ w' = w.alloc (.cells #[.map (some b)] 279) := by
  refine opq fun RR hR => ?_
  go_enter Tryz.func290, Tryz.ntmps290
  go_wp2_with fail
  exact hR.out _ _ ⟨rfl, rfl⟩
end Go.Proofs.YtjnmkdahbcmfaaaGreat

/- FIRST of the program, plainly: sets of looks as predicates. -/
namespace Go.Proofs.YtjnmkdahbcmfaaaGreat
open Go.ChangeShapes Go.WideShapes Go.ChangeAt Go.RowKit
set_option linter.unusedVariables false
def thenP (k : Int) (J : Lk → Lk → Lk) (A B : Lk → Prop) (z : Lk) : Prop := ∃ x, A x ∧ ((x.n = k ∧ z = x ∧ ∃ y, B y) ∨ (x.n ≠ k ∧ ∃ y, B y ∧ z = J x y))
def oneK (s : Int) : Lk := ⟨1, s, 0, 0, 0⟩
def nilK : Lk := ⟨0, 0, 0, 0, 0⟩
def symP (T : Nat → Lk → Prop) (s : Int) (z : Lk) : Prop := if s < 16 then z = oneK s else T (s - 16).toNat z
def ofP (k : Int) (J : Lk → Lk → Lk) (T : Nat → Lk → Prop) : (Lk → Prop) → List Int → Lk → Prop
  | A, [] => A
  | A, s :: r => ofP k J T (thenP k J A (symP T s)) r
theorem thenP_mono {k : Int} {J : Lk → Lk → Lk} {A A' B B' : Lk → Prop} (h1 : ∀ z, A z → A' z) (h2 : ∀ z, B z → B' z) (z : Lk) (h : thenP k J A B z) : thenP k J A' B' z := by
  obtain ⟨x, hx, h⟩ := h
  refine ⟨x, h1 x hx, ?_⟩
  rcases h with ⟨a, b, y, hy⟩ | ⟨a, y, hy, b⟩
  · exact .inl ⟨a, b, y, h2 y hy⟩
  · exact .inr ⟨a, y, h2 y hy, b⟩
theorem symP_mono {T T' : Nat → Lk → Prop} (h : ∀ i z, T i z → T' i z) (s : Int) (z : Lk) (hz : symP T s z) : symP T' s z := by
  unfold symP at *
  split
  · rename_i hs; rw [if_pos hs] at hz; exact hz
  · rename_i hs; rw [if_neg hs] at hz; exact h _ _ hz
theorem ofP_mono {k : Int} {J : Lk → Lk → Lk} {T T' : Nat → Lk → Prop} (h : ∀ i z, T i z → T' i z) : ∀ (l : List Int) (A A' : Lk → Prop), (∀ z, A z → A' z) → ∀ z, ofP k J T A l z → ofP k J T' A' l z
  | [], A, A', h1, z, hz => h1 z hz
  | s :: l, A, A', h1, z, hz => ofP_mono h l _ _ (fun z hz => thenP_mono h1 (symP_mono h s) z hz) z hz
def Closed1 (k : Int) (J : Lk → Lk → Lk) (T : Nat → Lk → Prop) (p : Pr) : Prop := ∀ z, ofP k J T (· = nilK) p.right z → T (p.left - 16).toNat z
def ClosedP (k : Int) (J : Lk → Lk → Lk) (T : Nat → Lk → Prop) (ps : List Pr) : Prop := ∀ p ∈ ps, Closed1 k J T p
theorem done_snoc {k : Int} {J : Lk → Lk → Lk} {l : List Lk} {x : Lk} {B : Lk → Prop} (z : Lk) : thenP k J (· ∈ l ++ [x]) B z ↔ thenP k J (· ∈ l) B z ∨ ((x.n = k ∧ z = x ∧ ∃ y, B y) ∨ (x.n ≠ k ∧ ∃ y, B y ∧ z = J x y)) := by
  constructor
  · rintro ⟨y, hy, h⟩
    rcases List.mem_append.1 hy with hy | hy
    · exact .inl ⟨y, hy, h⟩
    · rw [List.mem_singleton.1 hy] at h; exact .inr h
  · rintro (⟨y, hy, h⟩ | h)
    · exact ⟨y, List.mem_append_left _ hy, h⟩
    · exact ⟨x, by simp, h⟩
end Go.Proofs.YtjnmkdahbcmfaaaGreat

/- first: then. -/
namespace Go.Proofs.YtjnmkdahbcmfaaaGreat
open Go.ChangeShapes Go.WideShapes Go.ChangeAt Go.RowKit
set_option linter.unusedVariables false
set_option maxRecDepth 100000
theorem underLM : Tryz.prog.underlying 279 = some (.map 45 4) := by kernel_rfl
theorem gbel {W W' : World} (h : Below W.heap.size W W') : W.grownBy W' none := ⟨h.os, h.tape, h.output, h.size, fun i hi _ => h.block i hi⟩
theorem wf64 {n : Int} (h0 : 0 ≤ n) (h1 : n ≤ 1000) : (Lit.int .i64 n).wf = true := by
  have e1 : IntKind.i64.min = -9223372036854775808 := by decide
  have e2 : IntKind.i64.max = 9223372036854775807 := by decide
  simp only [Lit.wf, e1, e2, Bool.and_eq_true, decide_eq_true_eq]; omega
theorem oneK_wf {s : Int} (h0 : 0 ≤ s) (h1 : s ≤ 1000) : (oneK s).wf := ⟨wf64 (by simp [oneK]) (by simp [oneK]), wf64 h0 h1, wf64 (by simp [oneK]) (by simp [oneK]), wf64 (by simp [oneK]) (by simp [oneK]), wf64 (by simp [oneK]) (by simp [oneK])⟩
theorem IterL.later {w w' : World} {b r : Nat} {s out : List Lk} (h : IterL w b r s out) (hb : Below w.heap.size w w') : IterL w' b r s out := h.grown (gbel hb) (by simp) (by simp)
theorem IterL.lts {w : World} {b r : Nat} {s out : List Lk} (h : IterL w b r s out) : b < w.heap.size ∧ r < w.heap.size ∧ b ≠ r := by
  obtain ⟨es, clock, since, seen, c0, h1, _, h3, _⟩ := h
  refine ⟨(Array.getElem?_eq_some_iff.1 h1).1, (Array.getElem?_eq_some_iff.1 h3).1, ?_⟩
  rintro rfl
  rw [h1] at h3; cases h3
theorem MapL.wfs {w : World} {b : Nat} {s : List Lk} (h : MapL w b s) : ∀ x ∈ s, x.wf := by
  obtain ⟨es, clock, h1, h2, h3, h4, h5⟩ := h
  exact h4
theorem IterL.sub {w : World} {b r : Nat} {s out : List Lk} (h : IterL w b r s out) : out.Nodup ∧ (∀ x ∈ out, x ∈ s) ∧ s.Nodup := by
  obtain ⟨es, clock, since, seen, c0, h1, h2, h3, h4, h5, h6, h7, h8, h9⟩ := h
  exact ⟨h8, h9, h2.2.2.2.1⟩
theorem sub_len {out s : List Lk} (h1 : out.Nodup) (h2 : ∀ x ∈ out, x ∈ s) : out.length ≤ s.length := by
  induction out generalizing s with
  | nil => simp
  | cons x out ih =>
    obtain ⟨hx, hn⟩ := List.nodup_cons.1 h1
    have hm := h2 x List.mem_cons_self
    have := ih (s := s.erase x) hn (fun y hy => (List.mem_erase_of_ne (by rintro rfl; exact hx hy)).2 (h2 y (List.mem_cons_of_mem _ hy)))
    rw [List.length_erase_of_mem hm] at this
    have : 0 < s.length := List.length_pos_of_mem hm
    simp; omega
structure TW (w : World) (tb : Nat) (cs : Array Value) (bA : Nat) (sA : List Lk) (bo : Nat) (o : List Lk) (W : World) : Prop where
  box : Blk W tb 276 cs
  after : MapL W bA sA
  out : MapL W bo o
  bel : Below w.heap.size w W
  ge : w.heap.size ≤ bo
  ne : tb ≠ bo
  na : bA ≠ bo
section
variable {w W W' : World} {tb bA bo : Nat} {cs : Array Value} {sA o o' : List Lk}
theorem MapL.lt {w : World} {b : Nat} {s : List Lk} (h : MapL w b s) : b < w.heap.size := by
  obtain ⟨es, clock, h1, h2⟩ := h
  exact (Array.getElem?_eq_some_iff.1 h1).1
theorem TW.step (h : TW w tb cs bA sA bo o W) (hb : Below W.heap.size W W') : TW w tb cs bA sA bo o W' :=
  ⟨h.box.step hb, h.after.grown (gbel hb) (by simp), h.out.grown (gbel hb) (by simp), bStep h.bel hb, h.ge, h.ne, h.na⟩
theorem TW.moved {r : Nat} (h : TW w tb cs bA sA bo o W) (hg : W.grownBy W' (some r)) (h1 : tb ≠ r) (h2 : bA ≠ r) (h3 : bo ≠ r) (h4 : w.heap.size ≤ r) : TW w tb cs bA sA bo o W' :=
  ⟨h.box.grown hg (by simpa using h1), h.after.grown hg (by simpa using h2), h.out.grown hg (by simpa using h3), h.bel.grown hg h.bel.size (fun k hk => by cases hk; exact h4), h.ge, h.ne, h.na⟩
theorem TW.turn (h : TW w tb cs bA sA bo o W) (ht : W.mapTurned W' bo) (hm : MapL W' bo o') : TW w tb cs bA sA bo o' W' :=
  ⟨h.box.grown (turned_grown ht) (by simpa using h.ne), h.after.grown (turned_grown ht) (by simpa using h.na), hm, h.bel.grown (turned_grown ht) h.bel.size (fun k hk => by cases hk; exact h.ge), h.ge, h.ne, h.na⟩
end
theorem mapl_new (w : World) (b : Nat) (hb : b = w.heap.size) : MapL (w.alloc (.map #[] 0)) b [] := by
  subst hb
  exact ⟨#[], 0, heap_alloc_new w _, by simp, by simp, by simp, by simp, (MapKept.stamped_iff _ _).2 (by simp)⟩
theorem put_mem {o : List Lk} {z y : Lk} : y ∈ (if z ∈ o then o else o ++ [z]) ↔ y ∈ o ∨ y = z := by
  split
  · rename_i h
    exact ⟨.inl, fun hh => hh.elim id fun e => e ▸ h⟩
  · simp
set_option maxHeartbeats 8000000 in
theorem then_any (k : Int) (J : Lk → Lk → Lk) (x1 x2 x3 x4 x5 : Value) (A : Option Addr) (n c : Nat) (ms : List Nat) (bB : Nat) (sB : List Lk) (sym : Int) (bA : Nat) (sA : List Lk) (w : World)
    (hB : MapL w bB sB) (hn : n ≤ 1000000) (hS : Rd1 w w.heap.size A n (ms.map fun b => Value.map (some b))) (hs0 : 0 ≤ sym) (hs3 : sym ≤ 1000) (hs1 : 16 ≤ sym → ms[(sym - 16).toNat]? = some bA ∧ MapL w bA sA) (hs2 : sym < 16 → sA = [oneK sym])
    (hJ : ∀ x ∈ sB, x.n ≠ k → ∀ y ∈ sA, (J x y).wf ∧ ∀ W, Calls Tryz.prog 308 #[.int .i64 k, x.v, y.v] W fun e W' => e = .returned (.tuple #[(J x y).v, .int .i64 0]) ∧ Below W.heap.size W W') :
    Calls Tryz.prog 306 #[.agg #[.int .i64 k, x1, x2, x3, x4, x5, .slice A n c], .map (some bB), .int .i64 sym] w fun e w' => ∃ b out, e = .returned (.map (some b)) ∧ w.heap.size ≤ b ∧ MapL w' b out ∧ Below w.heap.size w w' ∧ ∀ z, z ∈ out ↔ thenP k J (· ∈ sB) (· ∈ sA) z := by
  refine opq fun RR hR => ?_
  have hmm := @run_makeMap Tryz.prog
  have hJ' := Lib.hid hJ
  clear hJ
  by_cases h16 : sym < 16
  · have hs2' := hs2 h16
    clear hs1 hs2 hS
    have hwf : (oneK sym).wf := oneK_wf hs0 hs3
    go_enter Tryz.func306, Tryz.ntmps306
    go_upto_region 6 with (at_mapUpdate; refine wpList_lay _ underLM rfl _ _ _ rfl (w.heap.size + 1) [] (oneK sym) rfl rfl rfl (mapl_new _ _ (by simp)) hwf ?_; intro w5 hM5 ht5)
    have q5 : Blk w5 w.heap.size 276 #[.int .i64 k, x1, x2, x3, x4, x5, .slice A n c] := ((Blk.new w 276 _).alloc _).grown (turned_grown ht5) (by simp)
    have hB5 : MapL w5 bB sB := (hB.grown (gbel (bAlc (bAlc (Below.refl _ _) _) _)) (by simp)).grown (turned_grown ht5) (by have := hB.lt; simp; omega)
    have hb5 : Below w.heap.size w w5 := (bAlc (bAlc (Below.refl _ _) _) _).grown (turned_grown ht5) (by simp; omega) (fun k hk => by cases hk; omega)
    have hA5 : MapL w5 (w.heap.size + 1) sA := by rw [hs2']; simpa using hM5
    clear hM5 ht5 hs2' hB hwf hmm
    generalize w.heap.size + 1 = bA at *
    have hmm := @run_makeMap Tryz.prog
    have hT6 : TW w w.heap.size #[.int .i64 k, x1, x2, x3, x4, x5, .slice A n c] bA sA w5.heap.size [] (w5.alloc (.map #[] 0)) :=
      ⟨q5.alloc _, hA5.grown (gbel (bAlc (Below.refl _ _) _)) (by simp), mapl_new _ _ rfl, bAlc hb5 _, hb5.size, by have := q5.lt; omega, by have := hA5.lt; omega⟩
    have hB6 : MapL (w5.alloc (.map #[] 0)) bB sB := hB5.grown (gbel (bAlc (Below.refl _ _) _)) (by simp)
    have hbB : bB ≠ w5.heap.size := by have := hB5.lt; omega
    have hbo : w5.heap.size < (w5.alloc (.map #[] 0)).heap.size := by simp
    clear hB5 hA5 hb5 q5
    generalize w5.alloc (.map #[] 0) = w6 at *
    generalize w5.heap.size = bo at *
    go_wp2_with (at_range; refine wpList_range_look _ underLM rfl _ rfl bB sB rfl hB6 ?_; intro w7 hit hb7; go_frame)
    have hT7 := hT6.step hb7
    have htr : w.heap.size < w6.heap.size := hT6.box.lt
    have har : bA < w6.heap.size := hT6.after.lt
    clear hT6 hB6 hb7
    generalize w6.heap.size = r at *
    have hbT : Hid (bA < r ∧ w.heap.size < r) := Lib.hid ⟨har, htr⟩
    have hwr : w.heap.size ≤ r := by omega
    clear har htr
    obtain ⟨tb, htb⟩ : ∃ tb, tb = w.heap.size := ⟨_, rfl⟩
    rw [← htb] at hT7 ⊢
    have htr : tb < r := by rw [htb]; exact hbT.out.2
    have har : bA < r := hbT.out.1
    clear htb hbT
    go_loopg [] sB.length (fun gk wr => ∃ done o : List Lk, Hid (done.length + gk = sB.length) ∧ IterL wr bB r sB done ∧ TW w tb #[.int .i64 k, x1, x2, x3, x4, x5, .slice A n c] bA sA bo o wr ∧ Hid (∀ z, z ∈ o ↔ thenP k J (· ∈ done) (· ∈ sA) z))
    case atStart => exact ⟨[], [], Lib.hid (by simp), hit, hT7, Lib.hid (fun z => by simp [thenP])⟩
    case round =>
      clear hit hT7
      obtain ⟨done, o, hlen, hit, hT, hz⟩ := hrel
      have hl3 := Lib.hid hit.lts
      go_wp2_with (first
        | (at_next; refine wpList_next_look _ rfl _ rfl bB r sB done rfl hit ?_ ?_)
        | go_in)
      · intro hall
        have hall' := Lib.hid hall
        clear hall
        go_wp2_with fail
        refine hR.out _ _ ⟨bo, o, rfl, hT.ge, hT.out, hT.bel, fun z => (hz.out z).trans ⟨thenP_mono (fun x hx => hit.sub.2.1 x hx) (fun _ h => h) z, thenP_mono (fun x hx => hall'.out x hx) (fun _ h => h) z⟩⟩
      · intro x w2 hxs hxd hit2 hen hg2 hsz2
        have hT2 := hT.moved hg2 (by omega) (by omega) (by omega) hwr
        have hwx : Hid (x.wf) := Lib.hid (hit.map.wfs x hxs)
        unfold Lk.v at hen
        replace hsz2 := Lib.hid hsz2
        go_upto_region 9 with (fail)
        change Code.wp Tryz.prog _ _ _ (lay5 w2 x)
        have q9 := lay5_blk w2 x
        have h9o : w2.heap.size ≠ bo := by have := hT2.out.lt; omega
        have hT3 := hT2.step (lay5_below w2 x)
        have hit3 := hit2.later (lay5_below w2 x)
        clear hit hT hit2 hT2 hen hg2
        generalize lay5 w2 x = W3 at *
        generalize w2.heap.size = b9 at *
        have d0 := q9.cell 0
        have d1 := q9.cell 1
        have d2 := q9.cell 2
        have d3 := q9.cell 3
        have d4 := q9.cell 4
        simp only [Lk.cells, List.getElem?_toArray, List.getElem?_cons_zero, List.getElem?_cons_succ] at d0 d1 d2 d3 d4
        have e0 := hT3.box.cell 0
        simp only [List.getElem?_toArray, List.getElem?_cons_zero, List.getElem?_cons_succ] at e0
        have hlen2 : Hid (done.length + 1 ≤ sB.length) := Lib.hid (by have := sub_len hit3.sub.1 hit3.sub.2.1; simpa using this)
        clear hsz2 hl3
        by_cases hxk : x.n = k
        · have hxk1 : (x.n == k) = true := by simp [hxk]
          replace hxk := Lib.hid hxk
          by_cases hA0 : sA = []
          · have hln := mapl_len underLM hT3.after 3
            rw [hA0] at hln
            go_wp2_with fail
            go_roundg (sB.length - (done.length + 1))
            case measure => have := hlen.out; have := hlen2.out; omega
            case rel =>
              refine ⟨done ++ [x], o, Lib.hid (by have := hlen2.out; rw [List.length_append, List.length_singleton]; omega), hit3, hT3, Lib.hid fun z => (hz.out z).trans ⟨fun h => (done_snoc z).2 (.inl h), fun h => ?_⟩⟩
              rcases (done_snoc z).1 h with h | ⟨_, _, y, hy⟩ | ⟨_, y, hy, _⟩
              · exact h
              · simp [hA0] at hy
              · simp [hA0] at hy
          · have hln := mapl_len underLM hT3.after 3
            obtain ⟨y0, hy0⟩ := List.exists_mem_of_ne_nil _ hA0
            have hgt : (0 : Int) < sA.length := by have := List.length_pos_of_mem hy0; omega
            generalize (sA.length : Int) = sl at *
            replace hy0 := Lib.hid hy0
            clear hA0
            go_wp2_with (at_mapUpdate; refine wpList_lay _ underLM rfl _ _ _ rfl bo o x rfl rfl rfl hT3.out hwx.out ?_; intro w5 hM5 ht5)
            go_roundg (sB.length - (done.length + 1))
            case measure => have := hlen.out; have := hlen2.out; omega
            case rel =>
              refine ⟨done ++ [x], _, Lib.hid (by have := hlen2.out; rw [List.length_append, List.length_singleton]; omega), hit3.grown (turned_grown ht5) (by simpa using hbB) (by simp; omega), hT3.turn ht5 hM5, Lib.hid fun z => ?_⟩
              rw [put_mem, done_snoc, hz.out z]
              constructor
              · rintro (h | h)
                · exact .inl h
                · exact .inr (.inl ⟨hxk.out, h, y0, hy0.out⟩)
              · rintro (h | ⟨_, h, _⟩ | ⟨h, _⟩)
                · exact .inl h
                · exact .inr h
                · exact absurd hxk.out h
        · have hxk1 : (x.n == k) = false := by simp [hxk]
          have hxk2 := Lib.hid hxk
          have hxs2 := Lib.hid hxs
          clear hxk hxs hxd
          go_upto_region 12 with (fail)
          have e1 := Lib.hid e0
          clear d0 d1 d2 d3 d4 e0
          go_wp2_with (at_range; refine wpList_range_look _ underLM rfl _ rfl bA sA rfl hT3.after ?_; intro w4 hit4 hb4; go_frame)
          have hT4 := hT3.step hb4
          have hit5 := hit3.later hb4
          have q4 := q9.step hb4
          have hr2 : Hid (tb < W3.heap.size ∧ bA < W3.heap.size ∧ bo < W3.heap.size ∧ b9 < W3.heap.size ∧ bB < W3.heap.size ∧ r < W3.heap.size ∧ w.heap.size ≤ W3.heap.size) := Lib.hid ⟨hT3.box.lt, hT3.after.lt, hT3.out.lt, q9.lt, hit3.lts.1, hit3.lts.2.1, hT3.bel.size⟩
          clear hT3 hit3 q9 hb4 e1
          generalize W3.heap.size = r2 at *
          clear W3
          generalize wr = wE at *
          have hlt2 : tb < r2 ∧ bA < r2 ∧ bo < r2 ∧ b9 < r2 ∧ bB < r2 ∧ r < r2 ∧ w.heap.size ≤ r2 := hr2.out
          obtain ⟨g1, g2, g3, g4, g5, g6, g7⟩ := hlt2
          go_loopg [] sA.length (fun gk2 wr => ∃ done2 o2 : List Lk, Hid (done2.length + gk2 = sA.length) ∧ IterL wr bA r2 sA done2 ∧ IterL wr bB r sB (done ++ [x]) ∧ TW w tb #[.int .i64 k, x1, x2, x3, x4, x5, .slice A n c] bA sA bo o2 wr ∧ Blk wr b9 45 x.cells ∧ Hid (∀ z, z ∈ o2 ↔ z ∈ o ∨ ∃ y ∈ done2, z = J x y))
          case atStart => exact ⟨[], o, Lib.hid (by simp), hit4, hit5, hT4, q4, Lib.hid (fun z => by simp)⟩
          case round =>
            clear hit4 hit5 hT4 q4
            obtain ⟨done2, o2, hln, hi2, hi1, hT, q9, hz2⟩ := hrel
            go_wp2_with (first
              | (at_next; refine wpList_next_look _ rfl _ rfl bA r2 sA done2 rfl hi2 ?_ ?_)
              | go_in)
            · intro hall
              have hall' := Lib.hid hall
              clear hall
              go_wp2_with fail
              go_roundg (sB.length - (done.length + 1))
              case measure => have := hlen.out; have := hlen2.out; omega
              case rel =>
                refine ⟨done ++ [x], o2, Lib.hid (by have := hlen2.out; rw [List.length_append, List.length_singleton]; omega), hi1, hT, Lib.hid fun z => ?_⟩
                rw [hz2.out z, done_snoc, hz.out z]
                constructor
                · rintro (h | ⟨y, hy, h⟩)
                  · exact .inl h
                  · exact .inr (.inr ⟨hxk2.out, y, hi2.sub.2.1 y hy, h⟩)
                · rintro (h | ⟨h, _⟩ | ⟨_, y, hy, h⟩)
                  · exact .inl h
                  · exact absurd h hxk2.out
                  · exact .inr ⟨y, hall'.out y hy, h⟩
            · intro y w2 hys hyd hit2 hen hg2 hsz2
              have hT2 := hT.moved hg2 (by omega) (by omega) (by omega) g7
              have q2 := q9.grown hg2 (by simp; omega)
              have hi3 := hi1.grown hg2 (by simp; omega) (by simp; omega)
              unfold Lk.v at hen
              replace hsz2 := Lib.hid hsz2
              go_upto_region 15 with (fail)
              change Code.wp Tryz.prog _ _ _ (lay5 w2 y)
              have q10 := lay5_blk w2 y
              have hT3 := hT2.step (lay5_below w2 y)
              have hit3 := hit2.later (lay5_below w2 y)
              have hi4 := hi3.later (lay5_below w2 y)
              have q9' := q2.step (lay5_below w2 y)
              have hln2 : Hid (done2.length + 1 ≤ sA.length) := Lib.hid (by have := sub_len hit2.sub.1 hit2.sub.2.1; simpa using this)
              clear hi2 hi1 hT hit2 hi3 hT2 q2 hen hg2 q9
              generalize lay5 w2 y = W3 at *
              generalize w2.heap.size = b10 at *
              obtain ⟨hwz, hcz⟩ := hJ'.out x hxs2.out hxk2.out y hys
              have hwz' := Lib.hid hwz
              have hJz := Lib.hid (show ∀ z, z = J x y → z ∈ o2 ++ [z] by intro z _; simp)
              have hzz : Hid (∀ z, (z ∈ o2 ∨ z = J x y) ↔ (z ∈ o ∨ ∃ y' ∈ done2 ++ [y], z = J x y')) := Lib.hid fun z => by
                rw [hz2.out z]
                constructor
                · rintro ((h | ⟨y', h1, h2⟩) | h)
                  · exact .inl h
                  · exact .inr ⟨y', List.mem_append_left _ h1, h2⟩
                  · exact .inr ⟨y, by simp, h⟩
                · rintro (h | ⟨y', h1, h2⟩)
                  · exact .inl (.inl h)
                  · rcases List.mem_append.1 h1 with h1 | h1
                    · exact .inl (.inr ⟨y', h1, h2⟩)
                    · rw [List.mem_singleton.1 h1] at h2; exact .inr h2
              clear hwz hJz hsz2
              generalize J x y = z0 at *
              unfold Lk.v at hcz
              replace hcz := Lib.hid hcz
              have d0 := q10.cell 0
              have d1 := q10.cell 1
              have d2 := q10.cell 2
              have d3 := q10.cell 3
              have d4 := q10.cell 4
              have c0 := q9'.cell 0
              have c1 := q9'.cell 1
              have c2 := q9'.cell 2
              have c3 := q9'.cell 3
              have c4 := q9'.cell 4
              simp only [Lk.cells, List.getElem?_toArray, List.getElem?_cons_zero, List.getElem?_cons_succ] at d0 d1 d2 d3 d4 c0 c1 c2 c3 c4
              have e0 := hT3.box.cell 0
              simp only [List.getElem?_toArray, List.getElem?_cons_zero, List.getElem?_cons_succ] at e0
              go_upto_region 16 with (go_at_call 308; refine (hcz.out W3).mono ?_; rintro e w6 ⟨rfl, hb6⟩)
              change Code.wp Tryz.prog _ _ _ (lay5 w6 z0)
              have hb7 := bStep hb6 (lay5_below w6 z0)
              have q11 := lay5_blk w6 z0
              have hT4 := hT3.step hb7
              have hit4 := hit3.later hb7
              have hi5 := hi4.later hb7
              have q94 := q9'.step hb7
              clear hT3 hit3 hi4 q9' q10 hb6 hb7 d0 d1 d2 d3 d4 c0 c1 c2 c3 c4 e0 hcz
              generalize lay5 w6 z0 = W7 at *
              generalize w6.heap.size = b11 at *
              have d0 := q11.cell 0
              have d1 := q11.cell 1
              have d2 := q11.cell 2
              have d3 := q11.cell 3
              have d4 := q11.cell 4
              simp only [Lk.cells, List.getElem?_toArray, List.getElem?_cons_zero, List.getElem?_cons_succ] at d0 d1 d2 d3 d4
              have hwz2 := hwz'.out
              go_wp2_with (at_mapUpdate; refine wpList_lay _ underLM rfl _ _ _ rfl bo o2 z0 rfl rfl rfl hT4.out hwz2 ?_; intro w8 hM8 ht8)
              go_roundg (sA.length - (done2.length + 1))
              case measure => have := hln.out; have := hln2.out; omega
              case rel =>
                exact ⟨done2 ++ [y], _, Lib.hid (by have := hln2.out; rw [List.length_append, List.length_singleton]; omega), hit4.grown (turned_grown ht8) (by simpa using hT4.na) (by simp; omega), hi5.grown (turned_grown ht8) (by simpa using hbB) (by simp; omega), hT4.turn ht8 hM8, q94.grown (turned_grown ht8) (by simpa using h9o), Lib.hid fun z => put_mem.trans (hzz.out z)⟩
  · obtain ⟨hm1, hA⟩ := hs1 (by omega)
    obtain ⟨sb, soff, rfl, hsb, z0⟩ := hS.get (i := (sym - 16).toNat) (v := .map (some bA)) (by rw [List.getElem?_map, hm1]; rfl)
    have hjn : (sym - 16).toNat < n := by
      have h1 := (List.getElem?_eq_some_iff.1 hm1).1
      have h2 := hS.1
      rw [List.length_map] at h2; omega
    clear hs1 hs2 hS hm1
    obtain ⟨j, hjj⟩ := Int.eq_ofNat_of_zero_le (show 0 ≤ sym - 16 by omega)
    have hjk : (sym - 16).toNat = j := by omega
    rw [hjk] at z0 hjn
    have zI : sym - 16 = (j : Int) := by omega
    have zw : IntKind.i64.wrap (j : Int) = j := IntWalk.i64_in _ (by omega)
    have h16' : 16 ≤ sym := by omega
    clear hjj hjk
    have hz5 : (j : Int) < n := by omega
    have hz6 : (0 : Int) ≤ j := by omega
    have z1 := cell_later (bAlc (Below.refl _ w) (.cells #[.int .i64 k, x1, x2, x3, x4, x5, .slice (some ⟨sb, soff, none⟩) n c] 276)) z0
    go_enter Tryz.func306, Tryz.ntmps306
    go_upto_region 6 with (fail)
    have q5 := (Blk.new w 276 #[.int .i64 k, x1, x2, x3, x4, x5, .slice (some ⟨sb, soff, none⟩) n c]).alloc (.map #[] 0)
    have hb5 : Below w.heap.size w ((w.alloc (.cells #[.int .i64 k, x1, x2, x3, x4, x5, .slice (some ⟨sb, soff, none⟩) n c] 276)).alloc (.map #[] 0)) := bAlc (bAlc (Below.refl _ _) _) _
    have hB5 := hB.grown (gbel hb5) (by simp)
    have hA5 := hA.grown (gbel hb5) (by simp)
    clear z0 z1 hB hA hmm
    have hmm := @run_makeMap Tryz.prog
    generalize (some (⟨sb, soff, none⟩ : Addr)) = A at *
    have hsz : ((w.alloc (.cells #[.int .i64 k, x1, x2, x3, x4, x5, .slice A n c] 276)).alloc (.map #[] 0)).heap.size = w.heap.size + 1 + 1 := by simp
    generalize (w.alloc (.cells #[.int .i64 k, x1, x2, x3, x4, x5, .slice A n c] 276)).alloc (.map #[] 0) = w5 at *
    rw [← hsz]
    clear hsz
    have hT6 : TW w w.heap.size #[.int .i64 k, x1, x2, x3, x4, x5, .slice A n c] bA sA w5.heap.size [] (w5.alloc (.map #[] 0)) :=
      ⟨q5.alloc _, hA5.grown (gbel (bAlc (Below.refl _ _) _)) (by simp), mapl_new _ _ rfl, bAlc hb5 _, hb5.size, by have := q5.lt; omega, by have := hA5.lt; omega⟩
    have hB6 : MapL (w5.alloc (.map #[] 0)) bB sB := hB5.grown (gbel (bAlc (Below.refl _ _) _)) (by simp)
    have hbB : bB ≠ w5.heap.size := by have := hB5.lt; omega
    have hbo : w5.heap.size < (w5.alloc (.map #[] 0)).heap.size := by simp
    clear hB5 hA5 hb5 q5
    generalize w5.alloc (.map #[] 0) = w6 at *
    generalize w5.heap.size = bo at *
    go_wp2_with (at_range; refine wpList_range_look _ underLM rfl _ rfl bB sB rfl hB6 ?_; intro w7 hit hb7; go_frame)
    have hT7 := hT6.step hb7
    have htr : w.heap.size < w6.heap.size := hT6.box.lt
    have har : bA < w6.heap.size := hT6.after.lt
    clear hT6 hB6 hb7
    generalize w6.heap.size = r at *
    have hbT : Hid (bA < r ∧ w.heap.size < r) := Lib.hid ⟨har, htr⟩
    have hwr : w.heap.size ≤ r := by omega
    clear har htr
    obtain ⟨tb, htb⟩ : ∃ tb, tb = w.heap.size := ⟨_, rfl⟩
    rw [← htb] at hT7 ⊢
    have htr : tb < r := by rw [htb]; exact hbT.out.2
    have har : bA < r := hbT.out.1
    clear htb hbT
    go_loopg [] sB.length (fun gk wr => ∃ done o : List Lk, Hid (done.length + gk = sB.length) ∧ IterL wr bB r sB done ∧ TW w tb #[.int .i64 k, x1, x2, x3, x4, x5, .slice A n c] bA sA bo o wr ∧ Hid (∀ z, z ∈ o ↔ thenP k J (· ∈ done) (· ∈ sA) z))
    case atStart => exact ⟨[], [], Lib.hid (by simp), hit, hT7, Lib.hid (fun z => by simp [thenP])⟩
    case round =>
      clear hit hT7
      obtain ⟨done, o, hlen, hit, hT, hz⟩ := hrel
      have hl3 := Lib.hid hit.lts
      go_wp2_with (first
        | (at_next; refine wpList_next_look _ rfl _ rfl bB r sB done rfl hit ?_ ?_)
        | go_in)
      · intro hall
        have hall' := Lib.hid hall
        clear hall
        go_wp2_with fail
        refine hR.out _ _ ⟨bo, o, rfl, hT.ge, hT.out, hT.bel, fun z => (hz.out z).trans ⟨thenP_mono (fun x hx => hit.sub.2.1 x hx) (fun _ h => h) z, thenP_mono (fun x hx => hall'.out x hx) (fun _ h => h) z⟩⟩
      · intro x w2 hxs hxd hit2 hen hg2 hsz2
        have hT2 := hT.moved hg2 (by omega) (by omega) (by omega) hwr
        have hwx : Hid (x.wf) := Lib.hid (hit.map.wfs x hxs)
        unfold Lk.v at hen
        replace hsz2 := Lib.hid hsz2
        go_upto_region 9 with (fail)
        change Code.wp Tryz.prog _ _ _ (lay5 w2 x)
        have q9 := lay5_blk w2 x
        have h9o : w2.heap.size ≠ bo := by have := hT2.out.lt; omega
        have hT3 := hT2.step (lay5_below w2 x)
        have hit3 := hit2.later (lay5_below w2 x)
        clear hit hT hit2 hT2 hen hg2
        generalize lay5 w2 x = W3 at *
        generalize w2.heap.size = b9 at *
        have d0 := q9.cell 0
        have d1 := q9.cell 1
        have d2 := q9.cell 2
        have d3 := q9.cell 3
        have d4 := q9.cell 4
        simp only [Lk.cells, List.getElem?_toArray, List.getElem?_cons_zero, List.getElem?_cons_succ] at d0 d1 d2 d3 d4
        have e0 := hT3.box.cell 0
        simp only [List.getElem?_toArray, List.getElem?_cons_zero, List.getElem?_cons_succ] at e0
        have hlen2 : Hid (done.length + 1 ≤ sB.length) := Lib.hid (by have := sub_len hit3.sub.1 hit3.sub.2.1; simpa using this)
        clear hsz2 hl3
        by_cases hxk : x.n = k
        · have hxk1 : (x.n == k) = true := by simp [hxk]
          replace hxk := Lib.hid hxk
          by_cases hA0 : sA = []
          · have hln := mapl_len underLM hT3.after 3
            rw [hA0] at hln
            go_wp2_with fail
            go_roundg (sB.length - (done.length + 1))
            case measure => have := hlen.out; have := hlen2.out; omega
            case rel =>
              refine ⟨done ++ [x], o, Lib.hid (by have := hlen2.out; rw [List.length_append, List.length_singleton]; omega), hit3, hT3, Lib.hid fun z => (hz.out z).trans ⟨fun h => (done_snoc z).2 (.inl h), fun h => ?_⟩⟩
              rcases (done_snoc z).1 h with h | ⟨_, _, y, hy⟩ | ⟨_, y, hy, _⟩
              · exact h
              · simp [hA0] at hy
              · simp [hA0] at hy
          · have hln := mapl_len underLM hT3.after 3
            obtain ⟨y0, hy0⟩ := List.exists_mem_of_ne_nil _ hA0
            have hgt : (0 : Int) < sA.length := by have := List.length_pos_of_mem hy0; omega
            generalize (sA.length : Int) = sl at *
            replace hy0 := Lib.hid hy0
            clear hA0
            go_wp2_with (at_mapUpdate; refine wpList_lay _ underLM rfl _ _ _ rfl bo o x rfl rfl rfl hT3.out hwx.out ?_; intro w5 hM5 ht5)
            go_roundg (sB.length - (done.length + 1))
            case measure => have := hlen.out; have := hlen2.out; omega
            case rel =>
              refine ⟨done ++ [x], _, Lib.hid (by have := hlen2.out; rw [List.length_append, List.length_singleton]; omega), hit3.grown (turned_grown ht5) (by simpa using hbB) (by simp; omega), hT3.turn ht5 hM5, Lib.hid fun z => ?_⟩
              rw [put_mem, done_snoc, hz.out z]
              constructor
              · rintro (h | h)
                · exact .inl h
                · exact .inr (.inl ⟨hxk.out, h, y0, hy0.out⟩)
              · rintro (h | ⟨_, h, _⟩ | ⟨h, _⟩)
                · exact .inl h
                · exact .inr h
                · exact absurd hxk.out h
        · have hxk1 : (x.n == k) = false := by simp [hxk]
          have hxk2 := Lib.hid hxk
          have hxs2 := Lib.hid hxs
          clear hxk hxs hxd
          go_upto_region 12 with (fail)
          have e1 := Lib.hid e0
          clear d0 d1 d2 d3 d4 e0
          go_wp2_with (at_range; refine wpList_range_look _ underLM rfl _ rfl bA sA rfl hT3.after ?_; intro w4 hit4 hb4; go_frame)
          have hT4 := hT3.step hb4
          have hit5 := hit3.later hb4
          have q4 := q9.step hb4
          have hr2 : Hid (tb < W3.heap.size ∧ bA < W3.heap.size ∧ bo < W3.heap.size ∧ b9 < W3.heap.size ∧ bB < W3.heap.size ∧ r < W3.heap.size ∧ w.heap.size ≤ W3.heap.size) := Lib.hid ⟨hT3.box.lt, hT3.after.lt, hT3.out.lt, q9.lt, hit3.lts.1, hit3.lts.2.1, hT3.bel.size⟩
          clear hT3 hit3 q9 hb4 e1
          generalize W3.heap.size = r2 at *
          clear W3
          generalize wr = wE at *
          have hlt2 : tb < r2 ∧ bA < r2 ∧ bo < r2 ∧ b9 < r2 ∧ bB < r2 ∧ r < r2 ∧ w.heap.size ≤ r2 := hr2.out
          obtain ⟨g1, g2, g3, g4, g5, g6, g7⟩ := hlt2
          go_loopg [] sA.length (fun gk2 wr => ∃ done2 o2 : List Lk, Hid (done2.length + gk2 = sA.length) ∧ IterL wr bA r2 sA done2 ∧ IterL wr bB r sB (done ++ [x]) ∧ TW w tb #[.int .i64 k, x1, x2, x3, x4, x5, .slice A n c] bA sA bo o2 wr ∧ Blk wr b9 45 x.cells ∧ Hid (∀ z, z ∈ o2 ↔ z ∈ o ∨ ∃ y ∈ done2, z = J x y))
          case atStart => exact ⟨[], o, Lib.hid (by simp), hit4, hit5, hT4, q4, Lib.hid (fun z => by simp)⟩
          case round =>
            clear hit4 hit5 hT4 q4
            obtain ⟨done2, o2, hln, hi2, hi1, hT, q9, hz2⟩ := hrel
            go_wp2_with (first
              | (at_next; refine wpList_next_look _ rfl _ rfl bA r2 sA done2 rfl hi2 ?_ ?_)
              | go_in)
            · intro hall
              have hall' := Lib.hid hall
              clear hall
              go_wp2_with fail
              go_roundg (sB.length - (done.length + 1))
              case measure => have := hlen.out; have := hlen2.out; omega
              case rel =>
                refine ⟨done ++ [x], o2, Lib.hid (by have := hlen2.out; rw [List.length_append, List.length_singleton]; omega), hi1, hT, Lib.hid fun z => ?_⟩
                rw [hz2.out z, done_snoc, hz.out z]
                constructor
                · rintro (h | ⟨y, hy, h⟩)
                  · exact .inl h
                  · exact .inr (.inr ⟨hxk2.out, y, hi2.sub.2.1 y hy, h⟩)
                · rintro (h | ⟨h, _⟩ | ⟨_, y, hy, h⟩)
                  · exact .inl h
                  · exact absurd h hxk2.out
                  · exact .inr ⟨y, hall'.out y hy, h⟩
            · intro y w2 hys hyd hit2 hen hg2 hsz2
              have hT2 := hT.moved hg2 (by omega) (by omega) (by omega) g7
              have q2 := q9.grown hg2 (by simp; omega)
              have hi3 := hi1.grown hg2 (by simp; omega) (by simp; omega)
              unfold Lk.v at hen
              replace hsz2 := Lib.hid hsz2
              go_upto_region 15 with (fail)
              change Code.wp Tryz.prog _ _ _ (lay5 w2 y)
              have q10 := lay5_blk w2 y
              have hT3 := hT2.step (lay5_below w2 y)
              have hit3 := hit2.later (lay5_below w2 y)
              have hi4 := hi3.later (lay5_below w2 y)
              have q9' := q2.step (lay5_below w2 y)
              have hln2 : Hid (done2.length + 1 ≤ sA.length) := Lib.hid (by have := sub_len hit2.sub.1 hit2.sub.2.1; simpa using this)
              clear hi2 hi1 hT hit2 hi3 hT2 q2 hen hg2 q9
              generalize lay5 w2 y = W3 at *
              generalize w2.heap.size = b10 at *
              obtain ⟨hwz, hcz⟩ := hJ'.out x hxs2.out hxk2.out y hys
              have hwz' := Lib.hid hwz
              have hJz := Lib.hid (show ∀ z, z = J x y → z ∈ o2 ++ [z] by intro z _; simp)
              have hzz : Hid (∀ z, (z ∈ o2 ∨ z = J x y) ↔ (z ∈ o ∨ ∃ y' ∈ done2 ++ [y], z = J x y')) := Lib.hid fun z => by
                rw [hz2.out z]
                constructor
                · rintro ((h | ⟨y', h1, h2⟩) | h)
                  · exact .inl h
                  · exact .inr ⟨y', List.mem_append_left _ h1, h2⟩
                  · exact .inr ⟨y, by simp, h⟩
                · rintro (h | ⟨y', h1, h2⟩)
                  · exact .inl (.inl h)
                  · rcases List.mem_append.1 h1 with h1 | h1
                    · exact .inl (.inr ⟨y', h1, h2⟩)
                    · rw [List.mem_singleton.1 h1] at h2; exact .inr h2
              clear hwz hJz hsz2
              generalize J x y = z0 at *
              unfold Lk.v at hcz
              replace hcz := Lib.hid hcz
              have d0 := q10.cell 0
              have d1 := q10.cell 1
              have d2 := q10.cell 2
              have d3 := q10.cell 3
              have d4 := q10.cell 4
              have c0 := q9'.cell 0
              have c1 := q9'.cell 1
              have c2 := q9'.cell 2
              have c3 := q9'.cell 3
              have c4 := q9'.cell 4
              simp only [Lk.cells, List.getElem?_toArray, List.getElem?_cons_zero, List.getElem?_cons_succ] at d0 d1 d2 d3 d4 c0 c1 c2 c3 c4
              have e0 := hT3.box.cell 0
              simp only [List.getElem?_toArray, List.getElem?_cons_zero, List.getElem?_cons_succ] at e0
              go_upto_region 16 with (go_at_call 308; refine (hcz.out W3).mono ?_; rintro e w6 ⟨rfl, hb6⟩)
              change Code.wp Tryz.prog _ _ _ (lay5 w6 z0)
              have hb7 := bStep hb6 (lay5_below w6 z0)
              have q11 := lay5_blk w6 z0
              have hT4 := hT3.step hb7
              have hit4 := hit3.later hb7
              have hi5 := hi4.later hb7
              have q94 := q9'.step hb7
              clear hT3 hit3 hi4 q9' q10 hb6 hb7 d0 d1 d2 d3 d4 c0 c1 c2 c3 c4 e0 hcz
              generalize lay5 w6 z0 = W7 at *
              generalize w6.heap.size = b11 at *
              have d0 := q11.cell 0
              have d1 := q11.cell 1
              have d2 := q11.cell 2
              have d3 := q11.cell 3
              have d4 := q11.cell 4
              simp only [Lk.cells, List.getElem?_toArray, List.getElem?_cons_zero, List.getElem?_cons_succ] at d0 d1 d2 d3 d4
              have hwz2 := hwz'.out
              go_wp2_with (at_mapUpdate; refine wpList_lay _ underLM rfl _ _ _ rfl bo o2 z0 rfl rfl rfl hT4.out hwz2 ?_; intro w8 hM8 ht8)
              go_roundg (sA.length - (done2.length + 1))
              case measure => have := hln.out; have := hln2.out; omega
              case rel =>
                exact ⟨done2 ++ [y], _, Lib.hid (by have := hln2.out; rw [List.length_append, List.length_singleton]; omega), hit4.grown (turned_grown ht8) (by simpa using hT4.na) (by simp; omega), hi5.grown (turned_grown ht8) (by simpa using hbB) (by simp; omega), hT4.turn ht8 hM8, q94.grown (turned_grown ht8) (by simpa using h9o), Lib.hid fun z => put_mem.trans (hzz.out z)⟩
end Go.Proofs.YtjnmkdahbcmfaaaGreat

/- first.sorted: a closure over the sorted slice. -/
namespace Go.Proofs.YtjnmkdahbcmfaaaGreat
open Go.ChangeShapes Go.WideShapes Go.ChangeAt Go.RowKit Go.Shelf
set_option linter.unusedVariables false
def RetIt (w : World) (l : List Lk) (e : Ending) (w' : World) : Prop := ∃ Bs A c, e = .returned (.func (.func 312) #[] #[.pointer (some ⟨Bs, 0, none⟩)]) ∧ w'.cell? ⟨Bs, 0, none⟩ = some (.slice A l.length c) ∧ Bs < w'.heap.size ∧ RdL w' w'.heap.size A l.length l ∧ Below w.heap.size w w'
theorem MapL.below {w w' : World} {b : Nat} {s : List Lk} (h : MapL w b s) (hb : Below w.heap.size w w') : MapL w' b s := by
  obtain ⟨es, clock, h1, h2⟩ := h
  exact ⟨es, clock, (hb.block b (Array.getElem?_eq_some_iff.1 h1).1).trans h1, h2⟩
set_option maxRecDepth 100000 in
set_option maxHeartbeats 2000000 in
theorem sorted2_any (b : Nat) (s : List Lk) (w : World) (hm : MapL w b s) (hr : ∀ x ∈ s, x.right 8) (hlen : s.length ≤ 900000) : Calls Tryz.prog 270 #[.map (some b)] w (RetIt w (lset s)) := by
  refine opq fun RR hR => ?_
  have hK := Lib.hid (keys_any b w)
  have hcell : (w.alloc (.cells #[.map (some b)] 279)).cell? ⟨w.heap.size, 0, none⟩ = some (.map (some b)) := (Blk.new w 279 #[.map (some b)]).cell 0
  have hm1 : MapL (w.alloc (.cells #[.map (some b)] 279)) b s := hm.below (bAlc (Below.refl _ _) _)
  have hb1 : Below w.heap.size w (w.alloc (.cells #[.map (some b)] 279)) := bAlc (Below.refl _ _) _
  have hs1 : (w.alloc (.cells #[.map (some b)] 279)).heap.size = w.heap.size + 1 := by simp
  have hC := Lib.hid (collect_any 309 #[.pointer (some ⟨w.heap.size, 0, none⟩)] (KeyS s) (KeyP s) s.length (w.alloc (.cells #[.map (some b)] 279)) egK
    (fun w1 hb => seqK_mono (fun _ _ h => h.1) (keys_stops 5 (by omega) w.heap.size b s w1 ((hb.cell (p := ⟨w.heap.size, 0, none⟩) (by simp)).trans hcell) (hm1.below hb))) hlen)
  have hSF := Lib.hid (fun (out : List Lk) (v : Value) (base : Nat) (W : World) (hk : KeyS s out) (ho : OwnL W base v out) => sortfunc2_any out v base W (fun x hx => hr x (hk.2.1 x hx)) hk.1 (by
    have := sub_len hk.1 (fun x hx => hk.2.1 x hx)
    omega) ho)
  have hset := Lib.hid (fun (out : List Lk) (hk : KeyS s out) => lset_same (m := out) hr fun z => ⟨hk.2.1 z, hk.2.2 z⟩)
  clear hm hr hcell hm1 hlen
  go_enter Tryz.func270, Tryz.ntmps270
  go_wp2_with (go_at_call 290; refine hK.out.mono ?_; rintro e w1 ⟨rfl, hw1⟩; rw [← hw1] at hC hb1 hs1; replace hw1 := Lib.hid hw1)
  refine hC.out.mono ?_
  rintro e w2 ⟨v, out, rfl, hks, ho, hb2⟩
  obtain ⟨A, c, hv, -⟩ := ho.reads
  subst hv
  have hSF2 := Lib.hid (hSF.out out _ _ w2 hks ho)
  have hset2 := hset.out out hks
  rw [hset2] at hSF2
  clear hSF hset
  replace hset2 := Lib.hid hset2
  have hin : ∀ j, (Value.slice A out.length c).ownBlock = some j → w1.heap.size ≤ j := fun j hj => (own_in ho j hj).1
  go_wp2_with fail
  refine hSF2.out.mono ?_
  rintro e w3 ⟨rfl, ho3, hg3, hl3⟩
  have hb3 : Below w.heap.size w w3 := (bStep hb1 hb2).grown hg3 (bStep hb1 hb2).size (fun j hj => by have := hin j hj; omega)
  obtain ⟨A3, c3, hv3, hrd, -⟩ := ho3.reads
  injection hv3 with e1 e2 e3
  subst e1 e3
  clear hl3 hs1 hin ho3 hg3 hks
  go_wp2_with fail
  refine (values_any _ _ _ _).mono ?_
  rintro e w4 ⟨rfl, hw4⟩
  go_wp2_with fail
  refine hR.out _ _ ⟨_, A, c, rfl, ?_, ?_, ?_, ?_⟩
  · exact (Blk.new w3 147 _).cell 0
  · simp
  · exact (hrd.below (bAlc (Below.refl _ _) _)).mono (by simp)
  · exact bAlc hb3 _
theorem collectV_any (Bs : Nat) (A : Option Addr) (c : Nat) (l : List Lk) (w : World) (hc : w.cell? ⟨Bs, 0, none⟩ = some (.slice A l.length c)) (hlt : Bs < w.heap.size) (hR : RdL w w.heap.size A l.length l) (hlen : l.length ≤ 900000) :
    Calls Tryz.prog 269 #[.func (.func 312) #[] #[.pointer (some ⟨Bs, 0, none⟩)]] w (RetAp w (· = l)) :=
  collect_any _ _ (· = l) (fun _ => True) l.length w egV (fun w1 hb => seqK_mono (fun _ _ h => h.2) (values_stops 5 (by omega) Bs w.heap.size A l.length c l w1 ((hb.cell (p := ⟨Bs, 0, none⟩) hlt).trans hc) (Nat.lt_of_lt_of_le hlt hb.size) hb.size (hR.below hb) hlen)) hlen
end Go.Proofs.YtjnmkdahbcmfaaaGreat
