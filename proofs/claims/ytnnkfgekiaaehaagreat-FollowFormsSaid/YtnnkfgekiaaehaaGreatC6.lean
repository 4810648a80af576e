/- Walks and plain laws, part 6 of 10: follow.all: what stands in memory; the marks of the loops; follow.all: the walk; follow.Of. Conditions: none beyond those that each theorem states. -/
import Derived.Test.YtnnkfgekiaaehaaGreatC5
import Derived.Deep.OwnRows
import Derived.WalkMore
/- follow.all: what stands in memory; the marks of the loops. -/
namespace Go.Proofs.YtnnkfgekiaaehaaGreat
open Go.RowKit Go.Shelf
set_option linter.unusedVariables false
def marks (Ds : List Nat) : List Deferred := Ds.map fun D => { target := .collected D, args := #[] }
def MarksOk (W : World) (lo : Nat) (Ds : List Nat) : Prop := Ds.Nodup ∧ ∀ D ∈ Ds, lo ≤ D ∧ W.heap[D]? = some (.deferred (some []))
theorem leaves_marks {P : Program} {F : Fence} {n : Nat} {fn : Func} {tmps : Array Value} {R : Ending → World → Prop} : ∀ (Ds : List Nat) (W : World) (lo : Nat), MarksOk W lo Ds →
    (∀ W', Below lo W W' → (∀ j, j ∉ Ds → W'.heap[j]? = W.heap[j]?) → LeavesIn F n P fn tmps R [] .returning W') → LeavesInM F n P fn tmps R (marks Ds) .returning W
  | [], W, lo, _, h => h W (Below.refl _ _) (fun _ _ => rfl)
  | D :: Ds, W, lo, hm, h => by
    have hnd := List.nodup_cons.1 hm.1
    have hD := hm.2 D List.mem_cons_self
    refine ⟨by simp, .inl ⟨_, _, rfl, run_takeDeferred hD.2, ?_⟩⟩
    have hb : Below lo W (W.putObj D (.deferred none)) := ⟨rfl, rfl, rfl, by simp, fun k hk => World.putObj_heap_other (by omega)⟩
    refine leaves_marks Ds _ lo ⟨hnd.2, fun D' h' => ?_⟩ fun W' hb' hj => h W' (hb.trans hb') fun j hjd => ?_
    · have := hm.2 D' (List.mem_cons_of_mem _ h')
      exact ⟨this.1, (World.putObj_heap_other (fun e => hnd.1 (by subst e; exact h'))).trans this.2⟩
    · exact (hj j (fun h => hjd (List.mem_cons_of_mem _ h))).trans (World.putObj_heap_other (fun e => hjd (by subst e; exact List.mem_cons_self)))
def SetsM (W : World) (bo n : Nat) (mbs : List Nat) (ss : List (List Lk)) : Prop :=
  ∃ cs : Array Value, Blk W bo 69 cs ∧ cs.size = n ∧ mbs.length = ss.length ∧ ∀ (i m : Nat) (s : List Lk), mbs[i]? = some m → ss[i]? = some s → cs[i]? = some (.map (some m)) ∧ MapK lookKey W m s
theorem SetsO.toM {W : World} {base bo n : Nat} {ss : List (List Lk)} (h : SetsO W base bo n ss) : ∃ mbs, SetsM W bo n mbs ss ∧ mbs.Nodup ∧ ∀ m ∈ mbs, base ≤ m ∧ m < W.heap.size := by
  obtain ⟨cs, mbs, h1, h2, h3, h4, h5, h6⟩ := h
  exact ⟨mbs, ⟨cs, h1, h2, h3, h6⟩, h4, h5⟩
theorem SetsM.grown {W W' : World} {bo n : Nat} {mbs : List Nat} {ss : List (List Lk)} (h : SetsM W bo n mbs ss) {row : Option Nat} (hg : W.grownBy W' row) (h1 : row ≠ some bo) (h2 : ∀ m ∈ mbs, row ≠ some m) : SetsM W' bo n mbs ss := by
  obtain ⟨cs, a, b, c, d⟩ := h
  exact ⟨cs, a.grown hg (Ne.symm h1), b, c, fun i m s e f => ⟨(d i m s e f).1, (d i m s e f).2.grown hg (Ne.symm (h2 m (List.mem_of_getElem? e)))⟩⟩
theorem SetsM.step {W W' : World} {bo n : Nat} {mbs : List Nat} {ss : List (List Lk)} (h : SetsM W bo n mbs ss) (hb : Below W.heap.size W W') : SetsM W' bo n mbs ss := by
  obtain ⟨cs, a, b, c, d⟩ := h
  exact ⟨cs, a.step hb, b, c, fun i m s e f => ⟨(d i m s e f).1, (d i m s e f).2.step hb⟩⟩
theorem SetsM.get {W : World} {bo n : Nat} {mbs : List Nat} {ss : List (List Lk)} (h : SetsM W bo n mbs ss) {i : Nat} (hi : i < ss.length) : ∃ m, mbs[i]? = some m ∧ W.cell? ⟨bo, i, none⟩ = some (.map (some m)) ∧ MapK lookKey W m (ss.getD i []) ∧ m ≠ bo := by
  obtain ⟨cs, a, b, c, d⟩ := h
  have him : i < mbs.length := by omega
  obtain ⟨e, f⟩ := d i mbs[i] ss[i] (List.getElem?_eq_getElem him) (List.getElem?_eq_getElem hi)
  exact ⟨mbs[i], List.getElem?_eq_getElem him, by rw [a.cell]; exact e, by simpa [List.getD_eq_getElem?_getD, hi] using f, mapk_blk f a⟩
theorem SetsM.nodups {W : World} {bo n : Nat} {mbs : List Nat} {ss : List (List Lk)} (h : SetsM W bo n mbs ss) : ∀ s ∈ ss, s.Nodup := by
  obtain ⟨cs, a, b, c, d⟩ := h
  intro s hs
  obtain ⟨i, hi, rfl⟩ := List.getElem_of_mem hs
  have him : i < mbs.length := by omega
  obtain ⟨_, es, clock, _, _, _, _, hn, _⟩ := d i mbs[i] ss[i] (List.getElem?_eq_getElem him) (List.getElem?_eq_getElem hi)
  exact hn
theorem SetsM.put {W W' : World} {bo n : Nat} {mbs : List Nat} {ss : List (List Lk)} (h : SetsM W bo n mbs ss) (hnd : mbs.Nodup) {i m : Nat} {c : List Lk} (hi : i < ss.length) (hm : mbs[i]? = some m)
    (hg : ∀ b, b < W.heap.size → b ≠ m → (b = bo ∨ b ∈ mbs) → W'.heap[b]? = W.heap[b]?) (hM : MapK lookKey W' m c) : SetsM W' bo n mbs (ss.set i c) := by
  obtain ⟨cs, a, b, e, d⟩ := h
  have him : i < mbs.length := by omega
  have hmv : mbs[i] = m := by rw [List.getElem?_eq_getElem him] at hm; injection hm
  have hmbo : m ≠ bo := by
    have := (d i mbs[i] ss[i] (List.getElem?_eq_getElem him) (List.getElem?_eq_getElem hi)).2
    rw [hmv] at this
    exact mapk_blk this a
  refine ⟨cs, (hg bo a.lt (Ne.symm hmbo) (.inl rfl)).trans a, b, by simpa using e, ?_⟩
  intro j m' s hmj hsj
  by_cases hij : i = j
  · subst hij
    rw [hm] at hmj
    injection hmj with hmj
    subst hmj
    rw [List.getElem?_set_self hi] at hsj
    injection hsj with hsj
    subst hsj
    exact ⟨(d i m ss[i] hm (List.getElem?_eq_getElem hi)).1, hM⟩
  · rw [List.getElem?_set_ne hij] at hsj
    obtain ⟨a2, es, clock, b2, b3⟩ := d j m' s hmj hsj
    refine ⟨a2, es, clock, (hg m' (Array.getElem?_eq_some_iff.1 b2).1 ?_ (.inr (List.mem_of_getElem? hmj))).trans b2, b3⟩
    rintro rfl
    have hjm := (List.getElem?_eq_some_iff.1 hmj).1
    have e2 : mbs[j] = m' := by rw [List.getElem?_eq_getElem hjm] at hmj; injection hmj
    exact hij ((List.getElem_inj hnd).1 (by rw [e2, hmv]))
theorem SetsM.reads {W : World} {bo n : Nat} {mbs : List Nat} {ss : List (List Lk)} (h : SetsM W bo n mbs ss) (hn : ss.length = n) : SetsR W W.heap.size (some ⟨bo, 0, none⟩) n ss := by
  obtain ⟨cs, a, b, c, d⟩ := h
  refine ⟨hn, .inr ⟨bo, 0, rfl, a.lt, fun i s hs => ?_⟩⟩
  have hi := (List.getElem?_eq_some_iff.1 hs).1
  have him : i < mbs.length := by omega
  obtain ⟨e, f⟩ := d i mbs[i] s (List.getElem?_eq_getElem him) hs
  exact ⟨mbs[i], f.lt, by rw [Nat.zero_add, a.cell]; exact e, f⟩
theorem SetsM.marks {W W' : World} {bo n lo : Nat} {mbs Ds : List Nat} {ss : List (List Lk)} (h : SetsM W bo n mbs ss) (hm : MarksOk W lo Ds) (hj : ∀ j, j ∉ Ds → W'.heap[j]? = W.heap[j]?) : SetsM W' bo n mbs ss := by
  obtain ⟨cs, a, b, c, d⟩ := h
  refine ⟨cs, (hj bo fun hb => ?_).trans a, b, c, fun i m s e f => ?_⟩
  · have := (hm.2 bo hb).2
    unfold Blk at a
    rw [a] at this; cases this
  · obtain ⟨a2, es, clock, b2, b3⟩ := d i m s e f
    refine ⟨a2, es, clock, (hj m fun hb => ?_).trans b2, b3⟩
    have := (hm.2 m hb).2
    rw [b2] at this; cases this
theorem SetsR.mono {W : World} {B B' : Nat} {A : Option Addr} {n : Nat} {ss : List (List Lk)} (h : SetsR W B A n ss) (hb : B ≤ B') : SetsR W B' A n ss := by
  refine ⟨h.1, ?_⟩
  rcases h.2 with h0 | ⟨b, off, rfl, hlt, hc⟩
  · exact .inl h0
  · refine .inr ⟨b, off, rfl, by omega, fun i s hs => ?_⟩
    obtain ⟨mb, h1, h2⟩ := hc i s hs
    exact ⟨mb, by omega, h2⟩
theorem GB.low {w : World} {g : Gr} {a : GA} {W W' : World} {lo : Nat} (h : GB w g a W) (hlo : w.heap.size < lo) (hb : Below lo W W') : GB w g a W' :=
  ⟨h.1.below hb hlo, h.2.1.below (hb.mono (by omega)), h.2.2.trans (hb.mono (by omega))⟩
def AF (w : World) (g : Gr) (a : GA) (n bo fo : Nat) (ss : List (List Lk)) (W : World) : Prop :=
  GB w g a W ∧ Blk W (w.heap.size + 1) 65 #[.slice (some ⟨fo, 0, none⟩) n n] ∧ Blk W (w.heap.size + 2) 65 #[.slice (some ⟨bo, 0, none⟩) n n] ∧ SetsR W fo (some ⟨bo, 0, none⟩) n ss ∧ w.heap.size + 2 < fo ∧ fo ≤ W.heap.size
theorem AF.low {w : World} {g : Gr} {a : GA} {n bo fo : Nat} {ss : List (List Lk)} {W W' : World} (h : AF w g a n bo fo ss W) (hb : Below fo W W') : AF w g a n bo fo ss W' := by
  obtain ⟨h1, h2, h3, h4, h5, h6⟩ := h
  exact ⟨h1.low (by omega) hb, h2.below hb (by omega), h3.below hb (by omega), h4.below hb, h5, Nat.le_trans h6 hb.size⟩
theorem AF.step {w : World} {g : Gr} {a : GA} {n bo fo : Nat} {ss : List (List Lk)} {W W' : World} (h : AF w g a n bo fo ss W) (hb : Below W.heap.size W W') : AF w g a n bo fo ss W' := h.low (hb.mono h.2.2.2.2.2)
theorem below_of_grown {X Y : World} {row : Option Nat} {lo : Nat} (hg : X.grownBy Y row) (hr : ∀ r, row = some r → lo ≤ r) (hlo : lo ≤ X.heap.size) : Below lo X Y :=
  ⟨hg.os, hg.tape, hg.output, hg.size, fun k hk => hg.block k (by omega) (fun e => by have := hr k e.symm; omega)⟩
structure KX (W : World) (mb b5 : Nat) (w' : World) : Prop where
  os : w'.os = W.os
  tape : w'.tape = W.tape
  output : w'.output = W.output
  size : W.heap.size ≤ w'.heap.size
  block : ∀ i, i < W.heap.size → i ≠ mb → i ≠ b5 → w'.heap[i]? = W.heap[i]?
theorem KX.refl (W : World) (mb b5 : Nat) : KX W mb b5 W := ⟨rfl, rfl, rfl, Nat.le_refl _, fun _ _ _ _ => rfl⟩
theorem KX.drew {W w1 : World} {mb b5 : Nat} (h : KX W mb b5 w1) : KX W mb b5 w1.drew := ⟨h.os, h.tape, h.output, h.size, h.block⟩
theorem KX.step {W w1 w2 : World} {mb b5 : Nat} (h : KX W mb b5 w1) (hb : Below w1.heap.size w1 w2) : KX W mb b5 w2 :=
  ⟨hb.os.trans h.os, hb.tape.trans h.tape, hb.output.trans h.output, Nat.le_trans h.size hb.size, fun i h1 h2 h3 => (hb.block i (Nat.lt_of_lt_of_le h1 h.size)).trans (h.block i h1 h2 h3)⟩
theorem KX.alloc {W w1 : World} {mb b5 : Nat} (h : KX W mb b5 w1) (o : Obj) : KX W mb b5 (w1.alloc o) := h.step (bAlc (Below.refl _ _) _)
theorem KX.grown {W w1 w2 : World} {mb b5 : Nat} (h : KX W mb b5 w1) (hg : w1.grownBy w2 (some mb)) : KX W mb b5 w2 :=
  ⟨hg.os.trans h.os, hg.tape.trans h.tape, hg.output.trans h.output, Nat.le_trans h.size hg.size, fun i h1 h2 h3 => (hg.block i (Nat.lt_of_lt_of_le h1 h.size) (fun e => h2 (by injection e))).trans (h.block i h1 h2 h3)⟩
theorem KX.put {W w1 : World} {mb b5 : Nat} (h : KX W mb b5 w1) (i : Nat) (v : Value) : KX W mb b5 (w1.setCell ⟨b5, i, none⟩ v) :=
  ⟨h.os, h.tape, h.output, Nat.le_trans h.size (by simp), fun j h1 h2 h3 => (Below.heap_setCell w1 ⟨b5, i, none⟩ v j h3).trans (h.block j h1 h2 h3)⟩
theorem KX.low {W w1 : World} {mb b5 lo : Nat} (h : KX W mb b5 w1) (h1 : lo ≤ mb) (h2 : lo ≤ b5) (h3 : lo ≤ W.heap.size) : Below lo W w1 := ⟨h.os, h.tape, h.output, h.size, fun k hk => h.block k (by omega) (by omega) (by omega)⟩
theorem KX.keeps {W w1 : World} {mb b5 B : Nat} (h : KX W mb b5 w1) (h1 : mb < B) (h2 : b5 < B) : KeepsFrom B W w1 := ⟨h.size, fun k o hB hk _ => (h.block k (Array.getElem?_eq_some_iff.1 hk).1 (by omega) (by omega)).trans hk⟩
theorem KX.cell {W w1 : World} {mb b5 : Nat} (h : KX W mb b5 w1) {b o : Nat} {v : Value} (hc : W.cell? ⟨b, o, none⟩ = some v) (h1 : b ≠ mb) (h2 : b ≠ b5) : w1.cell? ⟨b, o, none⟩ = some v :=
  (World.cell?_of_block (a := ⟨b, o, none⟩) (h.block b (block_lt_of_cell hc) h1 h2)).trans hc
theorem KX.blk {W w1 : World} {mb b5 : Nat} (h : KX W mb b5 w1) {b : Nat} {t : TypeId} {cs : Array Value} (hc : Blk W b t cs) (h1 : b ≠ mb) (h2 : b ≠ b5) : Blk w1 b t cs := (h.block b hc.lt h1 h2).trans hc
theorem cell_not_map {W : World} {b o mb : Nat} {v : Value} {s : List Lk} (hc : W.cell? ⟨b, o, none⟩ = some v) (hm : MapK lookKey W mb s) : b ≠ mb := by
  rintro rfl
  obtain ⟨es, clock, hb, _⟩ := hm
  simp [World.cell?, hb] at hc
def KpU (lo B1 B2 : Nat) (X Y : World) : Prop := Below lo X Y ∧ Y.heap[B1]? = X.heap[B1]? ∧ Y.heap[B2]? = X.heap[B2]?
theorem KpU.trans {lo B1 B2 : Nat} {X Y Z : World} (h : KpU lo B1 B2 X Y) (k : KpU lo B1 B2 Y Z) : KpU lo B1 B2 X Z := ⟨h.1.trans k.1, k.2.1.trans h.2.1, k.2.2.trans h.2.2⟩
theorem KpU.put {lo B1 B2 B : Nat} (W : World) (l : Nat) (o' : Obj) (hl : B ≤ l) (h0 : lo ≤ B) (h1 : B1 < B) (h2 : B2 < B) : KpU lo B1 B2 W (W.putObj l o') :=
  ⟨⟨rfl, rfl, rfl, by simp, fun k hk => World.putObj_heap_other (by omega)⟩, World.putObj_heap_other (by omega), World.putObj_heap_other (by omega)⟩
theorem USt.kept {n₀ B1 B2 : Nat} {A : Option Addr} {len cap : Nat} {vs : List PV} {fv : Value} {W W' : World} (h : USt n₀ B1 B2 A len cap vs fv W) (hb : KpU n₀ B1 B2 W W') : USt n₀ B1 B2 A len cap vs fv W' :=
  ⟨(World.cell?_of_block (a := ⟨B1, 5, none⟩) hb.2.1).trans h.1, (World.cell?_of_block (a := ⟨B2, 0, none⟩) hb.2.2).trans h.2.1, h.2.2.1.below hb.1, fun x hx => (h.2.2.2.1 x hx).below hb.1, Nat.le_trans h.2.2.2.2 hb.1.size⟩
end Go.Proofs.YtnnkfgekiaaehaaGreat

/- follow.all: the walk. -/
namespace Go.Proofs.YtnnkfgekiaaehaaGreat
open Go.RowKit Go.Shelf Go.ChangeShapes Go.WideShapes Go.ChangeAt
set_option linter.unusedVariables false
attribute [local go_sem] Oper.semAt_some
def RetA (g : Gr) (k : Nat) (w : World) (e : Ending) (w' : World) : Prop :=
  ∃ bo fo ss fs, e = .returned (.tuple #[.slice (some ⟨fo, 0, none⟩) g.names.length g.names.length, .slice (some ⟨bo, 0, none⟩) g.names.length g.names.length]) ∧ SetsR w' w'.heap.size (some ⟨bo, 0, none⟩) g.names.length ss ∧ SetsR w' w'.heap.size (some ⟨fo, 0, none⟩) g.names.length fs ∧
    SetsFit k ss ∧ SoundF g.prods k ss ∧ ClosedF g.prods k ss ∧ SetsFit k fs ∧ SoundO g.prods k g.start fs ∧ ClosedO g.prods k g.start ss fs ∧ (∀ s ∈ ss, s.Nodup) ∧ (∀ s ∈ fs, s.Nodup) ∧ Below w.heap.size w w'
theorem loadVar63 (w : World) (a : Addr) (v : Value) (h : w.cell? a = some v) : (loadVar 65 a).run Tryz.prog w = .ok v w := by
  have hagg : (isAgg 65).run Tryz.prog w = .ok false w := by unfold isAgg; rw [Sem.run_bind, run_underlying under63 w]; rfl
  simp [loadVar, Sem.run_bind, hagg, h]
theorem results_cells63 {fn : Func} {p q : Tmp} (h : fn.results = #[.cell p 65, .cell q 65]) (tmps : Array Value) (w : World) (g g' : Nat) (v v' : Value) (hp : tmps.getD p undef = .pointer (some ⟨g, 0, none⟩)) (hq : tmps.getD q undef = .pointer (some ⟨g', 0, none⟩)) (hc : w.cell? ⟨g, 0, none⟩ = some v) (hc' : w.cell? ⟨g', 0, none⟩ = some v') :
    (results fn tmps).run Tryz.prog w = .ok (.tuple #[v, v']) w := by
  have hp' : tmps[p]?.getD undef = .pointer (some ⟨g, 0, none⟩) := by simpa using hp
  have hq' : tmps[q]?.getD undef = .pointer (some ⟨g', 0, none⟩) := by simpa using hq
  simp [results, h, hp', hq', asAddr, loadVar63 w _ v hc, loadVar63 w _ v' hc']
theorem setCell_same {W : World} {g : Nat} {t : TypeId} {v : Value} (h : Blk W g t #[v]) : W.setCell ⟨g, 0, none⟩ v = W := by
  have hh : (W.setCell ⟨g, 0, none⟩ v).heap = W.heap := by
    unfold Blk at h
    apply Array.ext_getElem?
    intro i
    by_cases e : i = g
    · subst e; simp [World.setCell, Array.getElem?_modify, h]
    · exact Below.heap_setCell W ⟨g, 0, none⟩ v i e
  have h2 : W.setCell ⟨g, 0, none⟩ v = { W with heap := (W.setCell ⟨g, 0, none⟩ v).heap } := rfl
  rw [h2, hh]
theorem ex_frame {F : (Nat → Value) → Act} (A : Act) (h : A = F (fun i => A.tmps.getD i undef)) : ∃ f, A = F f := ⟨_, h⟩
def ClU (g : Gr) (k : Nat) (ss fs : List (List Lk)) (u : Nat × Nat × Int) : Prop := ∀ z ∈ usesL k ss fs (g.prods.getD u.1 default) u.2.1, z ∈ fs.getD (u.2.2 - 16).toNat []
def AI (w : World) (g : Gr) (a : GA) (n bo fo k : Nat) (ss fs0 : List (List Lk)) (mbs Ds : List Nat) (b5 B : Nat) {q : Int → Bool} {vs : List PV} (pre : List (UseT q vs)) (W : World) : Prop :=
  ∃ (fs : List (List Lk)) (gr : Bool), AF w g a n bo fo ss W ∧ SetsM W fo n mbs fs ∧ Blk W b5 4 #[.bool gr] ∧ MarksOk W fo Ds ∧ B ≤ W.heap.size ∧ Hid (fs.length = n) ∧ Hid (SetsFit k fs) ∧ Hid (SoundO g.prods k g.start fs) ∧ Hid (Lk.of [] ∈ fs.getD (g.start - 16).toNat []) ∧
    Hid (if gr then tot fs0 < tot fs else fs = fs0 ∧ ∀ u ∈ pre, ClU g k ss fs0 u.1)
theorem AI.own {w : World} {g : Gr} {a : GA} {n bo fo k : Nat} {ss fs0 : List (List Lk)} {mbs Ds : List Nat} {b5 B : Nat} {q : Int → Bool} {vs : List PV} (h1 : fo < B) (h2 : ∀ m ∈ mbs, m < B) (h3 : b5 < B) (h4 : ∀ D ∈ Ds, D < B) :
    OwnFrom B (fun (pre : List (UseT q vs)) W => AI w g a n bo fo k ss fs0 mbs Ds b5 B pre W) := by
  rintro s X Y row ⟨fs, gr, c1, c2, c3, c4, c5, c6⟩ hg hr
  refine ⟨fs, gr, c1.low (below_of_grown hg (fun r e => by have := (hr r e).1; omega) c1.2.2.2.2.2), c2.grown hg (fun e => by have := (hr _ e).1; omega) (fun m hm e => by have := (hr _ e).1; have := h2 m hm; omega),
    c3.grown hg (fun e => by have := (hr _ e.symm).1; omega), ⟨c4.1, fun D hD => ⟨(c4.2 D hD).1, (hg.block D (Array.getElem?_eq_some_iff.1 (c4.2 D hD).2).1 (fun e => by have := (hr _ e.symm).1; have := h4 D hD; omega)).trans (c4.2 D hD).2⟩⟩, Nat.le_trans c5 hg.size, c6⟩
theorem MarksOk.step {W W' : World} {lo : Nat} {Ds : List Nat} (h : MarksOk W lo Ds) (hb : Below W.heap.size W W') : MarksOk W' lo Ds :=
  ⟨h.1, fun D hD => ⟨(h.2 D hD).1, (hb.block D (Array.getElem?_eq_some_iff.1 (h.2 D hD).2).1).trans (h.2 D hD).2⟩⟩
theorem AI.step {w : World} {g : Gr} {a : GA} {n bo fo k : Nat} {ss fs0 : List (List Lk)} {mbs Ds : List Nat} {b5 B : Nat} {q : Int → Bool} {vs : List PV} {pre : List (UseT q vs)} {W W' : World} (h : AI w g a n bo fo k ss fs0 mbs Ds b5 B pre W) (hb : Below W.heap.size W W') : AI w g a n bo fo k ss fs0 mbs Ds b5 B pre W' := by
  obtain ⟨fs, gr, c1, c2, c3, c4, c5, c6⟩ := h
  exact ⟨fs, gr, c1.step hb, c2.step hb, c3.step hb, c4.step hb, Nat.le_trans c5 hb.size, c6⟩
set_option maxRecDepth 100000 in
set_option maxHeartbeats 8000000 in
theorem all_any (g : Gr) (a : GA) (k : Nat) (hok : GOk g k) (w : World) (hg : GrAt w w.heap.size g a) : Calls Tryz.prog 34 #[gval g a] w (RetA g k w) := by
  obtain ⟨ta, tc, na, nc, pa, pc⟩ := a
  have hG0 := GB.start hg
  have hBe := Lib.hid (fun (W : World) (h : GrAt W W.heap.size g ⟨ta, tc, na, nc, pa, pc⟩) => begins_any g ⟨ta, tc, na, nc, pa, pc⟩ k hok W h)
  have hok' := Lib.hid hok
  obtain ⟨vs, hvs1, hvs2, hvs3⟩ := hg.prods.vals
  have hvs := Lib.hid (And.intro hvs1 (And.intro hvs2 hvs3))
  clear hvs1 hvs2 hvs3 hg
  have hn8 := hok.nm
  obtain ⟨i67, hi67, hq0, hq1, hq2⟩ := info_parts info67
  obtain ⟨n, hn⟩ : ∃ n, n = g.names.length := ⟨_, rfl⟩
  clear hok
  unfold gval at *
  unfold gcells at *
  dsimp only at *
  rw [← hn] at hn8
  have hn9 : n ≤ 8 := hn8.2
  have hz0 : (0 : Int) ≤ n := by omega
  have hn8' := Lib.hid hn8
  clear hn8
  have hmm := @run_makeMap Tryz.prog
  rw [← hn] at hG0 hBe ⊢
  replace hn := Lib.hid hn
  refine (callsIn_wide (n := 6)).1 ?_
  refine callsIn_of_wp_marks Tryz.func34 rfl trivial ?_ rfl
  refine wpIn_wide.2 ?_
  simp only [Tryz.ntmps34, List.size_toArray, List.length_cons, List.length_nil, Nat.reduceAdd, Nat.reduceSub, Array.replicate_succ, Array.replicate_zero, List.push_toArray, List.append_toArray, List.nil_append, List.cons_append]
  go_wp2_with fail
  go_step3
  have q2 : Blk (((w.alloc (.cells #[.int .i64 g.k, .slice ta g.toks.length tc, .string g.sep, .slice na n nc, .int .i64 g.start, .slice pa g.prods.length pc] 25)).alloc (.cells #[.slice none 0 0] 65)).alloc (.cells #[.slice none 0 0] 65)) (w.heap.size + 1) 65 #[.slice none 0 0] := (Blk.newAt _ _ _ _ (by simp)).alloc _
  have q3 : Blk (((w.alloc (.cells #[.int .i64 g.k, .slice ta g.toks.length tc, .string g.sep, .slice na n nc, .int .i64 g.start, .slice pa g.prods.length pc] 25)).alloc (.cells #[.slice none 0 0] 65)).alloc (.cells #[.slice none 0 0] 65)) (w.heap.size + 2) 65 #[.slice none 0 0] := Blk.newAt _ _ _ _ (by simp)
  have hG1 := (hG0.alloc (.cells #[.slice none 0 0] 65)).alloc (.cells #[.slice none 0 0] 65)
  have hw0 : (((w.alloc (.cells #[.int .i64 g.k, .slice ta g.toks.length tc, .string g.sep, .slice na n nc, .int .i64 g.start, .slice pa g.prods.length pc] 25)).alloc (.cells #[.slice none 0 0] 65)).alloc (.cells #[.slice none 0 0] 65)).heap.size = w.heap.size + 3 := by simp
  clear hG0
  generalize ((w.alloc (.cells #[.int .i64 g.k, .slice ta g.toks.length tc, .string g.sep, .slice na n nc, .int .i64 g.start, .slice pa g.prods.length pc] 25)).alloc (.cells #[.slice none 0 0] 65)).alloc (.cells #[.slice none 0 0] 65) = w0 at *
  obtain ⟨c0, c1, c2, c3, c4, c5⟩ := hG1.cells
  dsimp only at c1 c3 c5
  rw [← hn.out] at c3
  replace hw0 := Lib.hid hw0
  go_upto_region 2 with (go_at_call 68; refine (hBe.out _ (hG1.2.1.mono (by have := hw0.out; omega))).mono ?_; rintro e w1 ⟨bo, ss, rfl, hS, hlen, hbo, hfit, hsnd, hcls, hb1⟩; rw [← hn.out] at hS hlen ⊢; have hG2 := hG1.step hb1; have q2' := q2.step hb1; have q3' := q3.step hb1; have r3 := q3'.cell 0; have f3 := q3'.frozen 0; simp only [List.getElem?_toArray, List.getElem?_cons_zero, List.getElem?_cons_succ] at r3; clear c0 c1 c2 c3 c4 c5; obtain ⟨c0, c1, c2, c3, c4, c5⟩ := hG2.cells; dsimp only at c1 c3 c5; rw [← hn.out] at c3)
  have hlt3 := q3'.lt
  have q2a := q2'.far (p := ⟨w.heap.size + 2, 0, none⟩) (show w.heap.size + 1 ≠ w.heap.size + 2 by omega) (.slice (some ⟨bo, 0, none⟩) n n)
  have q3a := q3'.put 0 (.slice (some ⟨bo, 0, none⟩) n n)
  have hGa := hG2.far ⟨w.heap.size + 2, 0, none⟩ (.slice (some ⟨bo, 0, none⟩) n n) (by simp)
  have hSa := hS.put q3' (by have := hw0.out; omega) 0 (.slice (some ⟨bo, 0, none⟩) n n)
  have hba : w1.heap.size ≤ (w1.setCell ⟨w.heap.size + 2, 0, none⟩ (.slice (some ⟨bo, 0, none⟩) n n)).heap.size := by simp
  have hbo2 : w.heap.size + 3 ≤ bo := by have := hw0.out; omega
  clear hG1 hG2 q2 q3 q2' q3' hS r3 f3 c0 c1 c2 c3 c4 c5 hb1 hbo
  generalize w1.setCell ⟨w.heap.size + 2, 0, none⟩ (.slice (some ⟨bo, 0, none⟩) n n) = w2 at *
  obtain ⟨c0, c1, c2, c3, c4, c5⟩ := hGa.cells
  dsimp only at c1 c3 c5
  rw [← hn.out] at c3
  have r2 := q2a.cell 0
  have f2 := q2a.frozen 0
  have hlt2 := q2a.lt
  simp only [List.getElem?_toArray, List.getElem?_cons_zero, List.getElem?_cons_succ] at r2
  have hlt3b := q3a.lt
  go_upto_region 3 with (at_make; refine wpList_make_row _ rfl _ _ 65 rfl 69 i67 (.map none) under63 hi67 hq0 hq1 rfl _ _ n rfl rfl (by rw [hq2]; omega) (by omega) ?_)
  have hAF0 : AF w g ⟨ta, tc, na, nc, pa, pc⟩ n bo w2.heap.size ss (w2.setCell ⟨w.heap.size + 1, 0, none⟩ (.slice (some ⟨w2.heap.size, 0, none⟩) n n)) := by
    have hSb := hSa.put q2a (by omega) 0 (.slice (some ⟨w2.heap.size, 0, none⟩) n n)
    refine ⟨hGa.far _ _ (by simp), q2a.put 0 _, q3a.far (by simp) _, ?_, by omega, by simp⟩
    have := hSb.reads hlen
    rwa [show (w2.setCell ⟨w.heap.size + 1, 0, none⟩ (.slice (some ⟨w2.heap.size, 0, none⟩) n n)).heap.size = w2.heap.size by simp] at this
  have hAF1 := hAF0.step (bAlc (Below.refl _ _) (.cells (madeCells #[.map none] n) 69))
  have hSF : SetsO ((w2.setCell ⟨w.heap.size + 1, 0, none⟩ (.slice (some ⟨w2.heap.size, 0, none⟩) n n)).alloc (.cells (madeCells #[.map none] n) 69)) w2.heap.size w2.heap.size n [] :=
    SetsO.start (Blk.newAt _ _ _ _ (by simp)) (by simp [madeCells])
  have hnds : Hid (∀ s ∈ ss, s.Nodup) := Lib.hid hSa.nodup
  clear q2a q3a hGa hSa c0 c1 c2 c3 c4 c5 r2 f2 hlt2 hlt3 hlt3b hba hAF0
  generalize (w2.setCell ⟨w.heap.size + 1, 0, none⟩ (.slice (some ⟨w2.heap.size, 0, none⟩) n n)).alloc (.cells (madeCells #[.map none] n) 69) = W1 at *
  generalize w2.heap.size = fo at *
  replace hlen := Lib.hid hlen
  replace hfit := Lib.hid hfit
  replace hsnd := Lib.hid hsnd
  replace hcls := Lib.hid hcls
  replace hbo2 := Lib.hid hbo2
  have r2 := hAF1.2.1.cell 0
  simp only [List.getElem?_toArray, List.getElem?_cons_zero, List.getElem?_cons_succ] at r2
  go_wp2_with fail
  clear r2
  go_loopg [17] n (fun gk s17 wr => ∃ i : Nat, s17 = .int .i64 i ∧ i + gk = n ∧ SetsO wr fo fo n (List.replicate i []) ∧ AF w g ⟨ta, tc, na, nc, pa, pc⟩ n bo fo ss wr)
  case atStart => exact ⟨0, rfl, by omega, hSF, hAF1⟩
  case round =>
    clear hSF hAF1
    obtain ⟨i, rfl, hi, hS, hAF⟩ := hrel
    replace hi := Lib.hid hi
    by_cases hin : i < n
    · obtain ⟨⟨cv, hcv⟩, hfz, hlt⟩ := hS.blk hin
      have hfz' : (wr.alloc (.map #[] 0)).frozen? ⟨fo, i, none⟩ = false := by
        obtain ⟨cs, mbs, h1, _⟩ := hS
        exact (h1.alloc _).frozen i
      have hcv' : (wr.alloc (.map #[] 0)).cell? ⟨fo, i, none⟩ = some cv := cell_later (bAlc (Below.refl _ _) _) hcv
      have hzi : (0 : Int) ≤ i := by omega
      have hzn : (i : Int) < n := by omega
      have r2 := hAF.2.1.cell 0
      simp only [List.getElem?_toArray, List.getElem?_cons_zero, List.getElem?_cons_succ] at r2
      go_wp2_with fail
      go_roundg (n - (i + 1))
      case measure => have := hi.out; omega
      case rel =>
        rw [← World.setCell_alloc_past _ _ _ _ hlt]
        refine ⟨i + 1, by go_num, by have := hi.out; omega, ?_, (hAF.step (bAlc (Below.refl _ _) _)).low ((Below.refl _ _).setCell (show fo ≤ (⟨fo, i, none⟩ : Addr).block from Nat.le_refl _) _)⟩
        have := hS.push (by simp; omega) (by omega)
        rwa [List.length_replicate, show List.replicate i ([] : List Lk) ++ [[]] = List.replicate (i + 1) [] by rw [List.replicate_succ']] at this
    · have hin' : i = n := by have := hi.out; omega
      subst hin'
      obtain ⟨mbs, hM, hnd, hmb⟩ := hS.toM
      have hst := hok'.out.st
      rw [← hn.out] at hst
      obtain ⟨st, hst0⟩ := Int.eq_ofNat_of_zero_le (show 0 ≤ g.start - 16 by omega)
      have hstn : (g.start - 16).toNat = st := by omega
      have hsti : st < i := by omega
      obtain ⟨m, hm1, hm2, hm3, hm4⟩ := hM.get (i := st) (by simpa using hsti)
      have hcur : (List.replicate i ([] : List Lk)).getD st [] = [] := by simp [List.getD_eq_getElem?_getD, List.getElem?_replicate, hsti]
      rw [hcur] at hm3
      have hmlo := hmb m (List.mem_of_getElem? hm1)
      have hfit1 : Hid (SetsFit k ((List.replicate i ([] : List Lk)).set st [Lk.of []])) := Lib.hid (set_fit (by intro s hs x hx; rw [List.eq_of_mem_replicate hs] at hx; cases hx) st (by intro x hx; simp at hx; subst hx; exact nil_fit k))
      have hsnd1 : Hid (SoundO g.prods k g.start ((List.replicate i ([] : List Lk)).set st [Lk.of []])) := Lib.hid (setO_sound (by
        intro j y hy
        rw [List.getD_eq_getElem?_getD, List.getElem?_replicate] at hy
        split at hy <;> simp at hy) st (by simpa using hsti) (by intro y hy; simp at hy; subst hy; rw [show (16 : Int) + (st : Int) = g.start by omega]; exact .start))
      have hbeg1 : Hid (Lk.of [] ∈ ((List.replicate i ([] : List Lk)).set st [Lk.of []]).getD (g.start - 16).toNat []) := Lib.hid (by rw [getD_set _ _ _ _ (by simpa using hsti), hstn]; simp)
      have hlen1 : Hid (((List.replicate i ([] : List Lk)).set st [Lk.of []]).length = i) := Lib.hid (by simp)
      have hput : ∀ W', wr.grownBy W' (some m) → MapK lookKey W' m [Lk.of []] → SetsM W' fo i mbs ((List.replicate i ([] : List Lk)).set st [Lk.of []]) := fun W' hg h => hM.put hnd (by simpa using hsti) hm1 (fun b h1 h2 _ => hg.block b h1 (fun e => h2 (by injection e))) h
      generalize (List.replicate i ([] : List Lk)).set st [Lk.of []] = fs1 at *
      have r2 := hAF.2.1.cell 0
      obtain ⟨c0, c1, c2, c3, c4, c5⟩ := hAF.1.cells
      dsimp only at c1 c3 c5
      simp only [List.getElem?_toArray, List.getElem?_cons_zero, List.getElem?_cons_succ] at r2
      have zw : IntKind.i64.wrap (st : Int) = st := IntWalk.i64_in _ (by omega)
      have hzx : (0 : Int) ≤ st := by omega
      have hzy : (st : Int) < i := by omega
      have hif : (Lk.of [] ∈ ([] : List Lk) ∧ [Lk.of []] = ([] : List Lk)) ∨ (Lk.of [] ∉ ([] : List Lk) ∧ [Lk.of []] = [] ++ [Lk.of []]) := .inr ⟨by simp, rfl⟩
      have hwf : (Lk.of []).wf := right_wf (nil_right 8 (by omega))
      replace hif := Lib.hid hif
      replace hwf := Lib.hid hwf
      replace hput := Lib.hid hput
      replace hcur := Lib.hid hcur
      replace hstn := Lib.hid hstn
      replace hi := Lib.hid hi
      go_wp2_with (at_mapUpdate; refine wpList_layK (E := lookKey) _ under67 rfl _ _ _ rfl m [] [Lk.of []] (Lk.of []) hif.out rfl rfl rfl hm3 hwf.out ?_; intro w5 hM5 ht5)
      -- ROUNDS
      clear r2 c0 c1 c2 c3 c4 c5
      have hM1 := hput.out w5 (turned_grown ht5) hM5
      have hAF5 := hAF.low (below_of_grown (turned_grown ht5) (fun r e => by cases e; exact hmlo.1) hAF.2.2.2.2.2)
      have hmb5 : Hid (∀ m ∈ mbs, fo ≤ m ∧ m < w5.heap.size) := Lib.hid fun m' h' => ⟨(hmb m' h').1, Nat.lt_of_lt_of_le (hmb m' h').2 (turned_grown ht5).size⟩
      have hnd' := Lib.hid hnd
      clear hM hS hAF hM5 ht5 hmb hm1 hm2 hm3 hm4 hmlo hput hnd
      go_step3
      go_wp2_with fail
      refine wp_loop_ghost_k (fun gk a' W => ∃ (fs : List (List Lk)) (Ds : List Nat), Hid (tot fs + gk = i * 4681) ∧ Hid (fs.length = i) ∧ Hid (SetsFit k fs) ∧ Hid (SoundO g.prods k g.start fs) ∧ Hid (Lk.of [] ∈ fs.getD (g.start - 16).toNat []) ∧ SetsM W fo i mbs fs ∧ AF w g ⟨ta, tc, na, nc, pa, pc⟩ i bo fo ss W ∧ MarksOk W fo Ds ∧ w5.heap.size ≤ W.heap.size ∧
        ∃ (f : Nat → Value), a' = { tmps := #[(f 0), .pointer (some ⟨w.heap.size, 0, none⟩), .pointer (some ⟨w.heap.size + 1, 0, none⟩), .pointer (some ⟨w.heap.size + 1 + 1, 0, none⟩), (f 4), (f 5), (f 6), (f 7), (f 8), (f 9), (f 10), (f 11), (f 12), (f 13), (f 14), (f 15), (f 16), (f 17), (f 18), (f 19), (f 20), (f 21), (f 22), (f 23), (f 24), (f 25), (f 26), (f 27), (f 28), (f 29), (f 30), (f 31), (f 32), (f 33), (f 34), (f 35), (f 36), (f 37), (f 38), (f 39), (f 40), (f 41), (f 42), (f 43), (f 44), (f 45), (f 46), (f 47), (f 48), (f 49), (f 50), (f 51), (f 52), (f 53), (f 54), (f 55), (f 56), (f 57), (f 58), (f 59), (f 60), (f 61), (f 62), (f 63), (f 64), (f 65), (f 66), (f 67), (f 68), (f 69), (f 70), (f 71), (f 72), (f 73)], defers := marks Ds }) (i * 4681 - tot fs1) ?atStart ?round
      case atStart =>
        have htl := tot_le fs1 (fun s hs => fit_len (hM1.nodups s hs) (hfit1.out s hs))
        rw [hlen1.out] at htl
        exact ⟨fs1, [], Lib.hid (by omega), hlen1, hfit1, hsnd1, hbeg1, hM1, hAF5, ⟨List.nodup_nil, by simp⟩, Nat.le_refl _, ex_frame _ rfl⟩
      case round =>
        clear hfit1 hsnd1 hbeg1 hlen1 hM1 hAF5
        rintro gk2 a' W ⟨fs, Ds, hgk, hlenf, hfitf, hsndf, hbegf, hM, hAF, hMk, hH, f, rfl⟩ J K hJ hK
        obtain ⟨c0, c1, c2, c3, c4, c5⟩ := hAF.1.cells
        dsimp only at c1 c3 c5
        rw [← hn.out] at c3
        have hMk36 := Lib.hid (fun (W : World) => mkuses_any g ⟨ta, tc, na, nc, pa, pc⟩ 69 #[] W)
        unfold gval at hMk36
        unfold gcells at hMk36
        dsimp only at hMk36
        rw [← hn.out] at hMk36
        clear c0 c1 c2 c3 c4 c5
        go_upto_region 10 with (fail)
        have hb0 : Below W.heap.size W (W.alloc (.cells #[.bool false] 4)) := bAlc (Below.refl _ _) _
        have q5 := Blk.new W 4 #[.bool false]
        have hM2 := hM.step hb0
        have hAF2 := hAF.step hb0
        have hMk2 := hMk.step hb0
        have hsz2 : (W.alloc (.cells #[.bool false] 4)).heap.size = W.heap.size + 1 := by simp
        have hDsb : Hid (∀ D ∈ Ds, D < W.heap.size) := Lib.hid fun D hD => (Array.getElem?_eq_some_iff.1 (hMk.2 D hD).2).1
        have hfoW : Hid (fo < W.heap.size ∧ w.heap.size < fo) := Lib.hid ⟨by obtain ⟨cs, h1, _⟩ := hM; exact h1.lt, by have := hAF.2.2.2.2.1; omega⟩
        clear hM hAF hMk
        generalize W.alloc (.cells #[.bool false] 4) = W6 at *
        generalize hWs : W.heap.size = b5 at *
        obtain ⟨c0, c1, c2, c3, c4, c5⟩ := hAF2.1.cells
        dsimp only at c1 c3 c5
        rw [← hn.out] at c3
        replace hsz2 := Lib.hid hsz2
        replace hWs := Lib.hid hWs
        go_wp2_with (go_at_call 57; refine (hMk36.out _).mono ?_; rintro e w6 ⟨rfl, hw6⟩; replace hw6 := Lib.hid hw6)
        have hb6 : Below W6.heap.size W6 w6 := by rw [hw6.out]; exact bAlc (bAlc (Below.refl _ _) _) _
        have hM3 := hM2.step hb6
        have hAF3 := hAF2.step hb6
        have hMk3 := hMk2.step hb6
        have q5' := q5.step hb6
        have hs6 : w6.heap.size = b5 + 3 := by rw [hw6.out]; simp; have := hsz2.out; omega
        have hUS : USt w.heap.size W6.heap.size (W6.heap.size + 1) pa g.prods.length pc vs (.func (.func 69) #[] #[]) w6 := by
          have e1 : Below w.heap.size w w6 := hAF3.1.2.2
          refine ⟨?_, ?_, hvs.out.2.1.below e1, fun x hx => (hvs.out.2.2 x hx).below e1, e1.size⟩
          · rw [hw6.out]; exact ((Blk.new W6 25 _).alloc _).cell 5
          · rw [hw6.out]; exact (Blk.newAt _ _ _ _ (by simp)).cell 0
        have hB1 : W6.heap.size = b5 + 1 := hsz2.out
        clear hw6 hb6 hM2 hAF2 hMk2 q5 c0 c1 c2 c3 c4 c5
        rw [hB1] at hUS ⊢
        have hmb6 : ∀ m ∈ mbs, m < b5 := fun m' h' => by have := (hmb5.out m' h').2; omega
        have hDs6 : ∀ D ∈ Ds, D < b5 := fun D hD => by
          have h1 := (hMk3.2 D hD).2
          have h2 := hDsb.out D hD
          exact h2
        have hfo6 : fo < b5 := by have := hfoW.out; omega
        have hwfo : w.heap.size < fo := hfoW.out.2
        replace hmb6 := Lib.hid hmb6
        replace hDs6 := Lib.hid hDs6
        refine (wpIn_wide (n := 6)).1 ?_
        refine wpIn_rangeFunc_ownH (F := Fence.wide) (n := 6) rfl (by omega) (gf := 99) (lb := #[.pointer (some ⟨b5 + 1, 0, none⟩), .pointer (some ⟨b5 + 1 + 1, 0, none⟩)]) rfl trivial (enters_of Tryz.func99 (by kernel_rfl) rfl)
          (uses_stops (fun s => decide (16 ≤ s)) 69 #[] (KpU w.heap.size (b5 + 1) (b5 + 1 + 1)) (fun _ => True) 5 (by omega) (b5 + 1) (b5 + 1 + 1) w.heap.size pa g.prods.length pc vs (by have := hok'.out.pl; omega)
            (fun x hx => by have h1 := List.mem_map_of_mem (f := PV.p) hx; rw [hvs.out.1] at h1; have := (hok'.out.pr _ h1).2.1; omega) w6 (fun X Y h s => s.kept h) (fun _ _ _ _ => trivial) (fun _ _ _ _ => trivial) (fun _ _ h => h.1.size) (enters_of Tryz.func69 (by kernel_rfl) rfl) (fun s W _ => callsIn_wide.2 (isnont_any s W)) hUS trivial)
          KpU.trans (fun W l o o' hl _ _ _ => KpU.put W l o' hl (by omega) (by omega) (by omega)) (Below.refl _ _) (fun _ => rfl)
          (fun pre W => AI w g ⟨ta, tc, na, nc, pa, pc⟩ i bo fo k ss fs mbs Ds b5 (b5 + 3) pre W) (fun _ _ _ => False)
          (by rw [hs6]; exact AI.own (by omega) (fun m' h' => by have := hmb6.out m' h'; omega) (by omega) (fun D hD => by have := hDs6.out D hD; omega)) (fun _ s X Y row hs _ _ => hs)
          ⟨fs, false, hAF3, hM3, q5', hMk3, by omega, hlenf, hfitf, hsndf, hbegf, Lib.hid (by simp)⟩
          (fun x a' W => ∃ Bx, b5 + 3 ≤ Bx ∧ Blk W Bx 100 #[.int .i64 (x.1.1 : Int), .int .i64 (x.1.2.1 : Int)] ∧ ∃ (f : Nat → Value), a' = { tmps := #[(f 0), .pointer (some ⟨w.heap.size, 0, none⟩), .pointer (some ⟨w.heap.size + 1, 0, none⟩), .pointer (some ⟨w.heap.size + 1 + 1, 0, none⟩), (f 4), .pointer (some ⟨b5, 0, none⟩), .pointer (some ⟨Bx, 0, none⟩), .int .i64 x.1.2.2, (f 8), (f 9), (f 10), (f 11), (f 12), (f 13), (f 14), (f 15), (f 16), (f 17), (f 18), (f 19), (f 20), (f 21), (f 22), (f 23), (f 24), (f 25), (f 26), (f 27), (f 28), (f 29), (f 30), (f 31), (f 32), (f 33), (f 34), (f 35), (f 36), (f 37), (f 38), (f 39), (f 40), (f 41), (f 42), (f 43), (f 44), (f 45), (f 46), (f 47), (f 48), (f 49), (f 50), (f 51), (f 52), (f 53), (f 54), (f 55), (f 56), (f 57), (f 58), (f 59), (f 60), (f 61), (f 62), (f 63), (f 64), (f 65), (f 66), (f 67), (f 68), (f 69), (f 70), (f 71), (f 72), (f 73)], defers := [] })
          (fun x a' _ X Y row hs hg hr => by obtain ⟨Bx, h1, h2, h3⟩ := hs; exact ⟨Bx, h1, blk_own Bx 100 (fun (_ : Unit) => #[.int .i64 (x.1.1 : Int), .int .i64 (x.1.2.1 : Int)]) () X Y row h2 hg (fun r e => (hr r e).2), h3⟩)
          ?assign ?body ?done ?stop
        case assign =>
          rintro l pre x W K hI hK
          dsimp only [encU]
          have hbA : Below W.heap.size W (W.alloc (.cells #[.int .i64 (x.1.1 : Int), .int .i64 (x.1.2.1 : Int)] 100)) := bAlc (Below.refl _ _) _
          have hBW : b5 + 3 ≤ W.heap.size := by obtain ⟨_, _, _, _, _, _, h, _⟩ := hI; exact h
          have hIA := hI.step hbA
          have hlow : w.heap.size ≤ W.heap.size := by omega
          gi_wp2
          exact hK _ _ ((KeepsOthers.alloc _ _).from _) ⟨hbA.mono hlow, hbA.block _ (by omega), hbA.block _ (by omega)⟩ hIA ⟨W.heap.size, hBW, Blk.new W 100 _, ex_frame _ rfl⟩
        case body =>
          rintro l pre x a' Wb hl ⟨r, hr⟩ ⟨fsb, gr, hAFb, hMb, q5b, hMkb, hszb, hlenb, hfitb, hsndb, hbegb, hgrb⟩ ⟨Bx, hBx, bX, f2, rfl⟩ hlt
          obtain ⟨⟨pi, d, s⟩, hx⟩ := x
          dsimp only at bX ⊢
          obtain ⟨hxa, hxb⟩ := List.mem_filter.1 hx
          obtain ⟨y, hy0, hy1, hy2⟩ := prsU_mem.1 hxa
          dsimp only at hxb hy1 hy2
          have hs16 : 16 ≤ s := of_decide_eq_true hxb
          have hpi : g.prods[pi]? = some y.p := by rw [← hvs.out.1, List.getElem?_map]; simp at hy1; rw [hy1]; rfl
          have hmem : y.p ∈ g.prods := List.mem_of_getElem? hpi
          generalize y.p = p at *
          have hpil := (List.getElem?_eq_some_iff.1 hpi).1
          have hdl := (List.getElem?_eq_some_iff.1 hy2).1
          obtain ⟨b, off, hA, hbt, x0, RA, rc, x1, hx2, hx3, hx4⟩ := hAFb.1.2.1.prods.get hpi
          dsimp only at hA
          subst hA
          have hpr := hok'.out.pr _ hmem
          have hsy := hok'.out.sym hmem
          rw [← hn.out] at hpr hsy
          have hk := hok'.out.k1
          have hk4 := hok'.out.k4
          have hsi := hsy s (List.mem_of_getElem? hy2)
          have hsN : s < 16 + (i : Int) := by unfold SymOk at hsi; omega
          have hR := round_follow hk hk4 hlenb.out hfit.out hfitb.out hsnd.out hsndb.out hbegb.out hmem hy2 hpr.1.1 hs16 hsN hsy
          have hdr : ∀ z ∈ p.right.drop (d + 1), SymOk i z := fun z hz => hsy z (List.mem_of_mem_drop hz)
          have hTf := tail_fit hk hk4 hfit.out _ hdr
          have hTl := fit_len (tail_nodup hk hk4 hfit.out _ hdr) hTf
          obtain ⟨ix, hix⟩ := Int.eq_ofNat_of_zero_le (show 0 ≤ s - 16 by omega)
          have hixn : (s - 16).toNat = ix := by omega
          have hixi : ix < i := by omega
          obtain ⟨jx, hjx⟩ := Int.eq_ofNat_of_zero_le (show 0 ≤ p.left - 16 by omega)
          have hjxn : (p.left - 16).toNat = jx := by omega
          have hjxi : jx < i := by omega
          have hR1 := hR.fit
          have hR2 := hR.sound
          have hR3 := hR.grow
          have hR4 := hR.same
          have hR5 := hR.tot
          have hR6 := hR.begin_
          rw [hixn] at hR1 hR2 hR3 hR4 hR5 hR6
          have hJe : newO k ss fsb p d s = addAll (fsb.getD ix []) (sumsJ k (tailL k ss (p.right.drop (d + 1))) (lset (fsb.getD jx []))) := by unfold newO usesL; rw [hixn, hjxn]
          have hclu : ∀ z, z ∈ usesL k ss fsb p d ↔ z ∈ usesL k ss fsb (g.prods.getD pi default) d := fun z => by rw [List.getD_eq_getElem?_getD, hpi]; rfl
          generalize newO k ss fsb p d s = J at *
          obtain ⟨mb, hm1, hm2, hm3, hm4⟩ := hMb.get (i := ix) (by rw [hlenb.out]; exact hixi)
          obtain ⟨mb2, hn1, hn2, hn3, hn4⟩ := hMb.get (i := jx) (by rw [hlenb.out]; exact hjxi)
          have hLf := lset_fit (setsFit_get hfitb.out jx)
          have hLl : (lset (fsb.getD jx [])).length ≤ 4681 := fit_len (lset_nodup (setsFit_get hfitb.out jx)) hLf
          have hLl2 : (fsb.getD jx []).length ≤ 4681 := fit_len (by
            rw [List.getD_eq_getElem?_getD]
            cases hh : fsb[jx]? with
            | none => simp
            | some t => exact hMb.nodups t (List.mem_of_getElem? hh)) (setsFit_get hfitb.out jx)
          have zw : IntKind.i64.wrap (ix : Int) = ix := IntWalk.i64_in _ (by have := hn8'.out; omega)
          have zw2 : IntKind.i64.wrap (jx : Int) = jx := IntWalk.i64_in _ (by have := hn8'.out; omega)
          have hzx : (0 : Int) ≤ ix := by omega
          have hzy : (ix : Int) < i := by omega
          have hzx2 : (0 : Int) ≤ jx := by omega
          have hzy2 : (jx : Int) < i := by omega
          have hzp : (0 : Int) ≤ pi := by omega
          have hzq : (pi : Int) < g.prods.length := by omega
          have hzr : g.prods.length ≤ 24 := hok'.out.pl
          have hzd : (0 : Int) ≤ d := by omega
          have hzd2 : (d : Int) < p.right.length := by omega
          have hzd3 : p.right.length ≤ 6 := hpr.2.1
          have hsd : (ints p.right)[d]? = some (.int .i64 s) := by simp [ints, hy2]
          obtain ⟨rb, roff, hRA, hrb, y0⟩ := hx2.get hsd
          subst hRA
          clear hR hxa hxb hy0 hy1 y0 hr hlt
          replace hx := Lib.hid hx
          replace hpi := Lib.hid hpi
          replace hmem := Lib.hid hmem
          replace hy2 := Lib.hid hy2
          replace hpr := Lib.hid hpr
          replace hsy := Lib.hid hsy
          replace hR1 := Lib.hid hR1
          replace hR2 := Lib.hid hR2
          replace hR3 := Lib.hid hR3
          replace hR4 := Lib.hid hR4
          replace hR5 := Lib.hid hR5
          replace hR6 := Lib.hid hR6
          replace hJe := Lib.hid hJe
          replace hclu := Lib.hid hclu
          replace hixn := Lib.hid hixn
          replace hjxn := Lib.hid hjxn
          replace hTf := Lib.hid hTf
          replace hLf := Lib.hid hLf
          replace hTl := Lib.hid hTl
          replace hLl := Lib.hid hLl
          replace hLl2 := Lib.hid hLl2
          replace hm1 := Lib.hid hm1
          replace hn1 := Lib.hid hn1
          replace hsd := Lib.hid hsd
          have c5 := hAFb.1.cells.2.2.2.2.2
          dsimp only at c5
          have e0 := bX.cell 0
          simp only [List.getElem?_toArray, List.getElem?_cons_zero, List.getElem?_cons_succ] at e0
          gi_wp2
          have hs6' := hs6
          have hb1 : Below Wb.heap.size Wb (Wb.alloc (.cells #[.int .i64 p.left, .slice (some ⟨rb, roff, none⟩) p.right.length rc] 47)) := bAlc (Below.refl _ _) _
          have q8 := Blk.new Wb 47 #[.int .i64 p.left, .slice (some ⟨rb, roff, none⟩) p.right.length rc]
          have hAFw := hAFb.step hb1
          have hMw := hMb.step hb1
          have q5w := q5b.step hb1
          have bXw := bX.step hb1
          have hm4w := Lib.hid (hm3.step hb1)
          have hn4w := Lib.hid (hn3.step hb1)
          have hm2w := cell_later hb1 hm2
          have hn2w := cell_later hb1 hn2
          have hrd := (hx2.drop (d + 1) rc (by omega) hx3).below (hb1.mono (by have := hAFb.1.2.2.size; omega))
          have hsz1 := hb1.size
          have hpre : ∀ w', KX (Wb.alloc (.cells #[.int .i64 p.left, .slice (some ⟨rb, roff, none⟩) p.right.length rc] 47)) mb b5 w' → KX Wb mb b5 w' := fun w' h =>
            ⟨h.os.trans hb1.os, h.tape.trans hb1.tape, h.output.trans hb1.output, Nat.le_trans hsz1 h.size, fun j h1 h2 h3 => (h.block j (by omega) h2 h3).trans (hb1.block j h1)⟩
          have hmbl := hmb5.out mb (List.mem_of_getElem? hm1.out)
          have hmb9 : Hid (some mb ≠ some b5) := Lib.hid (by intro e; injection e with e; have := hmb6.out mb (List.mem_of_getElem? hm1.out); omega)
          have hmbb := hmb6.out mb (List.mem_of_getElem? hm1.out)
          obtain ⟨gb, hgb⟩ : ∃ gb, gb = decide (J.length ≠ (fsb.getD ix []).length) := ⟨_, rfl⟩
          have hFin : Hid (∀ w', KX (Wb.alloc (.cells #[.int .i64 p.left, .slice (some ⟨rb, roff, none⟩) p.right.length rc] 47)) mb b5 w' → MapK lookKey w' mb J → Blk w' b5 4 #[.bool (gb || gr)] → KeepsFrom w6.heap.size Wb w' ∧ KpU w.heap.size (b5 + 1) (b5 + 1 + 1) Wb w' ∧ AI w g ⟨ta, tc, na, nc, some ⟨b, off, none⟩, pc⟩ i bo fo k ss fs mbs Ds b5 (b5 + 3) (pre ++ [⟨(pi, d, s), hx.out⟩]) w') := Lib.hid fun w' h hm h5 => by
            have h' := hpre w' h
            refine ⟨h'.keeps (by omega) (by omega), ⟨h'.low (by omega) (by omega) (by omega), h'.block _ (by omega) (by omega) (by omega), h'.block _ (by omega) (by omega) (by omega)⟩, fsb.set ix J, gb || gr,
              hAFb.low (h'.low (by omega) (by omega) (by omega)), hMb.put hnd'.out (by rw [hlenb.out]; exact hixi) hm1.out (fun j h1 h2 h3 => h'.block j h1 h2 (h3.elim (fun e => by omega) (fun h3 => by have := hmb6.out j h3; omega))) hm, h5,
              ⟨hMkb.1, fun D hD => ⟨(hMkb.2 D hD).1, (h'.block D (Array.getElem?_eq_some_iff.1 (hMkb.2 D hD).2).1 (fun e => ?_) (by have := hDs6.out D hD; omega)).trans (hMkb.2 D hD).2⟩⟩, Nat.le_trans hszb h'.size, Lib.hid (by simpa using hlenb.out), hR1, hR2, hR6, Lib.hid ?_⟩
            · obtain ⟨es, clock, hq, _⟩ := hm3
              have := (hMkb.2 D hD).2
              rw [e, hq] at this; cases this
            · have h3 := hR3.out
              have h5 := hR5.out
              have h4 := hR4.out
              have h9 := hgrb.out
              cases gb with
              | true =>
                have hne := of_decide_eq_true hgb.symm
                have h6 : tot fs ≤ tot fsb := by
                  cases gr
                  · simp only [Bool.false_eq_true, if_false] at h9; rw [h9.1]; exact Nat.le_refl _
                  · simp only [if_true] at h9; omega
                simp only [Bool.true_or, if_true]
                omega
              | false =>
                have heq := Decidable.of_not_not (of_decide_eq_false hgb.symm)
                obtain ⟨h7, h8⟩ := h4 heq
                rw [h7, Bool.false_or]
                cases gr
                · simp only [Bool.false_eq_true, if_false] at h9 ⊢
                  obtain ⟨h9a, h9b⟩ := h9
                  subst h9a
                  refine ⟨rfl, fun u hu => ?_⟩
                  rcases List.mem_append.1 hu with hu | hu
                  · exact h9b u hu
                  · have hu := List.mem_singleton.1 hu
                    subst hu
                    intro z hz
                    have := h8 z ((hclu.out z).2 hz)
                    rw [← hixn.out] at this
                    exact this
                · simpa using h9
          clear hpre
          clear hMb hAFb q5b bX hm2 hm3 hn2 hn3 hMkb hgrb
          generalize Wb.alloc (.cells #[.int .i64 p.left, .slice (some ⟨rb, roff, none⟩) p.right.length rc] 47) = W1 at *
          generalize hg8 : Wb.heap.size = g8 at *
          obtain ⟨d0, d1, d2, d3, d4, d5⟩ := hAFw.1.cells
          dsimp only at d1 d3 d5
          rw [← hn.out] at d3
          have j2 := hAFw.2.1.cell 0
          have j3 := hAFw.2.2.1.cell 0
          have j8 := q8.cell 0
          have j9 := q8.cell 1
          have jx1 := bXw.cell 1
          simp only [List.getElem?_toArray, List.getElem?_cons_zero, List.getElem?_cons_succ] at j2 j3 j8 j9 jx1
          have hAll : Hid (∀ w', KX W1 mb b5 w' → w'.cell? ⟨w.heap.size, 0, none⟩ = some (.int .i64 g.k) ∧ w'.cell? ⟨w.heap.size, 1, none⟩ = some (.slice ta g.toks.length tc) ∧ w'.cell? ⟨w.heap.size, 2, none⟩ = some (.string g.sep) ∧ w'.cell? ⟨w.heap.size, 3, none⟩ = some (.slice na i nc) ∧ w'.cell? ⟨w.heap.size, 4, none⟩ = some (.int .i64 g.start) ∧ w'.cell? ⟨w.heap.size, 5, none⟩ = some (.slice (some ⟨b, off, none⟩) g.prods.length pc) ∧
              w'.cell? ⟨w.heap.size + 1, 0, none⟩ = some (.slice (some ⟨fo, 0, none⟩) i i) ∧ w'.cell? ⟨w.heap.size + 1 + 1, 0, none⟩ = some (.slice (some ⟨bo, 0, none⟩) i i) ∧ w'.cell? ⟨g8, 0, none⟩ = some (.int .i64 p.left) ∧ w'.cell? ⟨g8, 1, none⟩ = some (.slice (some ⟨rb, roff, none⟩) p.right.length rc) ∧ w'.cell? ⟨Bx, 1, none⟩ = some (.int .i64 d) ∧
              w'.cell? ⟨fo, ix, none⟩ = some (.map (some mb)) ∧ w'.cell? ⟨fo, jx, none⟩ = some (.map (some mb2)) ∧ KX W1 mb b5 w') :=
            Lib.hid fun w' h => ⟨h.cell d0 (cell_not_map d0 hm4w.out) (by omega), h.cell d1 (cell_not_map d1 hm4w.out) (by omega), h.cell d2 (cell_not_map d2 hm4w.out) (by omega), h.cell d3 (cell_not_map d3 hm4w.out) (by omega), h.cell d4 (cell_not_map d4 hm4w.out) (by omega), h.cell d5 (cell_not_map d5 hm4w.out) (by omega),
              h.cell j2 (cell_not_map j2 hm4w.out) (by omega), h.cell j3 (cell_not_map j3 hm4w.out) (by omega), h.cell j8 (cell_not_map j8 hm4w.out) (by omega), h.cell j9 (cell_not_map j9 hm4w.out) (by omega), h.cell jx1 (cell_not_map jx1 hm4w.out) (by omega), h.cell hm2w (cell_not_map hm2w hm4w.out) (by omega), h.cell hn2w (cell_not_map hn2w hm4w.out) (by omega), h⟩
          have hq5 : Hid (∀ X W', Below W1.heap.size W1 X → X.grownBy W' (some mb) → Blk W' b5 4 #[.bool gr] ∧ W'.cell? ⟨b5, 0, none⟩ = some (.bool gr) ∧ W'.frozen? ⟨b5, 0, none⟩ = false) := Lib.hid fun X W' h1 h2 => by
            have h3 := (q5w.step h1).grown h2 (fun e => hmb9.out e.symm)
            exact ⟨h3, h3.cell 0, h3.frozen 0⟩
          have hPl : Hid (∀ W', Calls Tryz.prog 38 #[.int .i64 g.k] W' (RetP W' k)) := Lib.hid fun W' => by rw [hok'.out.hk]; exact mkplus_any k W'
          have hSo : Hid (∀ W', Below W1.heap.size W1 W' → Calls Tryz.prog 37 #[.map (some mb2)] W' (RetL W' (lset (fsb.getD jx [])))) := Lib.hid fun W' hb =>
            sorted_any mb2 (fsb.getD jx []) W' (hn4w.out.step hb) (fun x hx => (setsFit_get hfitb.out jx x hx).1) (by have := hLl2.out; omega)
          have hT0 : ∀ (SA : Option Addr) (sn sc : Nat), Rd1 W1 w.heap.size SA sn (ints (p.right.drop (d + 1))) → Hid (∀ W', Below W1.heap.size W1 W' → Calls Tryz.prog 36 #[.agg #[.int .i64 g.k, .slice ta g.toks.length tc, .string g.sep, .slice na i nc, .int .i64 g.start, .slice (some ⟨b, off, none⟩) g.prods.length pc], .slice (some ⟨bo, 0, none⟩) i i, .slice SA sn sc] W' (RetL W' (tailL k ss (p.right.drop (d + 1))))) :=
            fun SA sn sc hr => Lib.hid fun W' hb => by
              have hlw : w.heap.size ≤ W1.heap.size := hAFw.1.2.2.size
              have hlen2 : sn ≤ 1000000 := by have := hr.1; simp [ints] at this; omega
              have := tail_any g ⟨ta, tc, na, nc, some ⟨b, off, none⟩, pc⟩ k hok'.out.hk hk hk4 (some ⟨bo, 0, none⟩) i i ss SA sn sc (p.right.drop (d + 1)) W' (((hAFw.1.step hb).2.1).mono (by have := hb.size; omega)) ((hAFw.2.2.2.1.below (hb.mono hAFw.2.2.2.2.2)).mono (Nat.le_trans hAFw.2.2.2.2.2 hb.size)) hfit.out hnds.out (by have := hn8'.out; omega) ((hr.below (hb.mono hlw)).mono (Nat.le_trans hlw hb.size)) hlen2 (fun z hz => hsy.out z (List.mem_of_mem_drop hz))
              rw [hn.out]
              rw [hn.out] at this
              exact this
          have hJ : Hid (∀ A1 c1 A2 c2 Bk W', Below W1.heap.size W1 W' → RdL W' W'.heap.size A1 (tailL k ss (p.right.drop (d + 1))).length (tailL k ss (p.right.drop (d + 1))) → RdL W' W'.heap.size A2 (lset (fsb.getD jx [])).length (lset (fsb.getD jx [])) → W'.cell? ⟨Bk, 0, none⟩ = some (.int .i64 k) → Bk < W'.heap.size →
              Calls Tryz.prog 35 #[.map (some mb), .slice A1 (tailL k ss (p.right.drop (d + 1))).length c1, .slice A2 (lset (fsb.getD jx [])).length c2, .func (.func 75) #[] #[.pointer (some ⟨Bk, 0, none⟩)]] W' (RetJ W' mb (fsb.getD ix []) J)) :=
            Lib.hid fun A1 c1 A2 c2 Bk W' hb r1 r2 hc hBk => by
              rw [hJe.out]
              exact joined_any k A1 A2 _ _ c1 c2 _ _ _ mb Bk W' hk4 r1 r2 (fun x hx => (hTf.out x hx).1) (fun x hx => (hLf.out x hx).1) (fun x hx => (hTf.out x hx).2) (by have := hTl.out; omega) (by have := hLl.out; omega) (hm4w.out.step hb) hc hBk
          unfold RetJ at hJ
          rw [← hgb] at hJ
          have hdr2 : ints (p.right.drop (d + 1)) = (ints p.right).drop (d + 1) := by simp [ints]
          rw [← hdr2] at hrd
          replace hdr2 := Lib.hid hdr2
          replace hgb := Lib.hid hgb
          replace hg8 := Lib.hid hg8
          clear d0 d1 d2 d3 d4 d5 j2 j3 j8 j9 jx1 hAFw hMw q5w bXw q8 hm2w hn2w e0 c5 hx2 x0 x1 hk hk4
          generalize tailL k ss (p.right.drop (d + 1)) = T at *
          generalize lset (fsb.getD jx []) = L at *
          generalize fsb.getD ix [] = cur at *
          obtain ⟨e1, he1⟩ : ∃ e1 : Nat, e1 = d + 1 := ⟨_, rfl⟩
          rw [← he1] at hrd hT0
          have zw3 : IntKind.i64.wrap ((d : Int) + 1) = (e1 : Int) := by rw [he1]; exact IntWalk.i64_in _ (by omega)
          have hzd4 : (0 : Int) ≤ e1 := by omega
          have hzd5 : (e1 : Int) ≤ p.right.length := by omega
          have hzd6 : (e1 : Int) ≤ rc := by omega
          have hzd7 : p.right.length ≤ rc := hx3
          have hzd8 : e1 ≤ p.right.length := by omega
          have hzc : ¬ e1 = 0 := by omega
          have hzc2 : ¬ rc = 0 := by omega
          unfold maxLen at hx4
          replace he1 := Lib.hid he1
          by_cases hcap : rc = e1
          · rw [if_pos hcap] at hrd
            have hpl0 : p.right.length - e1 = 0 := by omega
            have hT : Hid (∀ W' sn sc, sn = 0 → Below W1.heap.size W1 W' → Calls Tryz.prog 36 #[.agg #[.int .i64 g.k, .slice ta g.toks.length tc, .string g.sep, .slice na i nc, .int .i64 g.start, .slice (some ⟨b, off, none⟩) g.prods.length pc], .slice (some ⟨bo, 0, none⟩) i i, .slice (some ⟨rb, roff, none⟩) sn sc] W' (RetL W' T)) :=
              Lib.hid fun W' sn sc h0 hb => by subst h0; rw [hpl0] at hrd; exact (hT0 _ _ sc hrd).out W' hb
            replace hrd := Lib.hid hrd
            replace hT0 := Lib.hid hT0
            replace hpl0 := Lib.hid hpl0
            subst hcap
            cases gb with
            | true =>
              refine wpIn_region_held_drewR (S := (fun w' => w'.cell? ⟨w.heap.size, 0, none⟩ = some (.int .i64 g.k) ∧ w'.cell? ⟨w.heap.size, 1, none⟩ = some (.slice ta g.toks.length tc) ∧ w'.cell? ⟨w.heap.size, 2, none⟩ = some (.string g.sep) ∧ w'.cell? ⟨w.heap.size, 3, none⟩ = some (.slice na i nc) ∧ w'.cell? ⟨w.heap.size, 4, none⟩ = some (.int .i64 g.start) ∧ w'.cell? ⟨w.heap.size, 5, none⟩ = some (.slice (some ⟨b, off, none⟩) g.prods.length pc) ∧
              w'.cell? ⟨w.heap.size + 1, 0, none⟩ = some (.slice (some ⟨fo, 0, none⟩) i i) ∧ w'.cell? ⟨w.heap.size + 1 + 1, 0, none⟩ = some (.slice (some ⟨bo, 0, none⟩) i i) ∧ w'.cell? ⟨g8, 0, none⟩ = some (.int .i64 p.left) ∧ w'.cell? ⟨g8, 1, none⟩ = some (.slice (some ⟨rb, roff, none⟩) p.right.length rc) ∧ w'.cell? ⟨Bx, 1, none⟩ = some (.int .i64 d) ∧
              w'.cell? ⟨fo, ix, none⟩ = some (.map (some mb)) ∧ w'.cell? ⟨fo, jx, none⟩ = some (.map (some mb2)) ∧ KX W1 mb b5 w')) (by kernel_rfl) (by kernel_rfl) (hAll.out _ (KX.refl _ _ _).drew) (fun hHeld => ?_)
              refine wpAnyH_take (i := 0) (oi := ⟨some 42, _, _, _, _, _⟩) (v := ?va1) rfl (by kernel_rfl) (by kernel_rfl) (by kernel_rfl) (fun _ _ _ h => by cases h.1) (Or.inl ⟨by rfl, ?hya1⟩) (by assumption) ?resta1
              case hya1 => (intro w hSw; (try dsimp only at hSw); go_simp <;> with_reducible rfl)
              try simp only [Act.put, List.setIfInBounds_toArray, List.set_cons_zero, List.set_cons_succ]
              refine wpAnyH_take (i := 1) (oi := ⟨some 43, _, _, _, _, _⟩) (v := ?va2) rfl (by kernel_rfl) (by kernel_rfl) (by kernel_rfl) (fun _ _ _ h => by cases h.1) (Or.inl ⟨by rfl, ?hya2⟩) (by assumption) ?resta2
              case hya2 => (intro w hSw; (try dsimp only at hSw); go_simp <;> with_reducible rfl)
              try simp only [Act.put, List.setIfInBounds_toArray, List.set_cons_zero, List.set_cons_succ]
              refine wpAnyH_take (i := 2) (oi := ⟨some 44, _, _, _, _, _⟩) (v := ?va3) rfl (by kernel_rfl) (by kernel_rfl) (by kernel_rfl) (fun _ _ _ h => by cases h.1) (Or.inl ⟨by rfl, ?hya3⟩) (by assumption) ?resta3
              case hya3 => (intro w hSw; (try dsimp only at hSw); go_simp <;> with_reducible rfl)
              try simp only [Act.put, List.setIfInBounds_toArray, List.set_cons_zero, List.set_cons_succ]
              refine wpAnyH_take (i := 3) (oi := ⟨some 45, _, _, _, _, _⟩) (v := ?va4) rfl (by kernel_rfl) (by kernel_rfl) (by kernel_rfl) (fun _ _ _ h => by cases h.1) (Or.inl ⟨by rfl, ?hya4⟩) (by assumption) ?resta4
              case hya4 => (intro w hSw; (try dsimp only at hSw); go_simp <;> with_reducible rfl)
              try simp only [Act.put, List.setIfInBounds_toArray, List.set_cons_zero, List.set_cons_succ]
              refine wpAnyH_take (i := 4) (oi := ⟨some 46, _, _, _, _, _⟩) (v := ?va5) rfl (by kernel_rfl) (by kernel_rfl) (by kernel_rfl) (fun _ _ _ h => by cases h.1) (Or.inl ⟨by rfl, ?hya5⟩) (by assumption) ?resta5
              case hya5 => (intro w hSw; (try dsimp only at hSw); go_simp <;> with_reducible rfl)
              try simp only [Act.put, List.setIfInBounds_toArray, List.set_cons_zero, List.set_cons_succ]
              refine wpAnyH_take (i := 5) (oi := ⟨some 47, _, _, _, _, _⟩) (v := ?va6) rfl (by kernel_rfl) (by kernel_rfl) (by kernel_rfl) (fun _ _ _ h => by cases h.1) (Or.inl ⟨by rfl, ?hya6⟩) (by assumption) ?resta6
              case hya6 => (intro w hSw; (try dsimp only at hSw); go_simp <;> with_reducible rfl)
              try simp only [Act.put, List.setIfInBounds_toArray, List.set_cons_zero, List.set_cons_succ]
              refine wpAnyH_take (i := 6) (oi := ⟨some 48, _, _, _, _, _⟩) (v := ?va7) rfl (by kernel_rfl) (by kernel_rfl) (by kernel_rfl) (fun _ _ _ h => by cases h.1) (Or.inl ⟨by rfl, ?hya7⟩) (by assumption) ?resta7
              case hya7 => (intro w hSw; (try dsimp only at hSw); go_simp <;> with_reducible rfl)
              try simp only [Act.put, List.setIfInBounds_toArray, List.set_cons_zero, List.set_cons_succ]
              refine wpAnyH_take (i := 7) (oi := ⟨some 49, _, _, _, _, _⟩) (v := ?va8) rfl (by kernel_rfl) (by kernel_rfl) (by kernel_rfl) (fun _ _ _ h => by cases h.1) (Or.inl ⟨by rfl, ?hya8⟩) (by assumption) ?resta8
              case hya8 => (intro w hSw; (try dsimp only at hSw); go_simp <;> with_reducible rfl)
              try simp only [Act.put, List.setIfInBounds_toArray, List.set_cons_zero, List.set_cons_succ]
              refine wpAnyH_take (i := 8) (oi := ⟨some 50, _, _, _, _, _⟩) (v := ?va9) rfl (by kernel_rfl) (by kernel_rfl) (by kernel_rfl) (fun _ _ _ h => by cases h.1) (Or.inl ⟨by rfl, ?hya9⟩) (by assumption) ?resta9
              case hya9 => (intro w hSw; (try dsimp only at hSw); go_simp <;> with_reducible rfl)
              try simp only [Act.put, List.setIfInBounds_toArray, List.set_cons_zero, List.set_cons_succ]
              refine wpAnyH_take (i := 9) (oi := ⟨some 51, _, _, _, _, _⟩) (v := ?va10) rfl (by kernel_rfl) (by kernel_rfl) (by kernel_rfl) (fun _ _ _ h => by cases h.1) (Or.inl ⟨by rfl, ?hya10⟩) (by assumption) ?resta10
              case hya10 => (intro w hSw; (try dsimp only at hSw); go_simp <;> with_reducible rfl)
              try simp only [Act.put, List.setIfInBounds_toArray, List.set_cons_zero, List.set_cons_succ]
              refine wpAnyH_take (i := 10) (oi := ⟨some 52, _, _, _, _, _⟩) (v := ?va11) rfl (by kernel_rfl) (by kernel_rfl) (by kernel_rfl) (fun _ _ _ h => by cases h.1) (Or.inl ⟨by rfl, ?hya11⟩) (by assumption) ?resta11
              case hya11 => (intro w hSw; (try dsimp only at hSw); go_simp <;> with_reducible rfl)
              try simp only [Act.put, List.setIfInBounds_toArray, List.set_cons_zero, List.set_cons_succ]
              refine wpAnyH_take (i := 11) (oi := ⟨some 53, _, _, _, _, _⟩) (v := ?va12) rfl (by kernel_rfl) (by kernel_rfl) (by kernel_rfl) (fun _ _ _ h => by cases h.1) (Or.inl ⟨by rfl, ?hya12⟩) (by assumption) ?resta12
              case hya12 => (intro w hSw; (try dsimp only at hSw); go_simp <;> with_reducible rfl)
              try simp only [Act.put, List.setIfInBounds_toArray, List.set_cons_zero, List.set_cons_succ]
              refine wpAnyH_take (i := 12) (oi := ⟨some 54, _, _, _, _, _⟩) (v := ?va13) rfl (by kernel_rfl) (by kernel_rfl) (by kernel_rfl) (fun _ _ _ h => by cases h.1) (Or.inl ⟨by rfl, ?hya13⟩) (by assumption) ?resta13
              case hya13 => (intro w hSw; (try dsimp only at hSw); go_simp <;> with_reducible rfl)
              try simp only [Act.put, List.setIfInBounds_toArray, List.set_cons_zero, List.set_cons_succ]
              refine wpAnyH_take (i := 14) (oi := ⟨some 56, _, _, _, _, _⟩) (v := ?va14) rfl (by kernel_rfl) (by kernel_rfl) (by kernel_rfl) (fun _ _ _ h => by cases h.1) (Or.inl ⟨by rfl, ?hya14⟩) (by assumption) ?resta14
              case hya14 => (intro w hSw; (try dsimp only at hSw); go_simp <;> with_reducible rfl)
              try simp only [Act.put, List.setIfInBounds_toArray, List.set_cons_zero, List.set_cons_succ]
              refine wpAnyH_take (i := 15) (oi := ⟨some 57, _, _, _, _, _⟩) (v := ?va15) rfl (by kernel_rfl) (by kernel_rfl) (by kernel_rfl) (fun _ _ _ h => by cases h.1) (Or.inl ⟨by rfl, ?hya15⟩) (by assumption) ?resta15
              case hya15 => (intro w hSw; (try dsimp only at hSw); go_simp <;> with_reducible rfl)
              try simp only [Act.put, List.setIfInBounds_toArray, List.set_cons_zero, List.set_cons_succ]
              refine wpAnyH_take (i := 16) (oi := ⟨some 58, _, _, _, _, _⟩) (v := ?va16) rfl (by kernel_rfl) (by kernel_rfl) (by kernel_rfl) (fun _ _ _ h => by cases h.1) (Or.inl ⟨by rfl, ?hya16⟩) (by assumption) ?resta16
              case hya16 => (intro w hSw; (try dsimp only at hSw); go_simp <;> with_reducible rfl)
              try simp only [Act.put, List.setIfInBounds_toArray, List.set_cons_zero, List.set_cons_succ]
              refine wpAnyH_take (i := 17) (oi := ⟨some 59, _, _, _, _, _⟩) (v := ?va17) rfl (by kernel_rfl) (by kernel_rfl) (by kernel_rfl) (fun _ _ _ h => by cases h.1) (Or.inl ⟨by rfl, ?hya17⟩) (by assumption) ?resta17
              case hya17 => (intro w hSw; (try dsimp only at hSw); go_simp <;> with_reducible rfl)
              try simp only [Act.put, List.setIfInBounds_toArray, List.set_cons_zero, List.set_cons_succ]
              refine wpAnyH_take (i := 18) (oi := ⟨some 60, _, _, _, _, _⟩) (v := ?va18) rfl (by kernel_rfl) (by kernel_rfl) (by kernel_rfl) (fun _ _ _ h => by cases h.1) (Or.inl ⟨by rfl, ?hya18⟩) (by assumption) ?resta18
              case hya18 => (intro w hSw; (try dsimp only at hSw); go_simp <;> with_reducible rfl)
              try simp only [Act.put, List.setIfInBounds_toArray, List.set_cons_zero, List.set_cons_succ]
              refine wpAnyH_take (i := 19) (oi := ⟨some 61, _, _, _, _, _⟩) (v := ?va19) rfl (by kernel_rfl) (by kernel_rfl) (by kernel_rfl) (fun _ _ _ h => by cases h.1) (Or.inl ⟨by rfl, ?hya19⟩) (by assumption) ?resta19
              case hya19 => (intro w hSw; (try dsimp only at hSw); go_simp <;> with_reducible rfl)
              try simp only [Act.put, List.setIfInBounds_toArray, List.set_cons_zero, List.set_cons_succ]
              refine wpAnyH_take (i := 21) (oi := ⟨some 63, _, _, _, _, _⟩) (v := ?va20) rfl (by kernel_rfl) (by kernel_rfl) (by kernel_rfl) (fun _ _ _ h => by cases h.1) (Or.inl ⟨by rfl, ?hya20⟩) (by assumption) ?resta20
              case hya20 => (intro w hSw; (try dsimp only at hSw); go_simp <;> with_reducible rfl)
              try simp only [Act.put, List.setIfInBounds_toArray, List.set_cons_zero, List.set_cons_succ]
              refine wpAnyH_take (i := 22) (oi := ⟨some 64, _, _, _, _, _⟩) (v := ?va21) rfl (by kernel_rfl) (by kernel_rfl) (by kernel_rfl) (fun _ _ _ h => by cases h.1) (Or.inl ⟨by rfl, ?hya21⟩) (by assumption) ?resta21
              case hya21 => (intro w hSw; (try dsimp only at hSw); go_simp <;> with_reducible rfl)
              try simp only [Act.put, List.setIfInBounds_toArray, List.set_cons_zero, List.set_cons_succ]
              refine wpAnyH_ready (rs := [13]) (by kernel_rfl) (by simp) ?_
              refine AllReadyH.cons (o := ⟨some 55, _, _, _, _, _⟩) rfl (fun K hK => ?_) ?_
              · go_simp
                go_at_call 36
                refine (hT.out _ _ _ (by omega) (by repeat (first | assumption | exact Below.refl _ _ | (refine bStep ?_ (by assumption)) | (with_reducible refine bAlc ?_ _) | (with_reducible refine bDrw ?_)))).mono ?_
                rintro e w1 ⟨v1, rfl, ho1, hb1⟩
                obtain ⟨A1, k1, rfl, hd1, hk1, hmm1, hg1⟩ := ho1.reads
                go_wp2_with fail
                refine hK.out _ _ ?_ (fun hHeld => ?_)
                · (refine hAll.out _ ?_; repeat (first | exact KX.refl _ _ _ | (refine KX.grown ?_ (by assumption)) | (refine KX.step ?_ (by assumption)) | (with_reducible refine KX.alloc ?_ _) | (with_reducible refine KX.drew ?_) | (with_reducible refine KX.put ?_ _ _)))
                clear hK K
                try simp only [Act.put, List.setIfInBounds_toArray, List.set_cons_zero, List.set_cons_succ]
                refine wpAnyH_ready (rs := [20]) (by kernel_rfl) (by simp) ?_
                refine AllReadyH.cons (o := ⟨some 62, _, _, _, _, _⟩) rfl (fun K hK => ?_) ?_
                · go_simp
                  go_at_call 37
                  refine (hSo.out _ (by repeat (first | assumption | exact Below.refl _ _ | (refine bStep ?_ (by assumption)) | (with_reducible refine bAlc ?_ _) | (with_reducible refine bDrw ?_)))).mono ?_
                  rintro e w2 ⟨v2, rfl, ho2, hb2⟩
                  obtain ⟨A2, k2, rfl, hd2, hk2, hmm2, hg2⟩ := ho2.reads
                  go_wp2_with fail
                  refine hK.out _ _ ?_ (fun hHeld => ?_)
                  · (refine hAll.out _ ?_; repeat (first | exact KX.refl _ _ _ | (refine KX.grown ?_ (by assumption)) | (refine KX.step ?_ (by assumption)) | (with_reducible refine KX.alloc ?_ _) | (with_reducible refine KX.drew ?_) | (with_reducible refine KX.put ?_ _ _)))
                  clear hK K
                  try simp only [Act.put, List.setIfInBounds_toArray, List.set_cons_zero, List.set_cons_succ]
                  refine wpAnyH_ready (rs := [23]) (by kernel_rfl) (by simp) ?_
                  refine AllReadyH.cons (o := ⟨some 65, _, _, _, _, _⟩) rfl (fun K hK => ?_) ?_
                  · go_simp
                    go_at_call 38
                    refine (hPl.out _).mono ?_
                    rintro e w3 ⟨Bk, rfl, p1, p2, p3, p4⟩
                    go_wp2_with fail
                    refine hK.out _ _ ?_ (fun hHeld => ?_)
                    · (refine hAll.out _ ?_; repeat (first | exact KX.refl _ _ _ | (refine KX.grown ?_ (by assumption)) | (refine KX.step ?_ (by assumption)) | (with_reducible refine KX.alloc ?_ _) | (with_reducible refine KX.drew ?_) | (with_reducible refine KX.put ?_ _ _)))
                    clear hK K
                    try simp only [Act.put, List.setIfInBounds_toArray, List.set_cons_zero, List.set_cons_succ]
                    refine wpAnyH_ready (rs := [24]) (by kernel_rfl) (by simp) ?_
                    refine AllReadyH.cons (o := ⟨some 66, _, _, _, _, _⟩) rfl (fun K hK => ?_) ?_
                    · go_simp
                      go_at_call 35
                      refine (hJ.out A1 k1 A2 k2 Bk _ (by repeat (first | assumption | exact Below.refl _ _ | (refine bStep ?_ (by assumption)) | (with_reducible refine bAlc ?_ _) | (with_reducible refine bDrw ?_))) (rdl_to hd1 (by repeat (first | assumption | exact Below.refl _ _ | (refine bStep ?_ (by assumption)) | (with_reducible refine bAlc ?_ _) | (with_reducible refine bDrw ?_)))) (rdl_to hd2 (by repeat (first | assumption | exact Below.refl _ _ | (refine bStep ?_ (by assumption)) | (with_reducible refine bAlc ?_ _) | (with_reducible refine bDrw ?_)))) (cell_later (by repeat (first | assumption | exact Below.refl _ _ | (refine bStep ?_ (by assumption)) | (with_reducible refine bAlc ?_ _) | (with_reducible refine bDrw ?_))) p1) (bk_lt p3 (by repeat (first | assumption | exact Below.refl _ _ | (refine bStep ?_ (by assumption)) | (with_reducible refine bAlc ?_ _) | (with_reducible refine bDrw ?_))))).mono ?_
                      rintro e w4 ⟨rfl, hM4, hg4⟩
                      obtain ⟨z5, y5, f5⟩ := hq5.out _ _ (by repeat (first | assumption | exact Below.refl _ _ | (refine bStep ?_ (by assumption)) | (with_reducible refine bAlc ?_ _) | (with_reducible refine bDrw ?_))) hg4
                      go_wp2_with fail
                      refine hK.out _ _ ?_ (fun hHeld => ?_)
                      · (refine hAll.out _ ?_; repeat (first | exact KX.refl _ _ _ | (refine KX.grown ?_ (by assumption)) | (refine KX.step ?_ (by assumption)) | (with_reducible refine KX.alloc ?_ _) | (with_reducible refine KX.drew ?_) | (with_reducible refine KX.put ?_ _ _)))
                      clear hK K
                      try simp only [Act.put, List.setIfInBounds_toArray, List.set_cons_zero, List.set_cons_succ]
                      refine wpAnyH_take (i := 25) (oi := ⟨some 67, _, _, _, _, _⟩) (v := ?va22) rfl (by kernel_rfl) (by kernel_rfl) (by kernel_rfl) (fun _ _ _ h => by cases h.1) (Or.inl ⟨by rfl, ?hya22⟩) (by assumption) ?resta22
                      case hya22 => (intro w hSw; (try dsimp only at hSw); go_simp <;> with_reducible rfl)
                      try simp only [Act.put, List.setIfInBounds_toArray, List.set_cons_zero, List.set_cons_succ]
                      refine wpAnyH_take (i := 26) (oi := ⟨some 68, _, _, _, _, _⟩) (v := undef) rfl (by kernel_rfl) (by kernel_rfl) (by kernel_rfl) (fun _ _ _ h => by cases h.1) (Or.inr ⟨by rfl, rfl⟩) (by assumption) ?_
                      try simp only [Act.put, List.setIfInBounds_toArray, List.set_cons_zero, List.set_cons_succ]
                      refine wpAnyH_take (i := 27) (oi := ⟨some 69, _, _, _, _, _⟩) (v := ?va24) rfl (by kernel_rfl) (by kernel_rfl) (by kernel_rfl) (fun _ _ _ h => by cases h.1) (Or.inl ⟨by rfl, ?hya24⟩) (by assumption) ?resta24
                      case hya24 => (intro w hSw; (try dsimp only at hSw); go_simp <;> with_reducible rfl)
                      try simp only [Act.put, List.setIfInBounds_toArray, List.set_cons_zero, List.set_cons_succ]
                      refine wpAnyH_ready (rs := [28]) (by kernel_rfl) (by simp) ?_
                      refine AllReadyH.cons (o := ⟨none, _, _, _, _, _⟩) rfl (fun K hK => ?_) ?_
                      · go_simp
                        refine hK.out _ _ ?_ (fun hHeld => ?_)
                        · (refine hAll.out _ ?_; repeat (first | exact KX.refl _ _ _ | (refine KX.grown ?_ (by assumption)) | (refine KX.step ?_ (by assumption)) | (with_reducible refine KX.alloc ?_ _) | (with_reducible refine KX.drew ?_) | (with_reducible refine KX.put ?_ _ _)))
                        clear hK K
                        try simp only [Act.put, List.setIfInBounds_toArray, List.set_cons_zero, List.set_cons_succ]
                        refine wpAnyH_done (by kernel_rfl) ?_ _
                        refine ⟨rfl, ?_⟩
                        gi_wp2
                        exact hFin.out _ (by repeat (first | exact KX.refl _ _ _ | (refine KX.grown ?_ (by assumption)) | (refine KX.step ?_ (by assumption)) | (with_reducible refine KX.alloc ?_ _) | (with_reducible refine KX.drew ?_) | (with_reducible refine KX.put ?_ _ _))) (hM4.grown (grownBy_setC _ _ _ _) hmb9.out) (z5.put 0 _)
                      exact AllReadyH.nil
                    exact AllReadyH.nil
                  exact AllReadyH.nil
                exact AllReadyH.nil
              exact AllReadyH.nil
            | false =>
              refine wpIn_region_held_drewR (S := (fun w' => w'.cell? ⟨w.heap.size, 0, none⟩ = some (.int .i64 g.k) ∧ w'.cell? ⟨w.heap.size, 1, none⟩ = some (.slice ta g.toks.length tc) ∧ w'.cell? ⟨w.heap.size, 2, none⟩ = some (.string g.sep) ∧ w'.cell? ⟨w.heap.size, 3, none⟩ = some (.slice na i nc) ∧ w'.cell? ⟨w.heap.size, 4, none⟩ = some (.int .i64 g.start) ∧ w'.cell? ⟨w.heap.size, 5, none⟩ = some (.slice (some ⟨b, off, none⟩) g.prods.length pc) ∧
              w'.cell? ⟨w.heap.size + 1, 0, none⟩ = some (.slice (some ⟨fo, 0, none⟩) i i) ∧ w'.cell? ⟨w.heap.size + 1 + 1, 0, none⟩ = some (.slice (some ⟨bo, 0, none⟩) i i) ∧ w'.cell? ⟨g8, 0, none⟩ = some (.int .i64 p.left) ∧ w'.cell? ⟨g8, 1, none⟩ = some (.slice (some ⟨rb, roff, none⟩) p.right.length rc) ∧ w'.cell? ⟨Bx, 1, none⟩ = some (.int .i64 d) ∧
              w'.cell? ⟨fo, ix, none⟩ = some (.map (some mb)) ∧ w'.cell? ⟨fo, jx, none⟩ = some (.map (some mb2)) ∧ KX W1 mb b5 w')) (by kernel_rfl) (by kernel_rfl) (hAll.out _ (KX.refl _ _ _).drew) (fun hHeld => ?_)
              refine wpAnyH_take (i := 0) (oi := ⟨some 42, _, _, _, _, _⟩) (v := ?vb1) rfl (by kernel_rfl) (by kernel_rfl) (by kernel_rfl) (fun _ _ _ h => by cases h.1) (Or.inl ⟨by rfl, ?hyb1⟩) (by assumption) ?restb1
              case hyb1 => (intro w hSw; (try dsimp only at hSw); go_simp <;> with_reducible rfl)
              try simp only [Act.put, List.setIfInBounds_toArray, List.set_cons_zero, List.set_cons_succ]
              refine wpAnyH_take (i := 1) (oi := ⟨some 43, _, _, _, _, _⟩) (v := ?vb2) rfl (by kernel_rfl) (by kernel_rfl) (by kernel_rfl) (fun _ _ _ h => by cases h.1) (Or.inl ⟨by rfl, ?hyb2⟩) (by assumption) ?restb2
              case hyb2 => (intro w hSw; (try dsimp only at hSw); go_simp <;> with_reducible rfl)
              try simp only [Act.put, List.setIfInBounds_toArray, List.set_cons_zero, List.set_cons_succ]
              refine wpAnyH_take (i := 2) (oi := ⟨some 44, _, _, _, _, _⟩) (v := ?vb3) rfl (by kernel_rfl) (by kernel_rfl) (by kernel_rfl) (fun _ _ _ h => by cases h.1) (Or.inl ⟨by rfl, ?hyb3⟩) (by assumption) ?restb3
              case hyb3 => (intro w hSw; (try dsimp only at hSw); go_simp <;> with_reducible rfl)
              try simp only [Act.put, List.setIfInBounds_toArray, List.set_cons_zero, List.set_cons_succ]
              refine wpAnyH_take (i := 3) (oi := ⟨some 45, _, _, _, _, _⟩) (v := ?vb4) rfl (by kernel_rfl) (by kernel_rfl) (by kernel_rfl) (fun _ _ _ h => by cases h.1) (Or.inl ⟨by rfl, ?hyb4⟩) (by assumption) ?restb4
              case hyb4 => (intro w hSw; (try dsimp only at hSw); go_simp <;> with_reducible rfl)
              try simp only [Act.put, List.setIfInBounds_toArray, List.set_cons_zero, List.set_cons_succ]
              refine wpAnyH_take (i := 4) (oi := ⟨some 46, _, _, _, _, _⟩) (v := ?vb5) rfl (by kernel_rfl) (by kernel_rfl) (by kernel_rfl) (fun _ _ _ h => by cases h.1) (Or.inl ⟨by rfl, ?hyb5⟩) (by assumption) ?restb5
              case hyb5 => (intro w hSw; (try dsimp only at hSw); go_simp <;> with_reducible rfl)
              try simp only [Act.put, List.setIfInBounds_toArray, List.set_cons_zero, List.set_cons_succ]
              refine wpAnyH_take (i := 5) (oi := ⟨some 47, _, _, _, _, _⟩) (v := ?vb6) rfl (by kernel_rfl) (by kernel_rfl) (by kernel_rfl) (fun _ _ _ h => by cases h.1) (Or.inl ⟨by rfl, ?hyb6⟩) (by assumption) ?restb6
              case hyb6 => (intro w hSw; (try dsimp only at hSw); go_simp <;> with_reducible rfl)
              try simp only [Act.put, List.setIfInBounds_toArray, List.set_cons_zero, List.set_cons_succ]
              refine wpAnyH_take (i := 6) (oi := ⟨some 48, _, _, _, _, _⟩) (v := ?vb7) rfl (by kernel_rfl) (by kernel_rfl) (by kernel_rfl) (fun _ _ _ h => by cases h.1) (Or.inl ⟨by rfl, ?hyb7⟩) (by assumption) ?restb7
              case hyb7 => (intro w hSw; (try dsimp only at hSw); go_simp <;> with_reducible rfl)
              try simp only [Act.put, List.setIfInBounds_toArray, List.set_cons_zero, List.set_cons_succ]
              refine wpAnyH_take (i := 7) (oi := ⟨some 49, _, _, _, _, _⟩) (v := ?vb8) rfl (by kernel_rfl) (by kernel_rfl) (by kernel_rfl) (fun _ _ _ h => by cases h.1) (Or.inl ⟨by rfl, ?hyb8⟩) (by assumption) ?restb8
              case hyb8 => (intro w hSw; (try dsimp only at hSw); go_simp <;> with_reducible rfl)
              try simp only [Act.put, List.setIfInBounds_toArray, List.set_cons_zero, List.set_cons_succ]
              refine wpAnyH_take (i := 8) (oi := ⟨some 50, _, _, _, _, _⟩) (v := ?vb9) rfl (by kernel_rfl) (by kernel_rfl) (by kernel_rfl) (fun _ _ _ h => by cases h.1) (Or.inl ⟨by rfl, ?hyb9⟩) (by assumption) ?restb9
              case hyb9 => (intro w hSw; (try dsimp only at hSw); go_simp <;> with_reducible rfl)
              try simp only [Act.put, List.setIfInBounds_toArray, List.set_cons_zero, List.set_cons_succ]
              refine wpAnyH_take (i := 9) (oi := ⟨some 51, _, _, _, _, _⟩) (v := ?vb10) rfl (by kernel_rfl) (by kernel_rfl) (by kernel_rfl) (fun _ _ _ h => by cases h.1) (Or.inl ⟨by rfl, ?hyb10⟩) (by assumption) ?restb10
              case hyb10 => (intro w hSw; (try dsimp only at hSw); go_simp <;> with_reducible rfl)
              try simp only [Act.put, List.setIfInBounds_toArray, List.set_cons_zero, List.set_cons_succ]
              refine wpAnyH_take (i := 10) (oi := ⟨some 52, _, _, _, _, _⟩) (v := ?vb11) rfl (by kernel_rfl) (by kernel_rfl) (by kernel_rfl) (fun _ _ _ h => by cases h.1) (Or.inl ⟨by rfl, ?hyb11⟩) (by assumption) ?restb11
              case hyb11 => (intro w hSw; (try dsimp only at hSw); go_simp <;> with_reducible rfl)
              try simp only [Act.put, List.setIfInBounds_toArray, List.set_cons_zero, List.set_cons_succ]
              refine wpAnyH_take (i := 11) (oi := ⟨some 53, _, _, _, _, _⟩) (v := ?vb12) rfl (by kernel_rfl) (by kernel_rfl) (by kernel_rfl) (fun _ _ _ h => by cases h.1) (Or.inl ⟨by rfl, ?hyb12⟩) (by assumption) ?restb12
              case hyb12 => (intro w hSw; (try dsimp only at hSw); go_simp <;> with_reducible rfl)
              try simp only [Act.put, List.setIfInBounds_toArray, List.set_cons_zero, List.set_cons_succ]
              refine wpAnyH_take (i := 12) (oi := ⟨some 54, _, _, _, _, _⟩) (v := ?vb13) rfl (by kernel_rfl) (by kernel_rfl) (by kernel_rfl) (fun _ _ _ h => by cases h.1) (Or.inl ⟨by rfl, ?hyb13⟩) (by assumption) ?restb13
              case hyb13 => (intro w hSw; (try dsimp only at hSw); go_simp <;> with_reducible rfl)
              try simp only [Act.put, List.setIfInBounds_toArray, List.set_cons_zero, List.set_cons_succ]
              refine wpAnyH_take (i := 14) (oi := ⟨some 56, _, _, _, _, _⟩) (v := ?vb14) rfl (by kernel_rfl) (by kernel_rfl) (by kernel_rfl) (fun _ _ _ h => by cases h.1) (Or.inl ⟨by rfl, ?hyb14⟩) (by assumption) ?restb14
              case hyb14 => (intro w hSw; (try dsimp only at hSw); go_simp <;> with_reducible rfl)
              try simp only [Act.put, List.setIfInBounds_toArray, List.set_cons_zero, List.set_cons_succ]
              refine wpAnyH_take (i := 15) (oi := ⟨some 57, _, _, _, _, _⟩) (v := ?vb15) rfl (by kernel_rfl) (by kernel_rfl) (by kernel_rfl) (fun _ _ _ h => by cases h.1) (Or.inl ⟨by rfl, ?hyb15⟩) (by assumption) ?restb15
              case hyb15 => (intro w hSw; (try dsimp only at hSw); go_simp <;> with_reducible rfl)
              try simp only [Act.put, List.setIfInBounds_toArray, List.set_cons_zero, List.set_cons_succ]
              refine wpAnyH_take (i := 16) (oi := ⟨some 58, _, _, _, _, _⟩) (v := ?vb16) rfl (by kernel_rfl) (by kernel_rfl) (by kernel_rfl) (fun _ _ _ h => by cases h.1) (Or.inl ⟨by rfl, ?hyb16⟩) (by assumption) ?restb16
              case hyb16 => (intro w hSw; (try dsimp only at hSw); go_simp <;> with_reducible rfl)
              try simp only [Act.put, List.setIfInBounds_toArray, List.set_cons_zero, List.set_cons_succ]
              refine wpAnyH_take (i := 17) (oi := ⟨some 59, _, _, _, _, _⟩) (v := ?vb17) rfl (by kernel_rfl) (by kernel_rfl) (by kernel_rfl) (fun _ _ _ h => by cases h.1) (Or.inl ⟨by rfl, ?hyb17⟩) (by assumption) ?restb17
              case hyb17 => (intro w hSw; (try dsimp only at hSw); go_simp <;> with_reducible rfl)
              try simp only [Act.put, List.setIfInBounds_toArray, List.set_cons_zero, List.set_cons_succ]
              refine wpAnyH_take (i := 18) (oi := ⟨some 60, _, _, _, _, _⟩) (v := ?vb18) rfl (by kernel_rfl) (by kernel_rfl) (by kernel_rfl) (fun _ _ _ h => by cases h.1) (Or.inl ⟨by rfl, ?hyb18⟩) (by assumption) ?restb18
              case hyb18 => (intro w hSw; (try dsimp only at hSw); go_simp <;> with_reducible rfl)
              try simp only [Act.put, List.setIfInBounds_toArray, List.set_cons_zero, List.set_cons_succ]
              refine wpAnyH_take (i := 19) (oi := ⟨some 61, _, _, _, _, _⟩) (v := ?vb19) rfl (by kernel_rfl) (by kernel_rfl) (by kernel_rfl) (fun _ _ _ h => by cases h.1) (Or.inl ⟨by rfl, ?hyb19⟩) (by assumption) ?restb19
              case hyb19 => (intro w hSw; (try dsimp only at hSw); go_simp <;> with_reducible rfl)
              try simp only [Act.put, List.setIfInBounds_toArray, List.set_cons_zero, List.set_cons_succ]
              refine wpAnyH_take (i := 21) (oi := ⟨some 63, _, _, _, _, _⟩) (v := ?vb20) rfl (by kernel_rfl) (by kernel_rfl) (by kernel_rfl) (fun _ _ _ h => by cases h.1) (Or.inl ⟨by rfl, ?hyb20⟩) (by assumption) ?restb20
              case hyb20 => (intro w hSw; (try dsimp only at hSw); go_simp <;> with_reducible rfl)
              try simp only [Act.put, List.setIfInBounds_toArray, List.set_cons_zero, List.set_cons_succ]
              refine wpAnyH_take (i := 22) (oi := ⟨some 64, _, _, _, _, _⟩) (v := ?vb21) rfl (by kernel_rfl) (by kernel_rfl) (by kernel_rfl) (fun _ _ _ h => by cases h.1) (Or.inl ⟨by rfl, ?hyb21⟩) (by assumption) ?restb21
              case hyb21 => (intro w hSw; (try dsimp only at hSw); go_simp <;> with_reducible rfl)
              try simp only [Act.put, List.setIfInBounds_toArray, List.set_cons_zero, List.set_cons_succ]
              refine wpAnyH_ready (rs := [13]) (by kernel_rfl) (by simp) ?_
              refine AllReadyH.cons (o := ⟨some 55, _, _, _, _, _⟩) rfl (fun K hK => ?_) ?_
              · go_simp
                go_at_call 36
                refine (hT.out _ _ _ (by omega) (by repeat (first | assumption | exact Below.refl _ _ | (refine bStep ?_ (by assumption)) | (with_reducible refine bAlc ?_ _) | (with_reducible refine bDrw ?_)))).mono ?_
                rintro e w1 ⟨v1, rfl, ho1, hb1⟩
                obtain ⟨A1, k1, rfl, hd1, hk1, hmm1, hg1⟩ := ho1.reads
                go_wp2_with fail
                refine hK.out _ _ ?_ (fun hHeld => ?_)
                · (refine hAll.out _ ?_; repeat (first | exact KX.refl _ _ _ | (refine KX.grown ?_ (by assumption)) | (refine KX.step ?_ (by assumption)) | (with_reducible refine KX.alloc ?_ _) | (with_reducible refine KX.drew ?_) | (with_reducible refine KX.put ?_ _ _)))
                clear hK K
                try simp only [Act.put, List.setIfInBounds_toArray, List.set_cons_zero, List.set_cons_succ]
                refine wpAnyH_ready (rs := [20]) (by kernel_rfl) (by simp) ?_
                refine AllReadyH.cons (o := ⟨some 62, _, _, _, _, _⟩) rfl (fun K hK => ?_) ?_
                · go_simp
                  go_at_call 37
                  refine (hSo.out _ (by repeat (first | assumption | exact Below.refl _ _ | (refine bStep ?_ (by assumption)) | (with_reducible refine bAlc ?_ _) | (with_reducible refine bDrw ?_)))).mono ?_
                  rintro e w2 ⟨v2, rfl, ho2, hb2⟩
                  obtain ⟨A2, k2, rfl, hd2, hk2, hmm2, hg2⟩ := ho2.reads
                  go_wp2_with fail
                  refine hK.out _ _ ?_ (fun hHeld => ?_)
                  · (refine hAll.out _ ?_; repeat (first | exact KX.refl _ _ _ | (refine KX.grown ?_ (by assumption)) | (refine KX.step ?_ (by assumption)) | (with_reducible refine KX.alloc ?_ _) | (with_reducible refine KX.drew ?_) | (with_reducible refine KX.put ?_ _ _)))
                  clear hK K
                  try simp only [Act.put, List.setIfInBounds_toArray, List.set_cons_zero, List.set_cons_succ]
                  refine wpAnyH_ready (rs := [23]) (by kernel_rfl) (by simp) ?_
                  refine AllReadyH.cons (o := ⟨some 65, _, _, _, _, _⟩) rfl (fun K hK => ?_) ?_
                  · go_simp
                    go_at_call 38
                    refine (hPl.out _).mono ?_
                    rintro e w3 ⟨Bk, rfl, p1, p2, p3, p4⟩
                    go_wp2_with fail
                    refine hK.out _ _ ?_ (fun hHeld => ?_)
                    · (refine hAll.out _ ?_; repeat (first | exact KX.refl _ _ _ | (refine KX.grown ?_ (by assumption)) | (refine KX.step ?_ (by assumption)) | (with_reducible refine KX.alloc ?_ _) | (with_reducible refine KX.drew ?_) | (with_reducible refine KX.put ?_ _ _)))
                    clear hK K
                    try simp only [Act.put, List.setIfInBounds_toArray, List.set_cons_zero, List.set_cons_succ]
                    refine wpAnyH_ready (rs := [24]) (by kernel_rfl) (by simp) ?_
                    refine AllReadyH.cons (o := ⟨some 66, _, _, _, _, _⟩) rfl (fun K hK => ?_) ?_
                    · go_simp
                      go_at_call 35
                      refine (hJ.out A1 k1 A2 k2 Bk _ (by repeat (first | assumption | exact Below.refl _ _ | (refine bStep ?_ (by assumption)) | (with_reducible refine bAlc ?_ _) | (with_reducible refine bDrw ?_))) (rdl_to hd1 (by repeat (first | assumption | exact Below.refl _ _ | (refine bStep ?_ (by assumption)) | (with_reducible refine bAlc ?_ _) | (with_reducible refine bDrw ?_)))) (rdl_to hd2 (by repeat (first | assumption | exact Below.refl _ _ | (refine bStep ?_ (by assumption)) | (with_reducible refine bAlc ?_ _) | (with_reducible refine bDrw ?_)))) (cell_later (by repeat (first | assumption | exact Below.refl _ _ | (refine bStep ?_ (by assumption)) | (with_reducible refine bAlc ?_ _) | (with_reducible refine bDrw ?_))) p1) (bk_lt p3 (by repeat (first | assumption | exact Below.refl _ _ | (refine bStep ?_ (by assumption)) | (with_reducible refine bAlc ?_ _) | (with_reducible refine bDrw ?_))))).mono ?_
                      rintro e w4 ⟨rfl, hM4, hg4⟩
                      obtain ⟨z5, y5, f5⟩ := hq5.out _ _ (by repeat (first | assumption | exact Below.refl _ _ | (refine bStep ?_ (by assumption)) | (with_reducible refine bAlc ?_ _) | (with_reducible refine bDrw ?_))) hg4
                      go_wp2_with fail
                      refine hK.out _ _ ?_ (fun hHeld => ?_)
                      · (refine hAll.out _ ?_; repeat (first | exact KX.refl _ _ _ | (refine KX.grown ?_ (by assumption)) | (refine KX.step ?_ (by assumption)) | (with_reducible refine KX.alloc ?_ _) | (with_reducible refine KX.drew ?_) | (with_reducible refine KX.put ?_ _ _)))
                      clear hK K
                      try simp only [Act.put, List.setIfInBounds_toArray, List.set_cons_zero, List.set_cons_succ]
                      refine wpAnyH_take (i := 25) (oi := ⟨some 67, _, _, _, _, _⟩) (v := ?vb22) rfl (by kernel_rfl) (by kernel_rfl) (by kernel_rfl) (fun _ _ _ h => by cases h.1) (Or.inl ⟨by rfl, ?hyb22⟩) (by assumption) ?restb22
                      case hyb22 => (intro w hSw; (try dsimp only at hSw); go_simp <;> with_reducible rfl)
                      try simp only [Act.put, List.setIfInBounds_toArray, List.set_cons_zero, List.set_cons_succ]
                      refine wpAnyH_ready (rs := [26]) (by kernel_rfl) (by simp) ?_
                      refine AllReadyH.cons (o := ⟨some 68, _, _, _, _, _⟩) rfl (fun K hK => ?_) ?_
                      · go_simp
                        refine hK.out _ _ ?_ (fun hHeld => ?_)
                        · (refine hAll.out _ ?_; repeat (first | exact KX.refl _ _ _ | (refine KX.grown ?_ (by assumption)) | (refine KX.step ?_ (by assumption)) | (with_reducible refine KX.alloc ?_ _) | (with_reducible refine KX.drew ?_) | (with_reducible refine KX.put ?_ _ _)))
                        clear hK K
                        try simp only [Act.put, List.setIfInBounds_toArray, List.set_cons_zero, List.set_cons_succ]
                        refine wpAnyH_take (i := 27) (oi := ⟨some 69, _, _, _, _, _⟩) (v := ?vb23) rfl (by kernel_rfl) (by kernel_rfl) (by kernel_rfl) (fun _ _ _ h => by cases h.1) (Or.inl ⟨by rfl, ?hyb23⟩) (by assumption) ?restb23
                        case hyb23 => (intro w hSw; (try dsimp only at hSw); go_simp <;> with_reducible rfl)
                        try simp only [Act.put, List.setIfInBounds_toArray, List.set_cons_zero, List.set_cons_succ]
                        refine wpAnyH_ready (rs := [28]) (by kernel_rfl) (by simp) ?_
                        refine AllReadyH.cons (o := ⟨none, _, _, _, _, _⟩) rfl (fun K hK => ?_) ?_
                        · go_simp
                          refine hK.out _ _ ?_ (fun hHeld => ?_)
                          · (refine hAll.out _ ?_; repeat (first | exact KX.refl _ _ _ | (refine KX.grown ?_ (by assumption)) | (refine KX.step ?_ (by assumption)) | (with_reducible refine KX.alloc ?_ _) | (with_reducible refine KX.drew ?_) | (with_reducible refine KX.put ?_ _ _)))
                          clear hK K
                          try simp only [Act.put, List.setIfInBounds_toArray, List.set_cons_zero, List.set_cons_succ]
                          refine wpAnyH_done (by kernel_rfl) ?_ _
                          refine ⟨rfl, ?_⟩
                          gi_wp2
                          exact hFin.out _ (by repeat (first | exact KX.refl _ _ _ | (refine KX.grown ?_ (by assumption)) | (refine KX.step ?_ (by assumption)) | (with_reducible refine KX.alloc ?_ _) | (with_reducible refine KX.drew ?_) | (with_reducible refine KX.put ?_ _ _))) (hM4.grown (grownBy_setC _ _ _ _) hmb9.out) (z5.put 0 _)
                        exact AllReadyH.nil
                      exact AllReadyH.nil
                    exact AllReadyH.nil
                  exact AllReadyH.nil
                exact AllReadyH.nil
              exact AllReadyH.nil
          · rw [if_neg hcap] at hrd
            simp only [Option.map_some, Addr.add] at hrd
            rw [if_neg hzc] at hrd
            have hT := hT0 _ _ (rc - e1) hrd
            replace hrd := Lib.hid hrd
            replace hT0 := Lib.hid hT0
            cases gb with
            | true =>
              refine wpIn_region_held_drewR (S := (fun w' => w'.cell? ⟨w.heap.size, 0, none⟩ = some (.int .i64 g.k) ∧ w'.cell? ⟨w.heap.size, 1, none⟩ = some (.slice ta g.toks.length tc) ∧ w'.cell? ⟨w.heap.size, 2, none⟩ = some (.string g.sep) ∧ w'.cell? ⟨w.heap.size, 3, none⟩ = some (.slice na i nc) ∧ w'.cell? ⟨w.heap.size, 4, none⟩ = some (.int .i64 g.start) ∧ w'.cell? ⟨w.heap.size, 5, none⟩ = some (.slice (some ⟨b, off, none⟩) g.prods.length pc) ∧
              w'.cell? ⟨w.heap.size + 1, 0, none⟩ = some (.slice (some ⟨fo, 0, none⟩) i i) ∧ w'.cell? ⟨w.heap.size + 1 + 1, 0, none⟩ = some (.slice (some ⟨bo, 0, none⟩) i i) ∧ w'.cell? ⟨g8, 0, none⟩ = some (.int .i64 p.left) ∧ w'.cell? ⟨g8, 1, none⟩ = some (.slice (some ⟨rb, roff, none⟩) p.right.length rc) ∧ w'.cell? ⟨Bx, 1, none⟩ = some (.int .i64 d) ∧
              w'.cell? ⟨fo, ix, none⟩ = some (.map (some mb)) ∧ w'.cell? ⟨fo, jx, none⟩ = some (.map (some mb2)) ∧ KX W1 mb b5 w')) (by kernel_rfl) (by kernel_rfl) (hAll.out _ (KX.refl _ _ _).drew) (fun hHeld => ?_)
              refine wpAnyH_take (i := 0) (oi := ⟨some 42, _, _, _, _, _⟩) (v := ?vc1) rfl (by kernel_rfl) (by kernel_rfl) (by kernel_rfl) (fun _ _ _ h => by cases h.1) (Or.inl ⟨by rfl, ?hyc1⟩) (by assumption) ?restc1
              case hyc1 => (intro w hSw; (try dsimp only at hSw); go_simp <;> with_reducible rfl)
              try simp only [Act.put, List.setIfInBounds_toArray, List.set_cons_zero, List.set_cons_succ]
              refine wpAnyH_take (i := 1) (oi := ⟨some 43, _, _, _, _, _⟩) (v := ?vc2) rfl (by kernel_rfl) (by kernel_rfl) (by kernel_rfl) (fun _ _ _ h => by cases h.1) (Or.inl ⟨by rfl, ?hyc2⟩) (by assumption) ?restc2
              case hyc2 => (intro w hSw; (try dsimp only at hSw); go_simp <;> with_reducible rfl)
              try simp only [Act.put, List.setIfInBounds_toArray, List.set_cons_zero, List.set_cons_succ]
              refine wpAnyH_take (i := 2) (oi := ⟨some 44, _, _, _, _, _⟩) (v := ?vc3) rfl (by kernel_rfl) (by kernel_rfl) (by kernel_rfl) (fun _ _ _ h => by cases h.1) (Or.inl ⟨by rfl, ?hyc3⟩) (by assumption) ?restc3
              case hyc3 => (intro w hSw; (try dsimp only at hSw); go_simp <;> with_reducible rfl)
              try simp only [Act.put, List.setIfInBounds_toArray, List.set_cons_zero, List.set_cons_succ]
              refine wpAnyH_take (i := 3) (oi := ⟨some 45, _, _, _, _, _⟩) (v := ?vc4) rfl (by kernel_rfl) (by kernel_rfl) (by kernel_rfl) (fun _ _ _ h => by cases h.1) (Or.inl ⟨by rfl, ?hyc4⟩) (by assumption) ?restc4
              case hyc4 => (intro w hSw; (try dsimp only at hSw); go_simp <;> with_reducible rfl)
              try simp only [Act.put, List.setIfInBounds_toArray, List.set_cons_zero, List.set_cons_succ]
              refine wpAnyH_take (i := 4) (oi := ⟨some 46, _, _, _, _, _⟩) (v := ?vc5) rfl (by kernel_rfl) (by kernel_rfl) (by kernel_rfl) (fun _ _ _ h => by cases h.1) (Or.inl ⟨by rfl, ?hyc5⟩) (by assumption) ?restc5
              case hyc5 => (intro w hSw; (try dsimp only at hSw); go_simp <;> with_reducible rfl)
              try simp only [Act.put, List.setIfInBounds_toArray, List.set_cons_zero, List.set_cons_succ]
              refine wpAnyH_take (i := 5) (oi := ⟨some 47, _, _, _, _, _⟩) (v := ?vc6) rfl (by kernel_rfl) (by kernel_rfl) (by kernel_rfl) (fun _ _ _ h => by cases h.1) (Or.inl ⟨by rfl, ?hyc6⟩) (by assumption) ?restc6
              case hyc6 => (intro w hSw; (try dsimp only at hSw); go_simp <;> with_reducible rfl)
              try simp only [Act.put, List.setIfInBounds_toArray, List.set_cons_zero, List.set_cons_succ]
              refine wpAnyH_take (i := 6) (oi := ⟨some 48, _, _, _, _, _⟩) (v := ?vc7) rfl (by kernel_rfl) (by kernel_rfl) (by kernel_rfl) (fun _ _ _ h => by cases h.1) (Or.inl ⟨by rfl, ?hyc7⟩) (by assumption) ?restc7
              case hyc7 => (intro w hSw; (try dsimp only at hSw); go_simp <;> with_reducible rfl)
              try simp only [Act.put, List.setIfInBounds_toArray, List.set_cons_zero, List.set_cons_succ]
              refine wpAnyH_take (i := 7) (oi := ⟨some 49, _, _, _, _, _⟩) (v := ?vc8) rfl (by kernel_rfl) (by kernel_rfl) (by kernel_rfl) (fun _ _ _ h => by cases h.1) (Or.inl ⟨by rfl, ?hyc8⟩) (by assumption) ?restc8
              case hyc8 => (intro w hSw; (try dsimp only at hSw); go_simp <;> with_reducible rfl)
              try simp only [Act.put, List.setIfInBounds_toArray, List.set_cons_zero, List.set_cons_succ]
              refine wpAnyH_take (i := 8) (oi := ⟨some 50, _, _, _, _, _⟩) (v := ?vc9) rfl (by kernel_rfl) (by kernel_rfl) (by kernel_rfl) (fun _ _ _ h => by cases h.1) (Or.inl ⟨by rfl, ?hyc9⟩) (by assumption) ?restc9
              case hyc9 => (intro w hSw; (try dsimp only at hSw); go_simp <;> with_reducible rfl)
              try simp only [Act.put, List.setIfInBounds_toArray, List.set_cons_zero, List.set_cons_succ]
              refine wpAnyH_take (i := 9) (oi := ⟨some 51, _, _, _, _, _⟩) (v := ?vc10) rfl (by kernel_rfl) (by kernel_rfl) (by kernel_rfl) (fun _ _ _ h => by cases h.1) (Or.inl ⟨by rfl, ?hyc10⟩) (by assumption) ?restc10
              case hyc10 => (intro w hSw; (try dsimp only at hSw); go_simp <;> with_reducible rfl)
              try simp only [Act.put, List.setIfInBounds_toArray, List.set_cons_zero, List.set_cons_succ]
              refine wpAnyH_take (i := 10) (oi := ⟨some 52, _, _, _, _, _⟩) (v := ?vc11) rfl (by kernel_rfl) (by kernel_rfl) (by kernel_rfl) (fun _ _ _ h => by cases h.1) (Or.inl ⟨by rfl, ?hyc11⟩) (by assumption) ?restc11
              case hyc11 => (intro w hSw; (try dsimp only at hSw); go_simp <;> with_reducible rfl)
              try simp only [Act.put, List.setIfInBounds_toArray, List.set_cons_zero, List.set_cons_succ]
              refine wpAnyH_take (i := 11) (oi := ⟨some 53, _, _, _, _, _⟩) (v := ?vc12) rfl (by kernel_rfl) (by kernel_rfl) (by kernel_rfl) (fun _ _ _ h => by cases h.1) (Or.inl ⟨by rfl, ?hyc12⟩) (by assumption) ?restc12
              case hyc12 => (intro w hSw; (try dsimp only at hSw); go_simp <;> with_reducible rfl)
              try simp only [Act.put, List.setIfInBounds_toArray, List.set_cons_zero, List.set_cons_succ]
              refine wpAnyH_take (i := 12) (oi := ⟨some 54, _, _, _, _, _⟩) (v := ?vc13) rfl (by kernel_rfl) (by kernel_rfl) (by kernel_rfl) (fun _ _ _ h => by cases h.1) (Or.inl ⟨by rfl, ?hyc13⟩) (by assumption) ?restc13
              case hyc13 => (intro w hSw; (try dsimp only at hSw); go_simp <;> with_reducible rfl)
              try simp only [Act.put, List.setIfInBounds_toArray, List.set_cons_zero, List.set_cons_succ]
              refine wpAnyH_take (i := 14) (oi := ⟨some 56, _, _, _, _, _⟩) (v := ?vc14) rfl (by kernel_rfl) (by kernel_rfl) (by kernel_rfl) (fun _ _ _ h => by cases h.1) (Or.inl ⟨by rfl, ?hyc14⟩) (by assumption) ?restc14
              case hyc14 => (intro w hSw; (try dsimp only at hSw); go_simp <;> with_reducible rfl)
              try simp only [Act.put, List.setIfInBounds_toArray, List.set_cons_zero, List.set_cons_succ]
              refine wpAnyH_take (i := 15) (oi := ⟨some 57, _, _, _, _, _⟩) (v := ?vc15) rfl (by kernel_rfl) (by kernel_rfl) (by kernel_rfl) (fun _ _ _ h => by cases h.1) (Or.inl ⟨by rfl, ?hyc15⟩) (by assumption) ?restc15
              case hyc15 => (intro w hSw; (try dsimp only at hSw); go_simp <;> with_reducible rfl)
              try simp only [Act.put, List.setIfInBounds_toArray, List.set_cons_zero, List.set_cons_succ]
              refine wpAnyH_take (i := 16) (oi := ⟨some 58, _, _, _, _, _⟩) (v := ?vc16) rfl (by kernel_rfl) (by kernel_rfl) (by kernel_rfl) (fun _ _ _ h => by cases h.1) (Or.inl ⟨by rfl, ?hyc16⟩) (by assumption) ?restc16
              case hyc16 => (intro w hSw; (try dsimp only at hSw); go_simp <;> with_reducible rfl)
              try simp only [Act.put, List.setIfInBounds_toArray, List.set_cons_zero, List.set_cons_succ]
              refine wpAnyH_take (i := 17) (oi := ⟨some 59, _, _, _, _, _⟩) (v := ?vc17) rfl (by kernel_rfl) (by kernel_rfl) (by kernel_rfl) (fun _ _ _ h => by cases h.1) (Or.inl ⟨by rfl, ?hyc17⟩) (by assumption) ?restc17
              case hyc17 => (intro w hSw; (try dsimp only at hSw); go_simp <;> with_reducible rfl)
              try simp only [Act.put, List.setIfInBounds_toArray, List.set_cons_zero, List.set_cons_succ]
              refine wpAnyH_take (i := 18) (oi := ⟨some 60, _, _, _, _, _⟩) (v := ?vc18) rfl (by kernel_rfl) (by kernel_rfl) (by kernel_rfl) (fun _ _ _ h => by cases h.1) (Or.inl ⟨by rfl, ?hyc18⟩) (by assumption) ?restc18
              case hyc18 => (intro w hSw; (try dsimp only at hSw); go_simp <;> with_reducible rfl)
              try simp only [Act.put, List.setIfInBounds_toArray, List.set_cons_zero, List.set_cons_succ]
              refine wpAnyH_take (i := 19) (oi := ⟨some 61, _, _, _, _, _⟩) (v := ?vc19) rfl (by kernel_rfl) (by kernel_rfl) (by kernel_rfl) (fun _ _ _ h => by cases h.1) (Or.inl ⟨by rfl, ?hyc19⟩) (by assumption) ?restc19
              case hyc19 => (intro w hSw; (try dsimp only at hSw); go_simp <;> with_reducible rfl)
              try simp only [Act.put, List.setIfInBounds_toArray, List.set_cons_zero, List.set_cons_succ]
              refine wpAnyH_take (i := 21) (oi := ⟨some 63, _, _, _, _, _⟩) (v := ?vc20) rfl (by kernel_rfl) (by kernel_rfl) (by kernel_rfl) (fun _ _ _ h => by cases h.1) (Or.inl ⟨by rfl, ?hyc20⟩) (by assumption) ?restc20
              case hyc20 => (intro w hSw; (try dsimp only at hSw); go_simp <;> with_reducible rfl)
              try simp only [Act.put, List.setIfInBounds_toArray, List.set_cons_zero, List.set_cons_succ]
              refine wpAnyH_take (i := 22) (oi := ⟨some 64, _, _, _, _, _⟩) (v := ?vc21) rfl (by kernel_rfl) (by kernel_rfl) (by kernel_rfl) (fun _ _ _ h => by cases h.1) (Or.inl ⟨by rfl, ?hyc21⟩) (by assumption) ?restc21
              case hyc21 => (intro w hSw; (try dsimp only at hSw); go_simp <;> with_reducible rfl)
              try simp only [Act.put, List.setIfInBounds_toArray, List.set_cons_zero, List.set_cons_succ]
              refine wpAnyH_ready (rs := [13]) (by kernel_rfl) (by simp) ?_
              refine AllReadyH.cons (o := ⟨some 55, _, _, _, _, _⟩) rfl (fun K hK => ?_) ?_
              · go_simp
                go_at_call 36
                refine (hT.out _ (by repeat (first | assumption | exact Below.refl _ _ | (refine bStep ?_ (by assumption)) | (with_reducible refine bAlc ?_ _) | (with_reducible refine bDrw ?_)))).mono ?_
                rintro e w1 ⟨v1, rfl, ho1, hb1⟩
                obtain ⟨A1, k1, rfl, hd1, hk1, hmm1, hg1⟩ := ho1.reads
                go_wp2_with fail
                refine hK.out _ _ ?_ (fun hHeld => ?_)
                · (refine hAll.out _ ?_; repeat (first | exact KX.refl _ _ _ | (refine KX.grown ?_ (by assumption)) | (refine KX.step ?_ (by assumption)) | (with_reducible refine KX.alloc ?_ _) | (with_reducible refine KX.drew ?_) | (with_reducible refine KX.put ?_ _ _)))
                clear hK K
                try simp only [Act.put, List.setIfInBounds_toArray, List.set_cons_zero, List.set_cons_succ]
                refine wpAnyH_ready (rs := [20]) (by kernel_rfl) (by simp) ?_
                refine AllReadyH.cons (o := ⟨some 62, _, _, _, _, _⟩) rfl (fun K hK => ?_) ?_
                · go_simp
                  go_at_call 37
                  refine (hSo.out _ (by repeat (first | assumption | exact Below.refl _ _ | (refine bStep ?_ (by assumption)) | (with_reducible refine bAlc ?_ _) | (with_reducible refine bDrw ?_)))).mono ?_
                  rintro e w2 ⟨v2, rfl, ho2, hb2⟩
                  obtain ⟨A2, k2, rfl, hd2, hk2, hmm2, hg2⟩ := ho2.reads
                  go_wp2_with fail
                  refine hK.out _ _ ?_ (fun hHeld => ?_)
                  · (refine hAll.out _ ?_; repeat (first | exact KX.refl _ _ _ | (refine KX.grown ?_ (by assumption)) | (refine KX.step ?_ (by assumption)) | (with_reducible refine KX.alloc ?_ _) | (with_reducible refine KX.drew ?_) | (with_reducible refine KX.put ?_ _ _)))
                  clear hK K
                  try simp only [Act.put, List.setIfInBounds_toArray, List.set_cons_zero, List.set_cons_succ]
                  refine wpAnyH_ready (rs := [23]) (by kernel_rfl) (by simp) ?_
                  refine AllReadyH.cons (o := ⟨some 65, _, _, _, _, _⟩) rfl (fun K hK => ?_) ?_
                  · go_simp
                    go_at_call 38
                    refine (hPl.out _).mono ?_
                    rintro e w3 ⟨Bk, rfl, p1, p2, p3, p4⟩
                    go_wp2_with fail
                    refine hK.out _ _ ?_ (fun hHeld => ?_)
                    · (refine hAll.out _ ?_; repeat (first | exact KX.refl _ _ _ | (refine KX.grown ?_ (by assumption)) | (refine KX.step ?_ (by assumption)) | (with_reducible refine KX.alloc ?_ _) | (with_reducible refine KX.drew ?_) | (with_reducible refine KX.put ?_ _ _)))
                    clear hK K
                    try simp only [Act.put, List.setIfInBounds_toArray, List.set_cons_zero, List.set_cons_succ]
                    refine wpAnyH_ready (rs := [24]) (by kernel_rfl) (by simp) ?_
                    refine AllReadyH.cons (o := ⟨some 66, _, _, _, _, _⟩) rfl (fun K hK => ?_) ?_
                    · go_simp
                      go_at_call 35
                      refine (hJ.out A1 k1 A2 k2 Bk _ (by repeat (first | assumption | exact Below.refl _ _ | (refine bStep ?_ (by assumption)) | (with_reducible refine bAlc ?_ _) | (with_reducible refine bDrw ?_))) (rdl_to hd1 (by repeat (first | assumption | exact Below.refl _ _ | (refine bStep ?_ (by assumption)) | (with_reducible refine bAlc ?_ _) | (with_reducible refine bDrw ?_)))) (rdl_to hd2 (by repeat (first | assumption | exact Below.refl _ _ | (refine bStep ?_ (by assumption)) | (with_reducible refine bAlc ?_ _) | (with_reducible refine bDrw ?_)))) (cell_later (by repeat (first | assumption | exact Below.refl _ _ | (refine bStep ?_ (by assumption)) | (with_reducible refine bAlc ?_ _) | (with_reducible refine bDrw ?_))) p1) (bk_lt p3 (by repeat (first | assumption | exact Below.refl _ _ | (refine bStep ?_ (by assumption)) | (with_reducible refine bAlc ?_ _) | (with_reducible refine bDrw ?_))))).mono ?_
                      rintro e w4 ⟨rfl, hM4, hg4⟩
                      obtain ⟨z5, y5, f5⟩ := hq5.out _ _ (by repeat (first | assumption | exact Below.refl _ _ | (refine bStep ?_ (by assumption)) | (with_reducible refine bAlc ?_ _) | (with_reducible refine bDrw ?_))) hg4
                      go_wp2_with fail
                      refine hK.out _ _ ?_ (fun hHeld => ?_)
                      · (refine hAll.out _ ?_; repeat (first | exact KX.refl _ _ _ | (refine KX.grown ?_ (by assumption)) | (refine KX.step ?_ (by assumption)) | (with_reducible refine KX.alloc ?_ _) | (with_reducible refine KX.drew ?_) | (with_reducible refine KX.put ?_ _ _)))
                      clear hK K
                      try simp only [Act.put, List.setIfInBounds_toArray, List.set_cons_zero, List.set_cons_succ]
                      refine wpAnyH_take (i := 25) (oi := ⟨some 67, _, _, _, _, _⟩) (v := ?vc22) rfl (by kernel_rfl) (by kernel_rfl) (by kernel_rfl) (fun _ _ _ h => by cases h.1) (Or.inl ⟨by rfl, ?hyc22⟩) (by assumption) ?restc22
                      case hyc22 => (intro w hSw; (try dsimp only at hSw); go_simp <;> with_reducible rfl)
                      try simp only [Act.put, List.setIfInBounds_toArray, List.set_cons_zero, List.set_cons_succ]
                      refine wpAnyH_take (i := 26) (oi := ⟨some 68, _, _, _, _, _⟩) (v := undef) rfl (by kernel_rfl) (by kernel_rfl) (by kernel_rfl) (fun _ _ _ h => by cases h.1) (Or.inr ⟨by rfl, rfl⟩) (by assumption) ?_
                      try simp only [Act.put, List.setIfInBounds_toArray, List.set_cons_zero, List.set_cons_succ]
                      refine wpAnyH_take (i := 27) (oi := ⟨some 69, _, _, _, _, _⟩) (v := ?vc24) rfl (by kernel_rfl) (by kernel_rfl) (by kernel_rfl) (fun _ _ _ h => by cases h.1) (Or.inl ⟨by rfl, ?hyc24⟩) (by assumption) ?restc24
                      case hyc24 => (intro w hSw; (try dsimp only at hSw); go_simp <;> with_reducible rfl)
                      try simp only [Act.put, List.setIfInBounds_toArray, List.set_cons_zero, List.set_cons_succ]
                      refine wpAnyH_ready (rs := [28]) (by kernel_rfl) (by simp) ?_
                      refine AllReadyH.cons (o := ⟨none, _, _, _, _, _⟩) rfl (fun K hK => ?_) ?_
                      · go_simp
                        refine hK.out _ _ ?_ (fun hHeld => ?_)
                        · (refine hAll.out _ ?_; repeat (first | exact KX.refl _ _ _ | (refine KX.grown ?_ (by assumption)) | (refine KX.step ?_ (by assumption)) | (with_reducible refine KX.alloc ?_ _) | (with_reducible refine KX.drew ?_) | (with_reducible refine KX.put ?_ _ _)))
                        clear hK K
                        try simp only [Act.put, List.setIfInBounds_toArray, List.set_cons_zero, List.set_cons_succ]
                        refine wpAnyH_done (by kernel_rfl) ?_ _
                        refine ⟨rfl, ?_⟩
                        gi_wp2
                        exact hFin.out _ (by repeat (first | exact KX.refl _ _ _ | (refine KX.grown ?_ (by assumption)) | (refine KX.step ?_ (by assumption)) | (with_reducible refine KX.alloc ?_ _) | (with_reducible refine KX.drew ?_) | (with_reducible refine KX.put ?_ _ _))) (hM4.grown (grownBy_setC _ _ _ _) hmb9.out) (z5.put 0 _)
                      exact AllReadyH.nil
                    exact AllReadyH.nil
                  exact AllReadyH.nil
                exact AllReadyH.nil
              exact AllReadyH.nil
            | false =>
              refine wpIn_region_held_drewR (S := (fun w' => w'.cell? ⟨w.heap.size, 0, none⟩ = some (.int .i64 g.k) ∧ w'.cell? ⟨w.heap.size, 1, none⟩ = some (.slice ta g.toks.length tc) ∧ w'.cell? ⟨w.heap.size, 2, none⟩ = some (.string g.sep) ∧ w'.cell? ⟨w.heap.size, 3, none⟩ = some (.slice na i nc) ∧ w'.cell? ⟨w.heap.size, 4, none⟩ = some (.int .i64 g.start) ∧ w'.cell? ⟨w.heap.size, 5, none⟩ = some (.slice (some ⟨b, off, none⟩) g.prods.length pc) ∧
              w'.cell? ⟨w.heap.size + 1, 0, none⟩ = some (.slice (some ⟨fo, 0, none⟩) i i) ∧ w'.cell? ⟨w.heap.size + 1 + 1, 0, none⟩ = some (.slice (some ⟨bo, 0, none⟩) i i) ∧ w'.cell? ⟨g8, 0, none⟩ = some (.int .i64 p.left) ∧ w'.cell? ⟨g8, 1, none⟩ = some (.slice (some ⟨rb, roff, none⟩) p.right.length rc) ∧ w'.cell? ⟨Bx, 1, none⟩ = some (.int .i64 d) ∧
              w'.cell? ⟨fo, ix, none⟩ = some (.map (some mb)) ∧ w'.cell? ⟨fo, jx, none⟩ = some (.map (some mb2)) ∧ KX W1 mb b5 w')) (by kernel_rfl) (by kernel_rfl) (hAll.out _ (KX.refl _ _ _).drew) (fun hHeld => ?_)
              refine wpAnyH_take (i := 0) (oi := ⟨some 42, _, _, _, _, _⟩) (v := ?ve1) rfl (by kernel_rfl) (by kernel_rfl) (by kernel_rfl) (fun _ _ _ h => by cases h.1) (Or.inl ⟨by rfl, ?hye1⟩) (by assumption) ?reste1
              case hye1 => (intro w hSw; (try dsimp only at hSw); go_simp <;> with_reducible rfl)
              try simp only [Act.put, List.setIfInBounds_toArray, List.set_cons_zero, List.set_cons_succ]
              refine wpAnyH_take (i := 1) (oi := ⟨some 43, _, _, _, _, _⟩) (v := ?ve2) rfl (by kernel_rfl) (by kernel_rfl) (by kernel_rfl) (fun _ _ _ h => by cases h.1) (Or.inl ⟨by rfl, ?hye2⟩) (by assumption) ?reste2
              case hye2 => (intro w hSw; (try dsimp only at hSw); go_simp <;> with_reducible rfl)
              try simp only [Act.put, List.setIfInBounds_toArray, List.set_cons_zero, List.set_cons_succ]
              refine wpAnyH_take (i := 2) (oi := ⟨some 44, _, _, _, _, _⟩) (v := ?ve3) rfl (by kernel_rfl) (by kernel_rfl) (by kernel_rfl) (fun _ _ _ h => by cases h.1) (Or.inl ⟨by rfl, ?hye3⟩) (by assumption) ?reste3
              case hye3 => (intro w hSw; (try dsimp only at hSw); go_simp <;> with_reducible rfl)
              try simp only [Act.put, List.setIfInBounds_toArray, List.set_cons_zero, List.set_cons_succ]
              refine wpAnyH_take (i := 3) (oi := ⟨some 45, _, _, _, _, _⟩) (v := ?ve4) rfl (by kernel_rfl) (by kernel_rfl) (by kernel_rfl) (fun _ _ _ h => by cases h.1) (Or.inl ⟨by rfl, ?hye4⟩) (by assumption) ?reste4
              case hye4 => (intro w hSw; (try dsimp only at hSw); go_simp <;> with_reducible rfl)
              try simp only [Act.put, List.setIfInBounds_toArray, List.set_cons_zero, List.set_cons_succ]
              refine wpAnyH_take (i := 4) (oi := ⟨some 46, _, _, _, _, _⟩) (v := ?ve5) rfl (by kernel_rfl) (by kernel_rfl) (by kernel_rfl) (fun _ _ _ h => by cases h.1) (Or.inl ⟨by rfl, ?hye5⟩) (by assumption) ?reste5
              case hye5 => (intro w hSw; (try dsimp only at hSw); go_simp <;> with_reducible rfl)
              try simp only [Act.put, List.setIfInBounds_toArray, List.set_cons_zero, List.set_cons_succ]
              refine wpAnyH_take (i := 5) (oi := ⟨some 47, _, _, _, _, _⟩) (v := ?ve6) rfl (by kernel_rfl) (by kernel_rfl) (by kernel_rfl) (fun _ _ _ h => by cases h.1) (Or.inl ⟨by rfl, ?hye6⟩) (by assumption) ?reste6
              case hye6 => (intro w hSw; (try dsimp only at hSw); go_simp <;> with_reducible rfl)
              try simp only [Act.put, List.setIfInBounds_toArray, List.set_cons_zero, List.set_cons_succ]
              refine wpAnyH_take (i := 6) (oi := ⟨some 48, _, _, _, _, _⟩) (v := ?ve7) rfl (by kernel_rfl) (by kernel_rfl) (by kernel_rfl) (fun _ _ _ h => by cases h.1) (Or.inl ⟨by rfl, ?hye7⟩) (by assumption) ?reste7
              case hye7 => (intro w hSw; (try dsimp only at hSw); go_simp <;> with_reducible rfl)
              try simp only [Act.put, List.setIfInBounds_toArray, List.set_cons_zero, List.set_cons_succ]
              refine wpAnyH_take (i := 7) (oi := ⟨some 49, _, _, _, _, _⟩) (v := ?ve8) rfl (by kernel_rfl) (by kernel_rfl) (by kernel_rfl) (fun _ _ _ h => by cases h.1) (Or.inl ⟨by rfl, ?hye8⟩) (by assumption) ?reste8
              case hye8 => (intro w hSw; (try dsimp only at hSw); go_simp <;> with_reducible rfl)
              try simp only [Act.put, List.setIfInBounds_toArray, List.set_cons_zero, List.set_cons_succ]
              refine wpAnyH_take (i := 8) (oi := ⟨some 50, _, _, _, _, _⟩) (v := ?ve9) rfl (by kernel_rfl) (by kernel_rfl) (by kernel_rfl) (fun _ _ _ h => by cases h.1) (Or.inl ⟨by rfl, ?hye9⟩) (by assumption) ?reste9
              case hye9 => (intro w hSw; (try dsimp only at hSw); go_simp <;> with_reducible rfl)
              try simp only [Act.put, List.setIfInBounds_toArray, List.set_cons_zero, List.set_cons_succ]
              refine wpAnyH_take (i := 9) (oi := ⟨some 51, _, _, _, _, _⟩) (v := ?ve10) rfl (by kernel_rfl) (by kernel_rfl) (by kernel_rfl) (fun _ _ _ h => by cases h.1) (Or.inl ⟨by rfl, ?hye10⟩) (by assumption) ?reste10
              case hye10 => (intro w hSw; (try dsimp only at hSw); go_simp <;> with_reducible rfl)
              try simp only [Act.put, List.setIfInBounds_toArray, List.set_cons_zero, List.set_cons_succ]
              refine wpAnyH_take (i := 10) (oi := ⟨some 52, _, _, _, _, _⟩) (v := ?ve11) rfl (by kernel_rfl) (by kernel_rfl) (by kernel_rfl) (fun _ _ _ h => by cases h.1) (Or.inl ⟨by rfl, ?hye11⟩) (by assumption) ?reste11
              case hye11 => (intro w hSw; (try dsimp only at hSw); go_simp <;> with_reducible rfl)
              try simp only [Act.put, List.setIfInBounds_toArray, List.set_cons_zero, List.set_cons_succ]
              refine wpAnyH_take (i := 11) (oi := ⟨some 53, _, _, _, _, _⟩) (v := ?ve12) rfl (by kernel_rfl) (by kernel_rfl) (by kernel_rfl) (fun _ _ _ h => by cases h.1) (Or.inl ⟨by rfl, ?hye12⟩) (by assumption) ?reste12
              case hye12 => (intro w hSw; (try dsimp only at hSw); go_simp <;> with_reducible rfl)
              try simp only [Act.put, List.setIfInBounds_toArray, List.set_cons_zero, List.set_cons_succ]
              refine wpAnyH_take (i := 12) (oi := ⟨some 54, _, _, _, _, _⟩) (v := ?ve13) rfl (by kernel_rfl) (by kernel_rfl) (by kernel_rfl) (fun _ _ _ h => by cases h.1) (Or.inl ⟨by rfl, ?hye13⟩) (by assumption) ?reste13
              case hye13 => (intro w hSw; (try dsimp only at hSw); go_simp <;> with_reducible rfl)
              try simp only [Act.put, List.setIfInBounds_toArray, List.set_cons_zero, List.set_cons_succ]
              refine wpAnyH_take (i := 14) (oi := ⟨some 56, _, _, _, _, _⟩) (v := ?ve14) rfl (by kernel_rfl) (by kernel_rfl) (by kernel_rfl) (fun _ _ _ h => by cases h.1) (Or.inl ⟨by rfl, ?hye14⟩) (by assumption) ?reste14
              case hye14 => (intro w hSw; (try dsimp only at hSw); go_simp <;> with_reducible rfl)
              try simp only [Act.put, List.setIfInBounds_toArray, List.set_cons_zero, List.set_cons_succ]
              refine wpAnyH_take (i := 15) (oi := ⟨some 57, _, _, _, _, _⟩) (v := ?ve15) rfl (by kernel_rfl) (by kernel_rfl) (by kernel_rfl) (fun _ _ _ h => by cases h.1) (Or.inl ⟨by rfl, ?hye15⟩) (by assumption) ?reste15
              case hye15 => (intro w hSw; (try dsimp only at hSw); go_simp <;> with_reducible rfl)
              try simp only [Act.put, List.setIfInBounds_toArray, List.set_cons_zero, List.set_cons_succ]
              refine wpAnyH_take (i := 16) (oi := ⟨some 58, _, _, _, _, _⟩) (v := ?ve16) rfl (by kernel_rfl) (by kernel_rfl) (by kernel_rfl) (fun _ _ _ h => by cases h.1) (Or.inl ⟨by rfl, ?hye16⟩) (by assumption) ?reste16
              case hye16 => (intro w hSw; (try dsimp only at hSw); go_simp <;> with_reducible rfl)
              try simp only [Act.put, List.setIfInBounds_toArray, List.set_cons_zero, List.set_cons_succ]
              refine wpAnyH_take (i := 17) (oi := ⟨some 59, _, _, _, _, _⟩) (v := ?ve17) rfl (by kernel_rfl) (by kernel_rfl) (by kernel_rfl) (fun _ _ _ h => by cases h.1) (Or.inl ⟨by rfl, ?hye17⟩) (by assumption) ?reste17
              case hye17 => (intro w hSw; (try dsimp only at hSw); go_simp <;> with_reducible rfl)
              try simp only [Act.put, List.setIfInBounds_toArray, List.set_cons_zero, List.set_cons_succ]
              refine wpAnyH_take (i := 18) (oi := ⟨some 60, _, _, _, _, _⟩) (v := ?ve18) rfl (by kernel_rfl) (by kernel_rfl) (by kernel_rfl) (fun _ _ _ h => by cases h.1) (Or.inl ⟨by rfl, ?hye18⟩) (by assumption) ?reste18
              case hye18 => (intro w hSw; (try dsimp only at hSw); go_simp <;> with_reducible rfl)
              try simp only [Act.put, List.setIfInBounds_toArray, List.set_cons_zero, List.set_cons_succ]
              refine wpAnyH_take (i := 19) (oi := ⟨some 61, _, _, _, _, _⟩) (v := ?ve19) rfl (by kernel_rfl) (by kernel_rfl) (by kernel_rfl) (fun _ _ _ h => by cases h.1) (Or.inl ⟨by rfl, ?hye19⟩) (by assumption) ?reste19
              case hye19 => (intro w hSw; (try dsimp only at hSw); go_simp <;> with_reducible rfl)
              try simp only [Act.put, List.setIfInBounds_toArray, List.set_cons_zero, List.set_cons_succ]
              refine wpAnyH_take (i := 21) (oi := ⟨some 63, _, _, _, _, _⟩) (v := ?ve20) rfl (by kernel_rfl) (by kernel_rfl) (by kernel_rfl) (fun _ _ _ h => by cases h.1) (Or.inl ⟨by rfl, ?hye20⟩) (by assumption) ?reste20
              case hye20 => (intro w hSw; (try dsimp only at hSw); go_simp <;> with_reducible rfl)
              try simp only [Act.put, List.setIfInBounds_toArray, List.set_cons_zero, List.set_cons_succ]
              refine wpAnyH_take (i := 22) (oi := ⟨some 64, _, _, _, _, _⟩) (v := ?ve21) rfl (by kernel_rfl) (by kernel_rfl) (by kernel_rfl) (fun _ _ _ h => by cases h.1) (Or.inl ⟨by rfl, ?hye21⟩) (by assumption) ?reste21
              case hye21 => (intro w hSw; (try dsimp only at hSw); go_simp <;> with_reducible rfl)
              try simp only [Act.put, List.setIfInBounds_toArray, List.set_cons_zero, List.set_cons_succ]
              refine wpAnyH_ready (rs := [13]) (by kernel_rfl) (by simp) ?_
              refine AllReadyH.cons (o := ⟨some 55, _, _, _, _, _⟩) rfl (fun K hK => ?_) ?_
              · go_simp
                go_at_call 36
                refine (hT.out _ (by repeat (first | assumption | exact Below.refl _ _ | (refine bStep ?_ (by assumption)) | (with_reducible refine bAlc ?_ _) | (with_reducible refine bDrw ?_)))).mono ?_
                rintro e w1 ⟨v1, rfl, ho1, hb1⟩
                obtain ⟨A1, k1, rfl, hd1, hk1, hmm1, hg1⟩ := ho1.reads
                go_wp2_with fail
                refine hK.out _ _ ?_ (fun hHeld => ?_)
                · (refine hAll.out _ ?_; repeat (first | exact KX.refl _ _ _ | (refine KX.grown ?_ (by assumption)) | (refine KX.step ?_ (by assumption)) | (with_reducible refine KX.alloc ?_ _) | (with_reducible refine KX.drew ?_) | (with_reducible refine KX.put ?_ _ _)))
                clear hK K
                try simp only [Act.put, List.setIfInBounds_toArray, List.set_cons_zero, List.set_cons_succ]
                refine wpAnyH_ready (rs := [20]) (by kernel_rfl) (by simp) ?_
                refine AllReadyH.cons (o := ⟨some 62, _, _, _, _, _⟩) rfl (fun K hK => ?_) ?_
                · go_simp
                  go_at_call 37
                  refine (hSo.out _ (by repeat (first | assumption | exact Below.refl _ _ | (refine bStep ?_ (by assumption)) | (with_reducible refine bAlc ?_ _) | (with_reducible refine bDrw ?_)))).mono ?_
                  rintro e w2 ⟨v2, rfl, ho2, hb2⟩
                  obtain ⟨A2, k2, rfl, hd2, hk2, hmm2, hg2⟩ := ho2.reads
                  go_wp2_with fail
                  refine hK.out _ _ ?_ (fun hHeld => ?_)
                  · (refine hAll.out _ ?_; repeat (first | exact KX.refl _ _ _ | (refine KX.grown ?_ (by assumption)) | (refine KX.step ?_ (by assumption)) | (with_reducible refine KX.alloc ?_ _) | (with_reducible refine KX.drew ?_) | (with_reducible refine KX.put ?_ _ _)))
                  clear hK K
                  try simp only [Act.put, List.setIfInBounds_toArray, List.set_cons_zero, List.set_cons_succ]
                  refine wpAnyH_ready (rs := [23]) (by kernel_rfl) (by simp) ?_
                  refine AllReadyH.cons (o := ⟨some 65, _, _, _, _, _⟩) rfl (fun K hK => ?_) ?_
                  · go_simp
                    go_at_call 38
                    refine (hPl.out _).mono ?_
                    rintro e w3 ⟨Bk, rfl, p1, p2, p3, p4⟩
                    go_wp2_with fail
                    refine hK.out _ _ ?_ (fun hHeld => ?_)
                    · (refine hAll.out _ ?_; repeat (first | exact KX.refl _ _ _ | (refine KX.grown ?_ (by assumption)) | (refine KX.step ?_ (by assumption)) | (with_reducible refine KX.alloc ?_ _) | (with_reducible refine KX.drew ?_) | (with_reducible refine KX.put ?_ _ _)))
                    clear hK K
                    try simp only [Act.put, List.setIfInBounds_toArray, List.set_cons_zero, List.set_cons_succ]
                    refine wpAnyH_ready (rs := [24]) (by kernel_rfl) (by simp) ?_
                    refine AllReadyH.cons (o := ⟨some 66, _, _, _, _, _⟩) rfl (fun K hK => ?_) ?_
                    · go_simp
                      go_at_call 35
                      refine (hJ.out A1 k1 A2 k2 Bk _ (by repeat (first | assumption | exact Below.refl _ _ | (refine bStep ?_ (by assumption)) | (with_reducible refine bAlc ?_ _) | (with_reducible refine bDrw ?_))) (rdl_to hd1 (by repeat (first | assumption | exact Below.refl _ _ | (refine bStep ?_ (by assumption)) | (with_reducible refine bAlc ?_ _) | (with_reducible refine bDrw ?_)))) (rdl_to hd2 (by repeat (first | assumption | exact Below.refl _ _ | (refine bStep ?_ (by assumption)) | (with_reducible refine bAlc ?_ _) | (with_reducible refine bDrw ?_)))) (cell_later (by repeat (first | assumption | exact Below.refl _ _ | (refine bStep ?_ (by assumption)) | (with_reducible refine bAlc ?_ _) | (with_reducible refine bDrw ?_))) p1) (bk_lt p3 (by repeat (first | assumption | exact Below.refl _ _ | (refine bStep ?_ (by assumption)) | (with_reducible refine bAlc ?_ _) | (with_reducible refine bDrw ?_))))).mono ?_
                      rintro e w4 ⟨rfl, hM4, hg4⟩
                      obtain ⟨z5, y5, f5⟩ := hq5.out _ _ (by repeat (first | assumption | exact Below.refl _ _ | (refine bStep ?_ (by assumption)) | (with_reducible refine bAlc ?_ _) | (with_reducible refine bDrw ?_))) hg4
                      go_wp2_with fail
                      refine hK.out _ _ ?_ (fun hHeld => ?_)
                      · (refine hAll.out _ ?_; repeat (first | exact KX.refl _ _ _ | (refine KX.grown ?_ (by assumption)) | (refine KX.step ?_ (by assumption)) | (with_reducible refine KX.alloc ?_ _) | (with_reducible refine KX.drew ?_) | (with_reducible refine KX.put ?_ _ _)))
                      clear hK K
                      try simp only [Act.put, List.setIfInBounds_toArray, List.set_cons_zero, List.set_cons_succ]
                      refine wpAnyH_take (i := 25) (oi := ⟨some 67, _, _, _, _, _⟩) (v := ?ve22) rfl (by kernel_rfl) (by kernel_rfl) (by kernel_rfl) (fun _ _ _ h => by cases h.1) (Or.inl ⟨by rfl, ?hye22⟩) (by assumption) ?reste22
                      case hye22 => (intro w hSw; (try dsimp only at hSw); go_simp <;> with_reducible rfl)
                      try simp only [Act.put, List.setIfInBounds_toArray, List.set_cons_zero, List.set_cons_succ]
                      refine wpAnyH_ready (rs := [26]) (by kernel_rfl) (by simp) ?_
                      refine AllReadyH.cons (o := ⟨some 68, _, _, _, _, _⟩) rfl (fun K hK => ?_) ?_
                      · go_simp
                        refine hK.out _ _ ?_ (fun hHeld => ?_)
                        · (refine hAll.out _ ?_; repeat (first | exact KX.refl _ _ _ | (refine KX.grown ?_ (by assumption)) | (refine KX.step ?_ (by assumption)) | (with_reducible refine KX.alloc ?_ _) | (with_reducible refine KX.drew ?_) | (with_reducible refine KX.put ?_ _ _)))
                        clear hK K
                        try simp only [Act.put, List.setIfInBounds_toArray, List.set_cons_zero, List.set_cons_succ]
                        refine wpAnyH_take (i := 27) (oi := ⟨some 69, _, _, _, _, _⟩) (v := ?ve23) rfl (by kernel_rfl) (by kernel_rfl) (by kernel_rfl) (fun _ _ _ h => by cases h.1) (Or.inl ⟨by rfl, ?hye23⟩) (by assumption) ?reste23
                        case hye23 => (intro w hSw; (try dsimp only at hSw); go_simp <;> with_reducible rfl)
                        try simp only [Act.put, List.setIfInBounds_toArray, List.set_cons_zero, List.set_cons_succ]
                        refine wpAnyH_ready (rs := [28]) (by kernel_rfl) (by simp) ?_
                        refine AllReadyH.cons (o := ⟨none, _, _, _, _, _⟩) rfl (fun K hK => ?_) ?_
                        · go_simp
                          refine hK.out _ _ ?_ (fun hHeld => ?_)
                          · (refine hAll.out _ ?_; repeat (first | exact KX.refl _ _ _ | (refine KX.grown ?_ (by assumption)) | (refine KX.step ?_ (by assumption)) | (with_reducible refine KX.alloc ?_ _) | (with_reducible refine KX.drew ?_) | (with_reducible refine KX.put ?_ _ _)))
                          clear hK K
                          try simp only [Act.put, List.setIfInBounds_toArray, List.set_cons_zero, List.set_cons_succ]
                          refine wpAnyH_done (by kernel_rfl) ?_ _
                          refine ⟨rfl, ?_⟩
                          gi_wp2
                          exact hFin.out _ (by repeat (first | exact KX.refl _ _ _ | (refine KX.grown ?_ (by assumption)) | (refine KX.step ?_ (by assumption)) | (with_reducible refine KX.alloc ?_ _) | (with_reducible refine KX.drew ?_) | (with_reducible refine KX.put ?_ _ _))) (hM4.grown (grownBy_setC _ _ _ _) hmb9.out) (z5.put 0 _)
                        exact AllReadyH.nil
                      exact AllReadyH.nil
                    exact AllReadyH.nil
                  exact AllReadyH.nil
                exact AllReadyH.nil
              exact AllReadyH.nil
        case done =>
          rintro D ys Wb hD hys ⟨fsb, gr, hAFb, hMb, q5b, hMkb, hszb, hlenb, hfitb, hsndb, hbegb, hgrb⟩ hKD
          have y5 := q5b.cell 0
          simp only [List.getElem?_toArray, List.getElem?_cons_zero] at y5
          have hDD : D ∉ Ds := fun h => by have := hDs6.out D h; omega
          have hMk9 : MarksOk Wb fo (D :: Ds) := ⟨List.nodup_cons.2 ⟨hDD, hMkb.1⟩, fun D' h' => by
            rcases List.mem_cons.1 h' with rfl | h'
            · exact ⟨by omega, hKD⟩
            · exact hMkb.2 D' h'⟩
          cases gr with
          | true =>
            have h9 := hgrb.out
            simp only [if_true] at h9
            have htl := tot_le fsb (fun s hs => fit_len (hMb.nodups s hs) (hfitb.out s hs))
            rw [hlenb.out] at htl
            have hgk9 := hgk.out
            replace hgk9 := Lib.hid (And.intro h9 (And.intro htl hgk9))
            clear h9 htl
            go_wp2_with fail
            exact Handed.intro (i * 4681 - tot fsb) (by have := hgk9.out; omega) (hJ _ _ _ ⟨fsb, D :: Ds, Lib.hid (by have := hgk9.out; omega), hlenb, hfitb, hsndb, hbegb, hMb, hAFb, hMk9, by have := hWs.out; omega, ex_frame _ rfl⟩)
          | false =>
            have h9 := hgrb.out
            simp only [Bool.false_eq_true, if_false] at h9
            obtain ⟨h9a, h9b⟩ := h9
            subst h9a
            have hclo : Hid (ClosedO g.prods k g.start ss fsb) := Lib.hid ⟨hbegb.out, fun p hp d s hd h16 z hz => by
              obtain ⟨pi, hpi⟩ := List.getElem?_of_mem hp
              have hpi2 := hpi
              rw [← hvs.out.1, List.getElem?_map] at hpi2
              obtain ⟨y, hy1, hy2⟩ := Option.map_eq_some_iff.1 hpi2
              have hmu : (pi, d, s) ∈ usAll (fun s => decide (16 ≤ s)) vs := List.mem_filter.2 ⟨prsU_mem.2 ⟨y, Nat.zero_le _, hy1, by rw [hy2]; exact hd⟩, decide_eq_true h16⟩
              rw [← hys] at hmu
              obtain ⟨u, hu, hue⟩ := List.mem_map.1 hmu
              have hcu := h9b u hu
              rw [hue] at hcu
              refine hcu z ?_
              rw [List.getD_eq_getElem?_getD, hpi]
              exact hz⟩
            have j2 := hAFb.2.1.cell 0
            have j3 := hAFb.2.2.1.cell 0
            have l2 := hAFb.2.1.frozen 0
            have l3 := hAFb.2.2.1.frozen 0
            simp only [List.getElem?_toArray, List.getElem?_cons_zero] at j2 j3
            replace h9b := Lib.hid h9b
            replace hys := Lib.hid hys
            go_wp2_with fail
            have j2' : Wb.drew.cell? ⟨w.heap.size + 1, 0, none⟩ = some (.slice (some ⟨fo, 0, none⟩) i i) := j2
            have j3' : Wb.drew.cell? ⟨w.heap.size + 1 + 1, 0, none⟩ = some (.slice (some ⟨bo, 0, none⟩) i i) := j3
            have l2' : Wb.drew.frozen? ⟨w.heap.size + 1, 0, none⟩ = false := l2
            have l3' : Wb.drew.frozen? ⟨w.heap.size + 1 + 1, 0, none⟩ = false := l3
            go_region
            rw [setCell_same hAFb.2.1, setCell_same (show Blk Wb (w.heap.size + 1 + 1) 65 #[.slice (some ⟨bo, 0, none⟩) i i] from hAFb.2.2.1)]
            go_wp2_with fail
            refine leaves_marks (D :: Ds) Wb.drew fo ⟨hMk9.1, hMk9.2⟩ (fun W' hb' hj => ?_)
            have hbW : Below fo Wb W' := (Below.refl fo Wb).drew.trans hb'
            have hAFz := hAFb.low hbW
            have hMz : SetsM W' fo i mbs fsb := hMb.marks hMk9 hj
            have key : RetA g k w (.returned (.tuple #[.slice (some ⟨fo, 0, none⟩) i i, .slice (some ⟨bo, 0, none⟩) i i])) W' := by
              unfold RetA
              rw [← hn.out]
              exact ⟨bo, fo, ss, fsb, rfl, hAFz.2.2.2.1.mono hAFz.2.2.2.2.2, hMz.reads hlenb.out, hfit.out, hsnd.out, hcls.out, hfitb.out, hsndb.out, hclo.out, hnds.out, hMz.nodups, hAFz.1.2.2⟩
            exact ⟨_, results_cells63 rfl _ _ _ _ _ _ rfl rfl (hAFz.2.1.cell 0) (hAFz.2.2.1.cell 0), key⟩
        case stop =>
          rintro D c pre W hD _ hf
          exact hf.elim
end Go.Proofs.YtnnkfgekiaaehaaGreat

/- follow.Of. -/
namespace Go.Proofs.YtnnkfgekiaaehaaGreat
open Go.ChangeShapes Go.WideShapes Go.ChangeAt Go.RowKit
set_option linter.unusedVariables false
theorem MapK.len {w : World} {b : Nat} {s : List Lk} (h : MapK lookKey w b s) (ty : TypeId) : (Builtin.len_ #[69] ty #[.map (some b)]).run Tryz.prog w = .ok (.int .i64 s.length) w := by
  obtain ⟨es, clock, hb, hk, hv, hw, hn, hst⟩ := h
  have e : es.size = s.length := by
    have := congrArg List.length hk
    simpa using this
  simp [Builtin.len_, run_underlying under67, MapKept.run_getObj_map hb, goInt, Result.andThen, e]
theorem SetsR.at0 {W : World} {B fo n : Nat} {ss : List (List Lk)} (h : SetsR W B (some ⟨fo, 0, none⟩) n ss) (i : Nat) (hi : i < n) : ∃ mb, mb < B ∧ W.cell? ⟨fo, i, none⟩ = some (.map (some mb)) ∧ MapK lookKey W mb (ss.getD i []) := by
  obtain ⟨b, off, mb, e, h1, h2, h3, h4⟩ := h.get i hi
  injection e with e
  injection e with e1 e2
  subst e1; subst e2
  rw [Nat.zero_add] at h3
  exact ⟨mb, h2, h3, h4⟩
def FSet (g : Gr) (s : Int) (L : List Lk) : Prop := Asc L ∧ ∀ y, y ∈ L ↔ FO g.prods g.k.toNat g.start s y
theorem FSet.uniq {g : Gr} {s : Int} {L M : List Lk} (h : FSet g s L) (h' : FSet g s M) : L = M := asc_uniq h.1 h'.1 fun y => (h.2 y).trans (h'.2 y).symm
def Few (g : Gr) (s : Int) : Prop := ∀ L : List Lk, L.Nodup → (∀ y ∈ L, FO g.prods g.k.toNat g.start s y) → L.length ≤ 600
def RetO (g : Gr) (s : Int) (w : World) (e : Ending) (w' : World) : Prop := ∃ L v, e = .returned (.tuple #[v, .int .i64 0]) ∧ FSet g s L ∧ OwnL w' w.heap.size v L ∧ Below w.heap.size w w'
theorem small_of {g : Gr} (h : gchk g = 0) : Small g := by
  have := gok_of h
  exact ⟨by have := this.tk; omega, by have := this.nm; omega, by have := this.pl; omega, fun p hp => by have := (this.pr p hp).2.1; omega⟩
theorem nonE_ok {g : Gr} {s : Int} (h : gchk g = 0) (hs : ntB g s = true) : nonE g s = 0 ∧ nonV g s = s - 16 := by
  have : nonE g s = 0 := by unfold nonE; rw [if_pos h, if_pos hs]
  exact ⟨this, by unfold nonV; rw [if_pos this]⟩
theorem nt_bd {g : Gr} {s : Int} (hs : ntB g s = true) : 16 ≤ s ∧ s < 16 + (g.names.length : Int) := of_decide_eq_true hs
theorem retA_set {g : Gr} {s : Int} (h : gchk g = 0) (hs : ntB g s = true) {ss fs : List (List Lk)} (h1 : SetsFit g.k.toNat ss) (h2 : SoundF g.prods g.k.toNat ss) (h3 : ClosedF g.prods g.k.toNat ss) (h4 : SetsFit g.k.toNat fs) (h5 : SoundO g.prods g.k.toNat g.start fs) (h6 : ClosedO g.prods g.k.toNat g.start ss fs) (y : Lk) :
    y ∈ fs.getD (s - 16).toNat [] ↔ FO g.prods g.k.toNat g.start s y := by
  have hok := gok_of h
  exact follow_iff hok.k1 hok.k4 h1 h4 h2 h3 (fun p hp => ⟨(hok.pr p hp).1.1, hok.sym hp⟩) h5 h6 s (nt_bd hs).1 y
set_option maxRecDepth 100000 in
set_option maxHeartbeats 4000000 in
theorem of_any (g : Gr) (a : GA) (s : Int) (w : World) (hg : GrAt w w.heap.size g a) (hok : gchk g = 0) (hs : ntB g s = true) (hfew : Few g s) : Calls Tryz.prog 21 #[gval g a, .int .i64 s] w (RetO g s w) := by
  obtain ⟨ta, tc, na, nc, pa, pc⟩ := a
  have hb := nt_bd hs
  have hk := gok_of hok
  have hn8 := hk.nm
  have hG0 := GB.start hg
  have hN := Lib.hid (fun (W : World) (h : GrAt W W.heap.size g ⟨ta, tc, na, nc, pa, pc⟩) => nonterm24_any g ⟨ta, tc, na, nc, pa, pc⟩ s W h (small_of hok) (by omega) (by omega))
  rw [(nonE_ok hok hs).1, (nonE_ok hok hs).2] at hN
  have hA := Lib.hid (fun (W : World) (h : GrAt W W.heap.size g ⟨ta, tc, na, nc, pa, pc⟩) => all_any g ⟨ta, tc, na, nc, pa, pc⟩ g.k.toNat hk W h)
  have hSet := Lib.hid (fun (ss fs : List (List Lk)) h1 h2 h3 h4 h5 h6 y => retA_set hok hs (ss := ss) (fs := fs) h1 h2 h3 h4 h5 h6 y)
  have hP := Lib.hid (fun (L : List Lk) (v : Value) (w' : World) (h1 : FSet g s L) (h2 : OwnL w' w.heap.size v L) (h3 : Below w.heap.size w w') => (show RetO g s w (.returned (.tuple #[v, .int .i64 0])) w' from ⟨L, v, rfl, h1, h2, h3⟩))
  have hfew' := Lib.hid hfew
  obtain ⟨ix, hix⟩ := Int.eq_ofNat_of_zero_le (show 0 ≤ s - 16 by omega)
  have hixn : (s - 16).toNat = ix := by omega
  have hixi : ix < g.names.length := by omega
  have hzx : (0 : Int) ≤ ix := by omega
  have hzy : (ix : Int) < g.names.length := by omega
  have hn9 : g.names.length ≤ 8 := hn8.2
  rw [hix] at hN
  rw [hixn] at hSet
  clear hg hok hs hk hfew hb hn8
  replace hix := Lib.hid hix
  replace hixn := Lib.hid hixn
  unfold gval at *
  unfold gcells at *
  dsimp only at *
  go_enter Tryz.func21, Tryz.ntmps21
  go_upto_region 4 with (go_at_call 48; refine (hN.out _ ((hG0.2.1).mono hG0.2.2.size)).mono ?_; rintro e w1 ⟨rfl, hb1⟩)
  have hG1 := hG0.step hb1
  clear hG0 hb1
  obtain ⟨c0, c1, c2, c3, c4, c5⟩ := hG1.cells
  dsimp only at c1 c3 c5
  go_upto_region 5 with (go_at_call 34; refine (hA.out _ ((hG1.2.1).mono hG1.2.2.size)).mono ?_; rintro e w2 ⟨bo, fo, ss, fs, rfl, hS1, hS2, k1, k2, k3, k4, k5, k6, k7, k8, hb2⟩)
  have hG2 := hG1.step hb2
  obtain ⟨mb, hmb, z0, hM⟩ := hS2.at0 ix hixi
  have hmem := hSet.out ss fs k1 k2 k3 k4 k5 k6
  have hfit := setsFit_get k4 ix
  have hnd : (fs.getD ix []).Nodup := by
    rw [List.getD_eq_getElem?_getD]
    cases hh : fs[ix]? with
    | none => simp
    | some t => exact k8 t (List.mem_of_getElem? hh)
  clear hS1 hS2 k1 k2 k3 k4 k5 k6 k7 k8 hb2 hG1 c0 c1 c2 c3 c4 c5 hSet
  generalize fs.getD ix [] = S at *
  have hl6 : S.length ≤ 600 := hfew'.out S hnd fun y hy => (hmem y).1 hy
  have hlen := hM.len 3
  have hz1 : ¬ (600 : Int) < S.length := by omega
  have hL : Hid (FSet g s (lset S)) := Lib.hid ⟨lset_asc fun x hx => (hfit x hx).1, fun y => (lset_mem (k := 8) (fun x hx => (hfit x hx).1) y).trans (hmem y)⟩
  replace hmem := Lib.hid hmem
  replace hfit := Lib.hid hfit
  replace hnd := Lib.hid hnd
  have hM' := Lib.hid hM
  have hbW := Lib.hid hG2.2.2
  clear hM hG2
  go_wp2_with (go_at_call 37; refine (sorted_any mb S _ hM'.out (fun x hx => (hfit.out x hx).1) (by omega)).mono ?_; rintro e w3 ⟨v3, rfl, ho3, hb3⟩)
  go_ret2
  exact hP.out _ _ _ hL.out (ho3.mono hbW.out.size) (hbW.out.trans (hb3.mono hbW.out.size))
end Go.Proofs.YtnnkfgekiaaehaaGreat
