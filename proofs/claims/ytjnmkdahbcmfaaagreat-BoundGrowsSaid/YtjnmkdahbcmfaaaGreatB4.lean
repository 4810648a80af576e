/- Walks and plain laws, part 4 of 30: Maps of numbers to true, and a range over one; reach: filled, reached; (follow.set).sorted of an empty map; The parse of a grammar text, plainly: lexemes, the reader, the source, and the grammar of a source, as far as there is no fault; Slices of structs, as rows of cells: what reads as rows, what is owned, how one is pushed; The lexer of the reference (layer 4): Lexemes; The reader of the reference (layer 8): its box, ok, peek, take; Data in memory, whatever their types: strings, numbers, slices of rows of data; The reader of the reference (layer 8): must, next, name, has, rules; The reader of the reference (layer 8): rules, alternative; The reader of the reference (layer 8): rule; The reader of the reference (layer 8): known; The reader of the reference (layer 8): head; The grammar of a source (layer 9's reference): find, symbol; the grammar under way; The kit's rules; bound.Work and its reference where all is right: the walks; the reference's Image where all is right: the walk. Conditions: none beyond those that each theorem states. -/
import Derived.Test.YtjnmkdahbcmfaaaGreatB3
import Derived.Maps.Range
import Derived.WalkMore
import Derived.Deep.DeepCutAuto
import Derived.Deep.CutBlock
import Derived.Deep.LoopGhost
import Derived.BigQuiet
import Derived.Deep.RegionLaw
import Derived.Deep.RegionHeld3
import Derived.Laws.IdiomStrings
/- Maps of numbers to true, and a range over one. -/
namespace Go.Proofs.YtjnmkdahbcmfaaaGreat
open Go.ChangeShapes Go.WideShapes Go.ChangeAt Go.RowKit
open Go.ChangeMaps (heap_setBlock_same setBlock)
open Go.MapKept
set_option linter.unusedVariables false
set_option maxRecDepth 100000
def intKey : KeyEnc Int where
  K := 3
  enc := .int .i64
  ok n := (Lit.int .i64 n).wf = true
  keyed := Maps.int_keyed under3
  key := fun x hx => ⟨_, Maps.keyOf_int_mk under3 hx⟩
  inj x y h := by injection h
def IterK {α : Type} (E : KeyEnc α) (w : World) (b r : Nat) (s out : List α) : Prop :=
  ∃ (es : Array MapEntry) (clock since : Nat) (seen : Array Nat) (c0 : Nat), w.heap[b]? = some (.map es clock) ∧ (es.toList.map (·.key) = s.map E.enc ∧ (∀ e ∈ es.toList, e.val = .bool true) ∧ (∀ x ∈ s, E.ok x) ∧ s.Nodup ∧ Stamped es clock) ∧
    w.heap[r]? = some (.mapIter (some b) since seen c0) ∧ (∀ x ∈ es.toList, x.born < since) ∧ since ≤ c0 ∧ since ≤ clock ∧ (∀ e ∈ es.toList, ∀ x : α, E.ok x → e.key = E.enc x → (seen.contains e.born = true ↔ x ∈ out)) ∧ out.Nodup ∧ (∀ x ∈ out, x ∈ s)
theorem IterK.map {w : World} {b r : Nat} {α : Type} {E : KeyEnc α} {s out : List α} (h : IterK E w b r s out) : MapK E w b s := by
  obtain ⟨es, clock, since, seen, c0, hb, h1, _⟩ := h
  exact ⟨es, clock, hb, h1⟩
theorem mapk_range {α : Type} {E : KeyEnc α} {t : TypeId} (ht : Tryz.prog.underlying t = some (.map E.K 4)) {w : World} {b : Nat} {s : List α} (h : MapK E w b s) :
    ∃ w', (Instr.range t (.map (some b))).run Tryz.prog w = .ok (.pointer (some ⟨w.heap.size, 0, none⟩)) w' ∧ IterK E w' b w.heap.size s [] ∧ Below w.heap.size w w' := by
  obtain ⟨es, clock, hb, h1⟩ := h
  have hlt : b < w.heap.size := (Array.getElem?_eq_some_iff.1 hb).1
  refine ⟨_, run_range_map w t E.K 4 b es clock ht hb, ⟨es, clock, clock, #[], clock, ((MapKept.heap_alloc w _).2 b hlt).trans hb, h1, (MapKept.heap_alloc w _).1, h1.2.2.2.2.1, Nat.le_refl _, Nat.le_refl _, ?_, by simp, by simp⟩, (Below.refl _ _).alloc (Nat.le_refl _) _⟩
  intro e he x _ hx
  simp
theorem iterk_next {w : World} {b r : Nat} {α : Type} {E : KeyEnc α} {s out : List α} (h : IterK E w b r s out) (ty : TypeId) :
    ((∀ x ∈ s, x ∈ out) ∧ (Instr.next (.pointer (some ⟨r, 0, none⟩)) false ty).run Tryz.prog w = .ok (.tuple #[.bool false]) w) ∨
    ∃ x ∈ s, x ∉ out ∧ ∃ w' : World, (Instr.next (.pointer (some ⟨r, 0, none⟩)) false ty).run Tryz.prog w = .ok (.tuple #[.bool true, (E.enc x), .bool true]) w' ∧ IterK E w' b r s (out ++ [x]) ∧
      (Instr.entry (.pointer (some ⟨r, 0, none⟩))).run Tryz.prog w' = .ok (.tuple #[(E.enc x), .bool true]) w' ∧ w.grownBy w' (some r) ∧ w'.heap.size = w.heap.size := by
  obtain ⟨es, clock, since, seen, c0, hb, ⟨hk, hv, hw, hn, hst⟩, hr, hold, hsc, hsk, hin, hno, hsub⟩ := h
  rcases run_next_at (P := Tryz.prog) w ty r b since c0 seen es clock hr hb hold hsc with ⟨h0, hrun⟩ | ⟨e, he, w1, hal, hrun⟩
  · left
    refine ⟨fun x hx => ?_, hrun⟩
    have : (E.enc x) ∈ es.toList.map (·.key) := by rw [hk]; exact List.mem_map_of_mem hx
    obtain ⟨e, he, hee⟩ := List.mem_map.mp this
    exact (hin e he x (hw x hx) hee).mp (all_seen es seen h0 e he)
  · right
    obtain ⟨hem, hes⟩ := mem_left he
    have : e.key ∈ s.map E.enc := by rw [← hk]; exact List.mem_map_of_mem hem
    obtain ⟨x, hx, hxe⟩ := List.mem_map.mp this
    have hxo : x ∉ out := fun hm => by
      have := (hin e hem x (hw x hx) hxe.symm).mpr hm
      rw [hes] at this; cases this
    have hr1 : w1.heap[r]? = some (.mapIter (some b) since seen c0) := by rcases hal with rfl | rfl <;> exact hr
    have hb1 : w1.heap[b]? = some (.map es clock) := by rcases hal with rfl | rfl <;> exact hb
    have hset := heap_set (o' := .mapIter (some b) since (seen.push e.born) clock) hr1
    have hne : b ≠ r := fun h => by rw [h, hr] at hb; cases hb
    have hb' := (hset.2 b hne).trans hb1
    have hS := (stamped_iff es clock).1 hst
    refine ⟨x, hx, hxo, _, by rw [hrun, ← hxe, hv e hem], ⟨es, clock, since, seen.push e.born, clock, hb', ⟨hk, hv, hw, hn, hst⟩, hset.1, hold, hsk, hsk, ?_, ?_, ?_⟩, ?_, ?_, ?_⟩
    · intro e' he' y oky hy
      rw [contains_push, Bool.or_eq_true, hin e' he' y oky hy, List.mem_append]
      constructor
      · rintro (h | h)
        · exact .inl h
        · right
          have hbe : e'.born = e.born := by simpa using h
          have := born_inj hS.2.1 he' hem hbe
          rw [this] at hy
          rw [hy] at hxe
          simp [E.inj _ _ hxe.symm]
      · rintro (h | h)
        · exact .inl h
        · right
          have hyx : y = x := by simpa using h
          subst hyx
          have := entry_eq_of_key hS.2.2 he' hem (hy.trans hxe)
          simp [this]
    · rw [List.nodup_append]
      refine ⟨hno, by simp, ?_⟩
      intro a ha c hc
      have : c = x := by simpa using hc
      rw [this]; intro e; exact hxo (e ▸ ha)
    · intro y hy
      rcases List.mem_append.mp hy with hy | hy
      · exact hsub y hy
      · have : y = x := by simpa using hy
        rw [this]; exact hx
    · rw [run_entry_at _ r b since seen es clock e hset.1 hb' hem hS.2.1, ← hxe, hv e hem]
    · rcases hal with rfl | rfl <;> exact ⟨rfl, rfl, rfl, by simp [setBlock], fun i _ hi => hset.2 i (fun e1 => hi (by rw [e1]))⟩
    · rcases hal with rfl | rfl <;> simp [setBlock]
theorem IterK.grown {w w' : World} {b r : Nat} {α : Type} {E : KeyEnc α} {s out : List α} {row : Option Nat} (h : IterK E w b r s out) (hg : w.grownBy w' row) (hb : some b ≠ row) (hr : some r ≠ row) : IterK E w' b r s out := by
  obtain ⟨es, clock, since, seen, c0, h1, h2, h3, h4⟩ := h
  exact ⟨es, clock, since, seen, c0, (hg.block b (Array.getElem?_eq_some_iff.1 h1).1 hb).trans h1, h2, (hg.block r (Array.getElem?_eq_some_iff.1 h3).1 hr).trans h3, h4⟩
section
variable (w : World) {ops : Array Oper} {rest : List Oper} {o : Oper} {a : Act} {Q : Exit → Act → World → Prop} {α : Type} {E : KeyEnc α}
theorem wpList_rangeK {t : TypeId} (ht : Tryz.prog.underlying t = some (.map E.K 4)) (hg : o.guard = none) (m : Operand) (hop : o.op = Op.range t m) (b : Nat) (s : List α) (hm : a.eval m = .map (some b)) (h : MapK E w b s)
    (hK : ∀ w', IterK E w' b w.heap.size s [] → Below w.heap.size w w' → wpList Tryz.prog ops Q rest (a.put o.dst (.pointer (some ⟨w.heap.size, 0, none⟩))) w') : wpList Tryz.prog ops Q (o :: rest) a w := by
  refine wpList_plain hg fun K' hK' => ?_
  obtain ⟨w', hrun, r1, r2⟩ := mapk_range ht h
  unfold Oper.wp
  simp [execOp, hop, hm, hrun, Result.andThen]
  exact hK' _ _ (hK w' r1 r2)
theorem wpList_nextK (hg : o.guard = none) (it : Operand) (hop : o.op = Op.next it false) (b r : Nat) (s out : List α) (hit : a.eval it = .pointer (some ⟨r, 0, none⟩)) (h : IterK E w b r s out)
    (hDone : (∀ x ∈ s, x ∈ out) → wpList Tryz.prog ops Q rest (a.put o.dst (.tuple #[.bool false])) w)
    (hMore : ∀ (x : α) (w' : World), x ∈ s → x ∉ out → IterK E w' b r s (out ++ [x]) → (Instr.entry (.pointer (some ⟨r, 0, none⟩))).run Tryz.prog w' = .ok (.tuple #[(E.enc x), .bool true]) w' → w.grownBy w' (some r) → w'.heap.size = w.heap.size →
      wpList Tryz.prog ops Q rest (a.put o.dst (.tuple #[.bool true, (E.enc x), .bool true])) w') : wpList Tryz.prog ops Q (o :: rest) a w := by
  refine wpList_plain hg fun K' hK' => ?_
  unfold Oper.wp
  rcases iterk_next h o.type with ⟨h0, hrun⟩ | ⟨x, hx, hxo, w', hrun, r1, r2, r3, r4⟩
  · simp [execOp, hop, hit, hrun, Result.andThen]
    exact hK' _ _ (hDone h0)
  · simp [execOp, hop, hit, hrun, Result.andThen]
    exact hK' _ _ (hMore x w' hx hxo r1 r2 r3 r4)
end
end Go.Proofs.YtjnmkdahbcmfaaaGreat

/- reach: filled, reached. -/
namespace Go.Proofs.YtjnmkdahbcmfaaaGreat
open Go.ChangeShapes Go.WideShapes Go.ChangeAt Go.RowKit
set_option linter.unusedVariables false
set_option maxRecDepth 100000
theorem underMI : Tryz.prog.underlying 247 = some (.map 3 4) := by kernel_rfl
theorem sub_lenI {out s : List Int} (h1 : out.Nodup) (h2 : ∀ x ∈ out, x ∈ s) : out.length ≤ s.length := by
  induction out generalizing s with
  | nil => simp
  | cons x out ih =>
    obtain ⟨hx, hn⟩ := List.nodup_cons.1 h1
    have hm := h2 x List.mem_cons_self
    have := ih (s := s.erase x) hn (fun y hy => (List.mem_erase_of_ne (by rintro rfl; exact hx hy)).2 (h2 y (List.mem_cons_of_mem _ hy)))
    rw [List.length_erase_of_mem hm] at this
    have : 0 < s.length := List.length_pos_of_mem hm
    simp; omega
theorem MapK.nodup {α : Type} {E : KeyEnc α} {w : World} {b : Nat} {s : List α} (h : MapK E w b s) : s.Nodup := by
  obtain ⟨es, ck, h3, h4, h5, h6, h7, h8⟩ := h
  exact h7
def marksB (n : Nat) (l : List Int) : Array Value := ((List.range n).map fun i : Nat => Value.bool (decide ((16 : Int) + (i : Int) ∈ l))).toArray
theorem marks_put (n : Nat) (l : List Int) (ix : Nat) (x : Int) (hx : x = 16 + (ix : Int)) (hn : ix < n) : (marksB n l).setIfInBounds ix (.bool true) = marksB n (l ++ [x]) := by
  subst hx
  unfold marksB
  apply Array.ext_getElem?
  intro i
  rw [Array.getElem?_setIfInBounds]
  simp only [List.size_toArray, List.length_map, List.length_range, List.getElem?_toArray, List.getElem?_map]
  by_cases hi : ix = i
  · subst hi
    rw [if_pos rfl, if_pos hn, List.getElem?_range hn]; simp
  · rw [if_neg hi]
    cases hr : (List.range n)[i]? with
    | none => rfl
    | some k =>
      have hk : k = i := by
        obtain ⟨h1, h2⟩ := List.getElem?_eq_some_iff.1 hr
        rw [List.getElem_range] at h2; exact h2.symm
      subst hk
      have h1 : ¬ (k : Int) = (ix : Int) := by omega
      simp [h1]
theorem marks_same (n : Nat) {l l' : List Int} (h : ∀ x, x ∈ l ↔ x ∈ l') : marksB n l = marksB n l' := by
  unfold marksB
  congr 1
  apply List.map_congr_left
  intro i _
  simp [h]
theorem marks_nil (n : Nat) : ((List.range n).map fun _ => Value.bool false).toArray = marksB n [] := by simp [marksB]
theorem marks_get (n : Nat) (l : List Int) (ix : Nat) (h : ix < n) : (marksB n l)[ix]? = some (.bool (decide ((16 : Int) + (ix : Int) ∈ l))) := by
  unfold marksB
  rw [List.getElem?_toArray, List.getElem?_map, List.getElem?_range h]; rfl
theorem IterK.far {α : Type} {E : KeyEnc α} {w : World} {b r : Nat} {s out : List α} (h : IterK E w b r s out) (p : Addr) (u : Value) (h1 : b ≠ p.block) (h2 : r ≠ p.block) : IterK E (w.setCell p u) b r s out := by
  obtain ⟨es, clock, since, seen, c0, e1, e2, e3, e4⟩ := h
  exact ⟨es, clock, since, seen, c0, (Below.heap_setCell w p u b h1).trans e1, e2, (Below.heap_setCell w p u r h2).trans e3, e4⟩
theorem IterK.sub {α : Type} {E : KeyEnc α} {w : World} {b r : Nat} {s out : List α} (h : IterK E w b r s out) : out.Nodup ∧ ∀ x ∈ out, x ∈ s := by
  obtain ⟨es, clock, since, seen, c0, h1, h2, h3, h4, h5, h6, h7, h8, h9⟩ := h
  exact ⟨h8, h9⟩
def ClR (ps : List Pr) (T : Int → Prop) : Prop := ∀ p ∈ ps, T p.left → ∀ s ∈ p.right, 16 ≤ s → T s
set_option maxHeartbeats 4000000 in
theorem reached_any (g : Gr) (a : GA) (start : Int) (R : List Int) (w : World) (hg : GrR w w.heap.size g a) (hRb : ∀ s ∈ R, 16 ≤ s ∧ s < 16 + (g.names.length : Int)) (hRs : start ∈ R) (hcl : ClR g.prods (· ∈ R)) (hle : ∀ T : Int → Prop, T start → ClR g.prods T → ∀ s ∈ R, T s)
    (hnm : g.names.length ≤ 900) (hpm : g.prods.length ≤ 1000) (hpr : ∀ p ∈ g.prods, 0 ≤ p.left ∧ p.left ≤ 1000 ∧ p.right.length ≤ 1000 ∧ ∀ s ∈ p.right, 0 ≤ s ∧ s ≤ 1000)
    (hF : ∀ W, Calls Tryz.prog 232 #[.int .i64 g.names.length, .bool false] W fun e W' => ∃ b, e = .returned (.slice (some ⟨b, 0, none⟩) g.names.length g.names.length) ∧ W.heap.size ≤ b ∧ Blk W' b 4 ((List.range g.names.length).map fun _ => Value.bool false).toArray ∧ Below W.heap.size W W') :
    Calls Tryz.prog 206 #[gval g a, .int .i64 start] w fun e w' => ∃ b, e = .returned (.slice (some ⟨b, 0, none⟩) g.names.length g.names.length) ∧ w.heap.size ≤ b ∧ Blk w' b 4 ((List.range g.names.length).map fun i : Nat => Value.bool (decide ((16 : Int) + (i : Int) ∈ R))).toArray ∧ Below w.heap.size w w' := by
  refine opq fun RR hR => ?_
  have hmm := @run_makeMap Tryz.prog
  have hG := GQ.fr hg
  obtain ⟨ta, tc, na, nc, pa, pc⟩ := a
  unfold gval gcells at *
  dsimp only at *
  have hsw : (Lit.int .i64 start).wf = true := by have := hRb _ hRs; exact wf64 (by omega) (by omega)
  obtain ⟨w2, hrun, hM, ht⟩ := MapK.put underMI (mapk_new intKey (w.alloc (.cells #[.int .i64 g.k, .slice ta g.toks.length tc, .string g.sep, .slice na g.names.length nc, .int .i64 g.start, .slice pa g.prods.length pc] 25)) (w.heap.size + 1) (by simp)) start hsw
  simp only [List.not_mem_nil, if_false, List.nil_append] at hM
  replace hrun : (Instr.mapUpdate 247 (.map (some (w.heap.size + 1))) (.int .i64 start) (.bool true)).run Tryz.prog ((w.alloc (.cells #[.int .i64 g.k, .slice ta g.toks.length tc, .string g.sep, .slice na g.names.length nc, .int .i64 g.start, .slice pa g.prods.length pc] 25)).alloc (.map #[] 0)) = .ok () w2 := hrun
  have hG1 : GQ w g ⟨ta, tc, na, nc, pa, pc⟩ w2 := by
    have h1 := hG.out _ (bAlc (Below.refl _ _) (.map #[] 0))
    have hg2 := turned_grown ht
    have hb : Below (w.heap.size + 1) ((w.alloc (.cells #[.int .i64 g.k, .slice ta g.toks.length tc, .string g.sep, .slice na g.names.length nc, .int .i64 g.start, .slice pa g.prods.length pc] 25)).alloc (.map #[] 0)) w2 := (Below.refl _ _).grown hg2 (by simp) (fun k hk => by cases hk; exact Nat.le_refl _)
    exact ⟨h1.1.below hb (by omega), h1.2.1.below (hb.mono (by omega)), h1.2.2.trans (hb.mono (by omega))⟩
  go_enter Tryz.func206, Tryz.ntmps206
  go_wp2_with fail
  go_step3
  go_wp2_with fail
  clear hrun hG ht
  obtain ⟨sb, hsb⟩ : ∃ sb, sb = w.heap.size + 1 := ⟨_, rfl⟩
  rw [← hsb] at hM ⊢
  have hsb' : w.heap.size < sb := by omega
  clear hsb
  go_step3
  go_wp2_with fail
  go_loopg [] (R.length + 1) (fun gk wr => ∃ seen : List Int, Hid (seen.length + gk = R.length + 2) ∧ Hid (∀ s ∈ seen, s ∈ R) ∧ Hid (start ∈ seen) ∧ MapK intKey wr sb seen ∧ GQ w g ⟨ta, tc, na, nc, pa, pc⟩ wr)
  case atStart => exact ⟨[start], Lib.hid (by simp; omega), Lib.hid (fun s hs => by rw [List.mem_singleton.1 hs]; exact hRs), Lib.hid (by simp), hM, hG1⟩
  case round =>
    clear hM hG1
    obtain ⟨seen, hgk, hsR, hst, hM, hG⟩ := hrel
    obtain ⟨c0, c1, c2, c3, c4, c5⟩ := hG.cells
    dsimp only at c5
    go_wp2_with fail
    clear c0 c1 c2 c3 c4 c5
    generalize wr = wF at *
    go_loopg [18] g.prods.length (fun gk2 s18 wr => ∃ j : Nat, s18 = .int .i64 j ∧ Hid (j + gk2 = g.prods.length) ∧ MapK intKey wr sb seen ∧ GQ w g ⟨ta, tc, na, nc, pa, pc⟩ wr ∧ Hid (ClR (g.prods.take j) (· ∈ seen)))
    case atStart => exact ⟨0, rfl, Lib.hid (by omega), hM, hG, Lib.hid (by simp [ClR])⟩
    case round =>
      clear hM hG
      obtain ⟨j, rfl, hj, hM, hG, hcj⟩ := hrel
      by_cases hjn : j < g.prods.length
      · have hxi : g.prods[j]? = some g.prods[j] := List.getElem?_eq_getElem hjn
        obtain ⟨b, off, hA, hbt, x0, RA, rc, x1, hx2⟩ := hG.2.1.prods.get hxi
        dsimp only at hA
        subst hA
        have htk : Hid (g.prods.take (j + 1) = g.prods.take j ++ [g.prods[j]]) := Lib.hid (List.take_succ_eq_append_getElem hjn)
        have hpp := hpr _ (List.getElem_mem hjn)
        have hcp := Lib.hid (hcl _ (List.getElem_mem hjn))
        generalize g.prods[j] = p at *
        obtain ⟨hp1, hp2, hp3, hp4⟩ := hpp
        replace hp4 := Lib.hid hp4
        have hzj : (0 : Int) ≤ j := by omega
        have hzk : (j : Int) < g.prods.length := by omega
        replace hxi := Lib.hid hxi
        go_upto_region 5 with (fail)
        have hb4 := bAlc (Below.refl wr.heap.size wr) (.cells #[.int .i64 p.left, .slice RA p.right.length rc] 61)
        have hG4 := hG.step hb4
        have hM4 := hM.step hb4
        have q4 := Blk.new wr 61 #[.int .i64 p.left, .slice RA p.right.length rc]
        have hR4 := hx2.below (hb4.mono hG.2.2.size)
        clear hb4 hG hM hx2 x0 x1
        generalize wr.alloc (.cells #[.int .i64 p.left, .slice RA p.right.length rc] 61) = W4 at *
        generalize wr.heap.size = pb at *
        have d0 := q4.cell 0
        have d1 := q4.cell 1
        simp only [List.getElem?_toArray, List.getElem?_cons_zero, List.getElem?_cons_succ] at d0 d1
        go_wp2_with fail
        go_loopg [25] p.right.length (fun gk3 s25 wr => ∃ i : Nat, s25 = .int .i64 i ∧ Hid (i + gk3 = p.right.length) ∧ wr = W4 ∧ Hid (p.left ∈ seen → ∀ s ∈ p.right.take i, 16 ≤ s → s ∈ seen))
        case atStart => exact ⟨0, rfl, Lib.hid (by omega), rfl, Lib.hid (by simp)⟩
        case round =>
          obtain ⟨i, rfl, hi, hw4, hci⟩ := hrel
          subst hw4
          by_cases hin : i < p.right.length
          · have hsi : (ints p.right)[i]? = some (.int .i64 p.right[i]) := by simp [ints, hin]
            obtain ⟨lb, loff, rfl, hlb, y0⟩ := hR4.get hsi
            have htr : Hid (p.right.take (i + 1) = p.right.take i ++ [p.right[i]]) := Lib.hid (List.take_succ_eq_append_getElem hin)
            have hss := hp4.out _ (List.getElem_mem hin)
            have hsm := Lib.hid (List.getElem_mem hin)
            generalize p.right[i] = s at *
            replace hsi := Lib.hid hsi
            have hz1 : (0 : Int) ≤ i := by omega
            have hz2 : (i : Int) < p.right.length := by omega
            have hwl : (Lit.int .i64 p.left).wf = true := wf64 hp1 hp2
            have hws : (Lit.int .i64 s).wf = true := wf64 hss.1 hss.2
            have hl1 : (Instr.lookup 247 (.map (some sb)) (.int .i64 p.left) false).run Tryz.prog wr = .ok (.bool (decide (p.left ∈ seen))) wr := MapK.look underMI hM4 p.left hwl
            have hl2 : (Instr.lookup 247 (.map (some sb)) (.int .i64 s) false).run Tryz.prog wr = .ok (.bool (decide (s ∈ seen))) wr := MapK.look underMI hM4 s hws
            have step : (p.left ∈ seen → 16 ≤ s → s ∈ seen) → Hid (p.left ∈ seen → ∀ s ∈ p.right.take (i + 1), 16 ≤ s → s ∈ seen) := fun h => Lib.hid fun h1 s' hs' h16 => by
              rw [htr.out] at hs'
              rcases List.mem_append.1 hs' with hs' | hs'
              · exact hci.out h1 s' hs' h16
              · rw [List.mem_singleton.1 hs'] at h16 ⊢; exact h h1 h16
            by_cases hpl : p.left ∈ seen
            · rw [show decide (p.left ∈ seen) = true by simp [hpl]] at hl1
              replace hpl := Lib.hid hpl
              by_cases h16 : 16 ≤ s
              · by_cases hse : s ∈ seen
                · rw [show decide (s ∈ seen) = true by simp [hse]] at hl2
                  have hst2 := step (fun _ _ => hse)
                  clear step
                  replace hse := Lib.hid hse
                  go_wp2_with fail
                  go_roundg (p.right.length - (i + 1))
                  case measure => have := hi.out; omega
                  case rel => exact ⟨i + 1, by go_num, Lib.hid (by omega), rfl, hst2⟩
                · rw [show decide (s ∈ seen) = false by simp [hse]] at hl2
                  clear step
                  replace hse := Lib.hid hse
                  go_wp2_with (at_mapUpdate; refine wpList_layK (E := intKey) _ underMI rfl _ _ _ rfl sb seen (seen ++ [s]) s (.inr ⟨hse.out, rfl⟩) rfl rfl rfl hM4 hws ?_; intro w8 hM8 ht8)
                  have hsin := hcp.out (hsR.out _ hpl.out) s hsm.out h16
                  have hsub8 : ∀ x ∈ seen ++ [s], x ∈ R := fun x hx => by
                    rcases List.mem_append.1 hx with hx | hx
                    · exact hsR.out x hx
                    · rw [List.mem_singleton.1 hx]; exact hsin
                  have hl8 := sub_lenI hM8.nodup hsub8
                  rw [List.length_append, List.length_singleton] at hl8
                  go_roundg (R.length + 2 - (seen.length + 1))
                  case measure => have := hgk.out; omega
                  case rel => exact ⟨seen ++ [s], Lib.hid (by rw [List.length_append, List.length_singleton]; omega), Lib.hid hsub8, Lib.hid (List.mem_append_left _ hst.out), hM8, hG4.turned ht8 hsb'⟩
              · have h16' : s < 16 := by omega
                have hst2 := step (fun _ h => absurd h h16)
                clear step
                go_wp2_with fail
                go_roundg (p.right.length - (i + 1))
                case measure => have := hi.out; omega
                case rel => exact ⟨i + 1, by go_num, Lib.hid (by omega), rfl, hst2⟩
            · rw [show decide (p.left ∈ seen) = false by simp [hpl]] at hl1
              have hst2 := step (fun h _ => absurd h hpl)
              clear step
              replace hpl := Lib.hid hpl
              go_wp2_with fail
              go_roundg (p.right.length - (i + 1))
              case measure => have := hi.out; omega
              case rel => exact ⟨i + 1, by go_num, Lib.hid (by omega), rfl, hst2⟩
          · have hie : i = p.right.length := by have := hi.out; omega
            have hz3 : ¬ ((i : Int) < p.right.length) := by omega
            have hta : p.right.take i = p.right := by rw [hie]; exact List.take_length
            rw [hta] at hci
            clear hta
            replace hie := Lib.hid hie
            go_wp2_with fail
            go_roundg (g.prods.length - (j + 1))
            case measure => have := hj.out; omega
            case rel =>
              refine ⟨j + 1, by go_num, Lib.hid (by have := hj.out; omega), hM4, hG4, Lib.hid fun p' hp' => ?_⟩
              rw [htk.out] at hp'
              rcases List.mem_append.1 hp' with hp' | hp'
              · exact hcj.out p' hp'
              · rw [List.mem_singleton.1 hp']; exact fun h1 s h2 h3 => hci.out h1 s h2 h3
      · have hje : j = g.prods.length := by have := hj.out; omega
        have hz4 : ¬ ((j : Int) < g.prods.length) := by omega
        have htk : g.prods.take j = g.prods := by rw [hje]; exact List.take_length
        rw [htk] at hcj
        clear htk
        have hall := Lib.hid (hle _ hst.out hcj.out)
        replace hje := Lib.hid hje
        obtain ⟨c0, c1, c2, c3, c4, c5⟩ := hG.cells
        dsimp only at c3
        have hF' := Lib.hid hF
        go_wp2_with (first
          | (go_at_call 232; refine (hF'.out wr).mono ?_; rintro e w5 ⟨bo, rfl, a1, a2, a3⟩; have hM5 := hM.step a3; have hG5 := hG.step a3; have hbs : sb < bo := Nat.lt_of_lt_of_le hM.lt a1)
          | (at_range; refine wpList_rangeK _ underMI rfl _ rfl sb seen rfl hM5 ?_; intro w6 hit hb6; go_frame))
        have q6 := a2.step hb6
        rw [marks_nil] at q6
        have hbel : Below w.heap.size w w6 := bStep (bStep hG.2.2 a3) hb6
        have hwb : w.heap.size ≤ bo := Nat.le_trans hG.2.2.size a1
        have hbr : bo < w5.heap.size := a2.lt
        clear hM hG hM5 hG5 a1 a2 a3 hb6 c0 c1 c2 c3 c4 c5
        generalize w5.heap.size = r at *
        go_loopg [] seen.length (fun gk wr => ∃ done : List Int, Hid (done.length + gk = seen.length) ∧ IterK intKey wr sb r seen done ∧ Blk wr bo 4 (marksB g.names.length done) ∧ Below w.heap.size w wr)
        case atStart => exact ⟨[], Lib.hid (by simp), hit, q6, hbel⟩
        case round =>
          clear hit q6 hbel
          obtain ⟨done, hdl, hit, q, hbel⟩ := hrel
          go_wp2_with (first
            | (at_next; refine wpList_nextK _ rfl _ rfl sb r seen done rfl hit ?_ ?_)
            | go_in)
          · intro hal
            have hal' := Lib.hid hal
            clear hal
            have hds := Lib.hid hit.sub.2
            go_wp2_with fail
            refine hR.out _ _ ⟨bo, rfl, hwb, ?_, hbel⟩
            have := marks_same g.names.length (l := done) (l' := R) (fun x => ⟨fun h => hsR.out x (hds.out x h), fun h => hal'.out x (hall.out x h)⟩)
            unfold marksB at this q
            rw [← this]; exact q
          · intro x w2 hxs hxd hit2 hen hg2 hsz2
            have hq2 := q.grown hg2 (by simp; omega)
            have hbel2 := hbel.grown hg2 hbel.size (fun k hk => by cases hk; omega)
            obtain ⟨hx1, hx2⟩ := hRb x (hsR.out x hxs)
            obtain ⟨ix, hix⟩ := Int.eq_ofNat_of_zero_le (show 0 ≤ x - 16 by omega)
            have hixn : ix < g.names.length := by omega
            have hxe : Hid (x = 16 + (ix : Int)) := Lib.hid (by omega)
            have y0 : w2.cell? ⟨bo, ix, none⟩ = some (.bool (decide ((16 : Int) + (ix : Int) ∈ done))) := (hq2.cell ix).trans (marks_get _ _ _ hixn)
            have y1 := hq2.frozen ix
            generalize (decide ((16 : Int) + (ix : Int) ∈ done)) = bv at *
            have hln : Hid (done.length + 1 ≤ seen.length) := Lib.hid (by have := sub_lenI hit2.sub.1 hit2.sub.2; simpa using this)
            have hzx : (0 : Int) ≤ ix := by omega
            have hzy : (ix : Int) < g.names.length := by omega
            have zw : IntKind.i64.wrap (ix : Int) = ix := IntWalk.i64_in _ (by omega)
            replace hen : (Instr.entry (.pointer (some ⟨r, 0, none⟩))).run Tryz.prog w2 = .ok (.tuple #[.int .i64 x, .bool true]) w2 := hen
            replace hsz2 := Lib.hid hsz2
            go_wp2_with fail
            go_roundg (seen.length - (done.length + 1))
            case measure => have := hdl.out; have := hln.out; omega
            case rel =>
              refine ⟨done ++ [x], Lib.hid (by have := hln.out; rw [List.length_append, List.length_singleton]; omega), hit2.far _ _ (by show sb ≠ bo; omega) (by show r ≠ bo; omega), ?_, bSet hbel2 _ _ hwb⟩
              rw [← marks_put _ _ ix x hxe.out hixn]; exact hq2.put ix _
end Go.Proofs.YtjnmkdahbcmfaaaGreat

/- (follow.set).sorted of an empty map. -/
namespace Go.Proofs.YtjnmkdahbcmfaaaGreat
open Go.ChangeShapes Go.WideShapes Go.ChangeAt Go.RowKit
set_option linter.unusedVariables false
set_option maxRecDepth 100000
def RetN0 (w : World) (e : Ending) (w' : World) : Prop := e = .returned (.slice none 0 0) ∧ Below w.heap.size w w'
set_option maxHeartbeats 2000000 in
theorem sorted0_any (b : Nat) (s : List Lk) (w : World) (hm : MapK lookKey w b s) (hs : Hid (s = [])) : Calls Tryz.prog 272 #[.map (some b)] w (RetN0 w) := by
  have hP := Lib.hid (fun (w' : World) (h2 : Below w.heap.size w w') => (show RetN0 w (.returned (.slice none 0 0)) w' from ⟨rfl, h2⟩))
  have hS := Lib.hid sortfunc_any
  have hb := hm.lt
  go_enter Tryz.func272, Tryz.ntmps272
  go_wp2_with (at_range; refine wpList_range_look _ under67 rfl _ rfl b s rfl hm ?_; intro w1 hit hb1; go_frame)
  have hsz : w.heap.size < w1.heap.size := by
    obtain ⟨es, clock, since, seen, c0, h1, _, h3, _⟩ := hit
    exact (Array.getElem?_eq_some_iff.1 h3).1
  go_loopg [3] 0 (fun gk s3 wr => Hid (s3 = .slice none 0 0) ∧ IterL wr b w.heap.size s [] ∧ Below w.heap.size w wr ∧ w.heap.size < wr.heap.size)
  case atStart => exact ⟨Lib.hid rfl, hit, hb1, hsz⟩
  case round =>
    clear hit hb1 hsz
    obtain ⟨hu, hit, hbw, hsz⟩ := hrel
    have hX := hS.out [] u3 (w.heap.size + 1) wr (by simp) List.nodup_nil (by simp) (by rw [hu.out]; exact OwnL.nil _ _)
    go_wp2_with (first
      | (at_next; refine wpList_next_look _ rfl _ rfl b w.heap.size s [] rfl hit ?_ ?_)
      | go_in)
    · intro hall
      go_wp2_with (go_at_call 291; refine hX.mono ?_; rintro e w3 ⟨rfl, ho3, hg3, hl3⟩)
      go_ret
      rw [hu.out] at hg3 ⊢
      exact hP.out _ (hbw.grown hg3 (by omega) (fun k hk => by cases hk))
    · intro x w2 hxs
      rw [hs.out] at hxs
      cases hxs
end Go.Proofs.YtjnmkdahbcmfaaaGreat

/- The parse of a grammar text, plainly: lexemes, the reader, the source, and the grammar of a source, as far as there is no fault. -/
namespace Go.Proofs.YtjnmkdahbcmfaaaGreat
set_option linter.unusedVariables false
structure Lx where
  kind : Int
  text : ByteArray
  at' : Nat
abbrev Rule := ByteArray × List (List ByteArray)
def ruleText : List (Nat × Nat × ByteArray) := [
  (1, 1, ⟨#[83, 32, 61, 32, 97, 32, 83, 32, 124, 32, 59]⟩),
  (1, 2, ⟨#[83, 32, 61, 32, 97, 32, 84, 32, 124, 32, 59, 32, 84, 32, 61, 32, 98, 32, 83, 32, 59]⟩),
  (2, 2, ⟨#[83, 32, 61, 32, 97, 32, 84, 32, 124, 32, 59, 32, 84, 32, 61, 32, 98, 32, 83, 32, 59]⟩),
  (2, 2, ⟨#[83, 32, 61, 32, 97, 32, 124, 32, 97, 32, 98, 32, 59]⟩),
  (1, 3, ⟨#[83, 32, 61, 32, 97, 32, 83, 32, 98, 32, 124, 32, 99, 32, 59]⟩),
  (1, 3, ⟨#[83, 32, 61, 32, 84, 32, 85, 32, 59, 32, 84, 32, 61, 32, 97, 32, 84, 32, 124, 32, 59, 32, 85, 32, 61, 32, 98, 32, 85, 32, 124, 32, 99, 32, 59]⟩),
  (2, 3, ⟨#[83, 32, 61, 32, 97, 32, 97, 32, 83, 32, 124, 32, 97, 32, 98, 32, 124, 32, 99, 32, 59]⟩),
  (1, 3, ⟨#[83, 32, 61, 32, 97, 32, 84, 32, 99, 32, 59, 32, 84, 32, 61, 32, 98, 32, 84, 32, 124, 32, 85, 32, 59, 32, 85, 32, 61, 32, 59]⟩),
  (2, 3, ⟨#[83, 32, 61, 32, 84, 32, 99, 32, 124, 32, 98, 32, 83, 32, 59, 32, 84, 32, 61, 32, 98, 32, 97, 32, 124, 32, 59]⟩),
  (1, 2, ⟨#[83, 32, 61, 32, 97, 32, 83, 32, 83, 32, 124, 32, 98, 32, 59]⟩),
  (3, 2, ⟨#[83, 32, 61, 32, 97, 32, 97, 32, 97, 32, 124, 32, 97, 32, 97, 32, 98, 32, 83, 32, 124, 32, 98, 32, 59]⟩),
  (1, 4, ⟨#[83, 32, 61, 32, 97, 32, 76, 32, 98, 32, 59, 32, 76, 32, 61, 32, 69, 32, 77, 32, 59, 32, 77, 32, 61, 32, 99, 32, 69, 32, 77, 32, 124, 32, 59, 32, 69, 32, 61, 32, 100, 32, 124, 32, 83, 32, 59]⟩),
  (2, 2, ⟨#[83, 32, 61, 32, 84, 32, 84, 32, 59, 32, 84, 32, 61, 32, 97, 32, 98, 32, 124, 32, 98, 32, 97, 32, 59]⟩),
  (1, 1, ⟨#[83, 32, 61, 32, 97, 32, 59]⟩),
  (2, 3, ⟨#[83, 32, 61, 32, 97, 32, 84, 32, 124, 32, 97, 32, 98, 32, 99, 32, 59, 32, 84, 32, 61, 32, 97, 32, 124, 32, 99, 32, 83, 32, 59]⟩),
  (1, 2, ⟨#[83, 32, 61, 32, 84, 32, 85, 32, 84, 32, 59, 32, 84, 32, 61, 32, 59, 32, 85, 32, 61, 32, 97, 32, 85, 32, 98, 32, 124, 32, 59]⟩)]
def termsB : Nat → ByteArray
  | 0 => ⟨#[]⟩
  | n + 1 => termsB n ++ ⟨#[44, 32]⟩ ++ ⟨#[UInt8.ofNat (98 + n)]⟩
def textK (r : Nat) (a : Bool) : Nat := (ruleText.getD r (0, 0, ⟨#[]⟩)).1 + (if a = true ∧ (ruleText.getD r (0, 0, ⟨#[]⟩)).1 < 2 then 1 else 0)
def textT (r : Nat) (b : Bool) : Nat := (ruleText.getD r (0, 0, ⟨#[]⟩)).2.1 + (if b = true ∧ (ruleText.getD r (0, 0, ⟨#[]⟩)).2.1 < 4 then 1 else 0)
def textB (r : Nat) (a b : Bool) : ByteArray :=
  ⟨#[108, 111, 111, 107, 97, 104, 101, 97, 100, 32]⟩ ++ ⟨#[UInt8.ofNat (48 + textK r a)]⟩ ++ ⟨#[59, 32, 116, 111, 107, 101, 110, 32, 97]⟩ ++ termsB (textT r b - 1) ++ ⟨#[59, 32, 115, 101, 112, 97, 114, 97, 116, 111, 114, 32, 122, 59, 32, 115, 116, 97, 114, 116, 32, 83, 59, 32]⟩ ++ (ruleText.getD r (0, 0, ⟨#[]⟩)).2.2
end Go.Proofs.YtjnmkdahbcmfaaaGreat

/- Slices of structs, as rows of cells: what reads as rows, what is owned, how one is pushed. -/
namespace Go.Proofs.YtjnmkdahbcmfaaaGreat
open Go.ChangeShapes Go.WideShapes Go.ChangeAt Go.RowKit
set_option linter.unusedVariables false
def cellsR (l : List (Array Value)) : List Value := l.flatMap Array.toList
theorem cellsR_cons (x : Array Value) (l : List (Array Value)) : cellsR (x :: l) = x.toList ++ cellsR l := by simp [cellsR]
theorem cellsR_get {k : Nat} : ∀ {l : List (Array Value)}, (∀ x ∈ l, x.size = k) → ∀ {i : Nat} {x : Array Value}, l[i]? = some x → ∀ {j : Nat}, j < k → (cellsR l)[i * k + j]? = x[j]?
  | [], _, i, x, h, _, _ => by simp at h
  | y :: l, hk, 0, x, h, j, hj => by
    have : y = x := by simpa using h
    subst this
    have := hk y List.mem_cons_self
    rw [cellsR_cons, Nat.zero_mul, Nat.zero_add, List.getElem?_append_left (by rw [Array.length_toList]; omega)]
    simp
  | y :: l, hk, i + 1, x, h, j, hj => by
    have h1 := hk y List.mem_cons_self
    have h2 : (i + 1) * k = i * k + k := Nat.succ_mul i k
    rw [cellsR_cons, List.getElem?_append_right (by rw [Array.length_toList]; omega)]
    have := cellsR_get (fun x hx => hk x (List.mem_cons_of_mem _ hx)) (show l[i]? = some x by simpa using h) hj
    rw [← this]
    congr 1
    rw [Array.length_toList]
    omega
def RdR (w : World) (B : Nat) (k : Nat) (A : Option Addr) (n : Nat) (l : List (Array Value)) : Prop :=
  l.length = n ∧ (n = 0 ∨ ∃ b off, A = some ⟨b, off, none⟩ ∧ b < B ∧ ∀ (i : Nat) (x : Array Value), l[i]? = some x → ∀ j, j < k → w.cell? ⟨b, off + i * k + j, none⟩ = x[j]?)
theorem RdR.below {w w' : World} {B k : Nat} {A : Option Addr} {n : Nat} {l : List (Array Value)} (h : RdR w B k A n l) (hb : Below B w w') : RdR w' B k A n l := by
  refine ⟨h.1, ?_⟩
  rcases h.2 with h0 | ⟨b, off, rfl, hlt, hc⟩
  · exact .inl h0
  · exact .inr ⟨b, off, rfl, hlt, fun i x hx j hj => by rw [hb.cell (p := ⟨b, off + i * k + j, none⟩) hlt]; exact hc i x hx j hj⟩
theorem RdR.mono {w : World} {B B' k : Nat} {A : Option Addr} {n : Nat} {l : List (Array Value)} (h : RdR w B k A n l) (hb : B ≤ B') : RdR w B' k A n l := by
  refine ⟨h.1, ?_⟩
  rcases h.2 with h0 | ⟨b, off, rfl, hlt, hc⟩
  · exact .inl h0
  · exact .inr ⟨b, off, rfl, by omega, hc⟩
theorem RdR.nil (w : World) (B k : Nat) (A : Option Addr) : RdR w B k A 0 [] := ⟨rfl, .inl rfl⟩
theorem RdR.get {w : World} {B k : Nat} {A : Option Addr} {n : Nat} {l : List (Array Value)} (h : RdR w B k A n l) {i : Nat} {x : Array Value} (hi : l[i]? = some x) :
    ∃ b off, A = some ⟨b, off, none⟩ ∧ b < B ∧ ∀ j, j < k → w.cell? ⟨b, off + i * k + j, none⟩ = x[j]? := by
  have hlt := (List.getElem?_eq_some_iff.1 hi).1
  rcases h.2 with h0 | ⟨b, off, rfl, hb, hc⟩
  · have := h.1; omega
  · exact ⟨b, off, rfl, hb, hc i x hi⟩
def OwnR (w : World) (base : Nat) (e : TypeId) (k : Nat) (v : Value) (l : List (Array Value)) : Prop := w.ownsRow base e k v l.length (cellsR l) ∧ ∀ x ∈ l, x.size = k
theorem OwnR.reads {w : World} {base : Nat} {e : TypeId} {k : Nat} {v : Value} {l : List (Array Value)} (h : OwnR w base e k v l) : ∃ A c, v = .slice A l.length c ∧ RdR w w.heap.size k A l.length l ∧ l.length ≤ c ∧ c ≤ maxLen ∧ (∀ a, A = some a → base ≤ a.block) := by
  rcases h.1.2 with ⟨rfl, h0⟩ | ⟨g, cap, cur, rfl, hb, hg, hnc, hcm, hcs, ht⟩
  · refine ⟨none, 0, by rw [h0], ⟨rfl, .inl h0⟩, by omega, by simp [maxLen], by simp⟩
  · refine ⟨some ⟨g, 0, none⟩, cap, rfl, ⟨rfl, ?_⟩, hnc, hcm, by simp; exact hb⟩
    refine .inr ⟨g, 0, rfl, (Array.getElem?_eq_some_iff.1 hg).1, fun i x hx j hj => ?_⟩
    have hlt := (List.getElem?_eq_some_iff.1 hx).1
    have hlt2 : i * k + j < l.length * k := by
      have := Nat.mul_le_mul_right k (show i + 1 ≤ l.length by omega)
      rw [Nat.succ_mul] at this
      omega
    rw [cell_of_row w g _ cur e (0, 0) hg, ← cellsR_get h.2 hx hj, ← ht, List.getElem?_take, if_pos (by omega), Nat.zero_add]
    simp
theorem OwnR.nil (w : World) (base : Nat) (e : TypeId) (k : Nat) : OwnR w base e k (.slice none 0 0) [] := ⟨World.ownsRow_nil w base e k, by simp⟩
theorem OwnR.step {w w' : World} {base : Nat} {e : TypeId} {k : Nat} {v : Value} {l : List (Array Value)} (h : OwnR w base e k v l) (hb : Below w.heap.size w w') : OwnR w' base e k v l := by
  refine ⟨⟨h.1.1, ?_⟩, h.2⟩
  rcases h.1.2 with hn | ⟨g, cap, cur, rfl, hg0, hg, rest⟩
  · exact .inl hn
  · exact .inr ⟨g, cap, cur, rfl, hg0, (hb.block g (Array.getElem?_eq_some_iff.1 hg).1).trans hg, rest⟩
theorem OwnR.mono {w : World} {base b' : Nat} {e : TypeId} {k : Nat} {v : Value} {l : List (Array Value)} (h : OwnR w base e k v l) (hb : b' ≤ base) : OwnR w b' e k v l := by
  refine ⟨⟨h.1.1, ?_⟩, h.2⟩
  rcases h.1.2 with hn | ⟨g, cap, cur, rfl, hg0, hg, rest⟩
  · exact .inl hn
  · exact .inr ⟨g, cap, cur, rfl, by omega, hg, rest⟩
section
variable (w : World) {P : Program} {ops : Array Oper} {rest : List Oper} {o : Oper} {a : Act} {Q : Exit → Act → World → Prop}
end
end Go.Proofs.YtjnmkdahbcmfaaaGreat

/- The lexer of the reference (layer 4): Lexemes. -/
namespace Go.Proofs.YtjnmkdahbcmfaaaGreat
open Go.ChangeShapes Go.WideShapes Go.ChangeAt Go.RowKit
set_option linter.unusedVariables false
def Lx.row (x : Lx) : Array Value := #[.int .i64 x.kind, .string x.text, .int .i64 x.at']
theorem OwnR.far {w : World} {base : Nat} {e : TypeId} {k : Nat} {v : Value} {l : List (Array Value)} (h : OwnR w base e k v l) {p : Addr} (hp : p.block < base) (u : Value) : OwnR (w.setCell p u) base e k v l := by
  refine ⟨⟨h.1.1, ?_⟩, h.2⟩
  rcases h.1.2 with hn | ⟨g, cap, cur, rfl, hg0, hg, rest⟩
  · exact .inl hn
  · exact .inr ⟨g, cap, cur, rfl, hg0, (Below.heap_setCell w p u g (by omega)).trans hg, rest⟩
end Go.Proofs.YtjnmkdahbcmfaaaGreat

/- The reader of the reference (layer 8): its box, ok, peek, take. -/
namespace Go.Proofs.YtjnmkdahbcmfaaaGreat
open Go.ChangeShapes Go.WideShapes Go.ChangeAt Go.RowKit
set_option linter.unusedVariables false
def Keep (rb : Nat) (w w' : World) : Prop := Below rb w w' ∧ ∀ k, k < w.heap.size → k ≠ rb → w'.heap[k]? = w.heap[k]?
theorem Keep.refl (rb : Nat) (w : World) : Keep rb w w := ⟨Below.refl _ _, fun _ _ _ => rfl⟩
theorem Keep.trans {rb : Nat} {a b c : World} (h : Keep rb a b) (k : Keep rb b c) : Keep rb a c :=
  ⟨h.1.trans k.1, fun i hi hn => (k.2 i (Nat.lt_of_lt_of_le hi h.1.size) hn).trans (h.2 i hi hn)⟩
theorem Keep.of {rb : Nat} {w w' : World} (h : Below w.heap.size w w') (hr : rb < w.heap.size) : Keep rb w w' := ⟨h.mono (Nat.le_of_lt hr), fun k hk _ => h.block k hk⟩
theorem Keep.step {rb : Nat} {a b c : World} (h : Keep rb a b) (hr : rb < a.heap.size) (k : Below b.heap.size b c) : Keep rb a c := h.trans (Keep.of k (Nat.lt_of_lt_of_le hr h.1.size))
theorem Keep.set {rb : Nat} {a b : World} (h : Keep rb a b) (i : Nat) (u : Value) : Keep rb a (b.setCell ⟨rb, i, none⟩ u) :=
  h.trans ⟨Below.setCell (p := ⟨rb, i, none⟩) (Below.refl rb b) (Nat.le_refl rb) u, fun k _ hn => Below.heap_setCell _ _ _ _ hn⟩
theorem Keep.blk {rb : Nat} {w w' : World} (h : Keep rb w w') {g : Nat} {t : TypeId} {cs : Array Value} (q : Blk w g t cs) (hn : g ≠ rb) : Blk w' g t cs :=
  (h.2 g (Array.getElem?_eq_some_iff.1 q).1 hn).trans q
theorem Keep.below {rb B : Nat} {W0 w w' : World} (h : Keep rb w w') (hB : B ≤ rb) (k : Below B W0 w) : Below B W0 w' := k.trans (h.1.mono hB)
theorem Keep.own {rb : Nat} {w w' : World} (h : Keep rb w w') {base : Nat} {e : TypeId} {k : Nat} {v : Value} {l : List (Array Value)} (o : OwnR w base e k v l) (hb : rb < base) : OwnR w' base e k v l := by
  refine ⟨⟨o.1.1, ?_⟩, o.2⟩
  rcases o.1.2 with hn | ⟨g, cap, cur, rfl, hg0, hg, rest⟩
  · exact .inl hn
  · exact .inr ⟨g, cap, cur, rfl, hg0, (h.2 g (Array.getElem?_eq_some_iff.1 hg).1 (by omega)).trans hg, rest⟩
structure RS where
  text : ByteArray
  LA : Option Addr
  n : Nat
  c : Nat
  at' : Nat
  alts : Int
  k : Int
  T : Value
  sep : ByteArray
  start : ByteArray
  R : Value
abbrev RS.cells (r : RS) : Array Value := #[.string r.text, .slice r.LA r.n r.c, .int .i64 r.at', .int .i64 0, .int .i64 0, .int .i64 r.alts, .int .i64 r.k, r.T, .string r.sep, .string r.start, r.R]
def RBox (rb : Nat) (r : RS) (l : List Lx) (W : World) : Prop := Blk W rb 116 r.cells ∧ RdR W rb 3 r.LA r.n (l.map Lx.row) ∧ l.length = r.n ∧ r.n ≤ 2001
section
variable {rb : Nat} {r : RS} {l : List Lx} {W W' : World}
theorem RBox.lt (h : RBox rb r l W) : rb < W.heap.size := (Array.getElem?_eq_some_iff.1 h.1).1
theorem RBox.step (h : RBox rb r l W) (hb : Below W.heap.size W W') : RBox rb r l W' := ⟨h.1.step hb, h.2.1.below (hb.mono (Nat.le_of_lt h.lt)), h.2.2⟩
theorem RBox.get (h : RBox rb r l W) {i : Nat} {x : Lx} (hx : l[i]? = some x) : ∃ b off, r.LA = some ⟨b, off, none⟩ ∧ b < rb ∧ W.cell? ⟨b, off + i * 3, none⟩ = some (.int .i64 x.kind) ∧ W.cell? ⟨b, off + i * 3 + 1, none⟩ = some (.string x.text) ∧ W.cell? ⟨b, off + i * 3 + 2, none⟩ = some (.int .i64 x.at') := by
  obtain ⟨b, off, h1, h2, h3⟩ := h.2.1.get (x := x.row) (i := i) (by rw [List.getElem?_map, hx]; rfl)
  exact ⟨b, off, h1, h2, h3 0 (by omega), h3 1 (by omega), h3 2 (by omega)⟩
theorem RBox.cells (h : RBox rb r l W) : W.cell? ⟨rb, 0, none⟩ = some (.string r.text) ∧ W.cell? ⟨rb, 1, none⟩ = some (.slice r.LA r.n r.c) ∧ W.cell? ⟨rb, 2, none⟩ = some (.int .i64 r.at') ∧ W.cell? ⟨rb, 3, none⟩ = some (.int .i64 0) :=
  ⟨h.1.cell 0, h.1.cell 1, h.1.cell 2, h.1.cell 3⟩
theorem RBox.set (h : RBox rb r l W) {p : Addr} (hp : rb < p.block) (u : Value) : RBox rb r l (W.setCell p u) :=
  ⟨h.1.far (by omega) u, h.2.1.below (Below.setCell (Below.refl rb W) (Nat.le_of_lt hp) u), h.2.2⟩
theorem Keep.far {rb : Nat} {a b : World} (h : Keep rb a b) {p : Addr} (hp : a.heap.size ≤ p.block) (hr : rb ≤ p.block) (u : Value) : Keep rb a (b.setCell p u) :=
  ⟨h.1.trans (Below.setCell (Below.refl rb b) hr u), fun k hk hn => (Below.heap_setCell _ _ _ _ (by omega)).trans (h.2 k hk hn)⟩
end
end Go.Proofs.YtjnmkdahbcmfaaaGreat

/- Data in memory, whatever their types: strings, numbers, slices of rows of data. -/
namespace Go.Proofs.YtjnmkdahbcmfaaaGreat
open Go.ChangeShapes Go.WideShapes Go.ChangeAt Go.RowKit
set_option linter.unusedVariables false
inductive Dat : Type
  | one (v : Value)
  | sl (k : Nat) (rows : List (List Dat))
inductive RdX (w : World) (S : Nat → Prop) : Value → Dat → Prop
  | one (v : Value) : RdX w S v (.one v)
  | nil (A : Option Addr) (c k : Nat) (hc : c ≤ maxLen) : RdX w S (.slice A 0 c) (.sl k [])
  | sl (b off n c k : Nat) (rows : List (List Dat)) (us : Nat → Nat → Value) (hS : S b) (hl : rows.length = n) (hn : n ≤ c) (hc : c ≤ maxLen) (hk : ∀ r ∈ rows, r.length = k)
      (hcell : ∀ i r j x, rows[i]? = some r → r[j]? = some x → w.cell? ⟨b, off + i * k + j, none⟩ = some (us i j))
      (hin : ∀ i r j x, rows[i]? = some r → r[j]? = some x → RdX w S (us i j) x) : RdX w S (.slice (some ⟨b, off, none⟩) n c) (.sl k rows)
section
variable {w w' : World} {S S' : Nat → Prop} {v : Value} {d : Dat} {k : Nat} {rows : List (List Dat)}
theorem RdX.frame (h : RdX w S v d) (hS : ∀ b, S b → S' b) (hf : ∀ b o u, S b → w.cell? ⟨b, o, none⟩ = some u → w'.cell? ⟨b, o, none⟩ = some u) : RdX w' S' v d := by
  induction h with
  | one v => exact .one v
  | nil A c k hc => exact .nil A c k hc
  | sl b off n c k rows us h1 hl h2 h3 h4 h5 h6 ih => exact .sl b off n c k rows us (hS b h1) hl h2 h3 h4 (fun i r j x a b' => hf _ _ _ h1 (h5 i r j x a b')) ih
theorem RdX.mono (h : RdX w S v d) (hS : ∀ b, S b → S' b) : RdX w S' v d := h.frame hS fun _ _ _ _ h => h
theorem cellx_lt {b o : Nat} {u : Value} (h : w.cell? ⟨b, o, none⟩ = some u) : b < w.heap.size := block_lt_of_cell (a := ⟨b, o, none⟩) h
theorem RdX.step (h : RdX w S v d) (hb : Below w.heap.size w w') : RdX w' S v d :=
  h.frame (fun _ h => h) fun b o u hs hc => cell_later hb hc
theorem RdX.grown {row : Option Nat} (h : RdX w S v d) (hg : w.grownBy w' row) (hr : ∀ b, S b → row ≠ some b) : RdX w' S v d :=
  h.frame (fun _ h => h) fun b o u hs hc => by
    have := hg.block b (cellx_lt hc) (fun e => hr b hs e.symm)
    unfold World.cell? at hc ⊢
    simp only [this]
    exact hc
theorem RdX.set (h : RdX w S v d) {p : Addr} {u : Value} (hp : ¬ S p.block) : RdX (w.setCell p u) S v d :=
  h.frame (fun _ h => h) fun b o x hs hc => by
    have := Below.heap_setCell w p u b (fun e => hp (e ▸ hs))
    unfold World.cell? at hc ⊢
    simp only [this]
    exact hc
theorem RdX.shape (h : RdX w S v (.sl k rows)) : ∃ A c, v = .slice A rows.length c ∧ rows.length ≤ c ∧ c ≤ maxLen := by
  cases h with
  | nil A c k hc => exact ⟨A, c, rfl, Nat.zero_le _, hc⟩
  | sl b off n c k rows us h1 hl h2 h3 h4 h5 h6 => subst hl; exact ⟨_, c, rfl, h2, h3⟩
theorem RdX.get (h : RdX w S v (.sl k rows)) {i j : Nat} {r : List Dat} {x : Dat} (hi : rows[i]? = some r) (hj : r[j]? = some x) :
    ∃ b off c u, v = .slice (some ⟨b, off, none⟩) rows.length c ∧ S b ∧ w.cell? ⟨b, off + i * k + j, none⟩ = some u ∧ RdX w S u x := by
  cases h with
  | nil A c k hc => simp at hi
  | sl b off n c k rows us h1 hl h2 h3 h4 h5 h6 => subst hl; exact ⟨b, off, c, us i j, rfl, h1, h5 i r j x hi hj, h6 i r j x hi hj⟩
theorem RdX.eq {u : Value} (h : RdX w S v (.one u)) : v = u := by cases h; rfl
end
def strsV (l : List ByteArray) : Dat := .sl 1 (l.map fun s => [.one (.string s)])
def OwV (w : World) (base : Nat) (S : Nat → Prop) (e : TypeId) (k : Nat) (v : Value) (rows : List (List Dat)) : Prop :=
  ∃ us : List (Array Value), OwnR w base e k v us ∧ us.length = rows.length ∧ ∀ (i : Nat) (a : Array Value) (r : List Dat), us[i]? = some a → rows[i]? = some r → r.length = k ∧ ∀ (j : Nat) (u : Value) (x : Dat), a[j]? = some u → r[j]? = some x → RdX w (fun b => b < w.heap.size ∧ S b ∧ v.ownBlock ≠ some b) u x
section
variable {w w' : World} {base : Nat} {S S' : Nat → Prop} {e : TypeId} {k : Nat} {v : Value} {rows : List (List Dat)}
theorem OwV.nil (w : World) (base : Nat) (S : Nat → Prop) (e : TypeId) (k : Nat) : OwV w base S e k (.slice none 0 0) [] := ⟨[], OwnR.nil w base e k, rfl, by simp⟩
theorem OwV.frame (h : OwV w base S e k v rows) (hs : w.heap.size ≤ w'.heap.size) (hS : ∀ b, S b → S' b) (hv : ∀ g, v.ownBlock = some g → w'.heap[g]? = w.heap[g]?)
    (hf : ∀ b o u, S b → v.ownBlock ≠ some b → w.cell? ⟨b, o, none⟩ = some u → w'.cell? ⟨b, o, none⟩ = some u) : OwV w' base S' e k v rows := by
  obtain ⟨us, h1, h2, h3⟩ := h
  refine ⟨us, ⟨⟨h1.1.1, ?_⟩, h1.2⟩, h2, fun i a r ha hr => ?_⟩
  · rcases h1.1.2 with hn | ⟨g, cap, cur, rfl, hg0, hg, rest⟩
    · exact .inl hn
    · exact .inr ⟨g, cap, cur, rfl, hg0, (hv g rfl).trans hg, rest⟩
  · obtain ⟨h4, h5⟩ := h3 i a r ha hr
    exact ⟨h4, fun j u x hu hx => (h5 j u x hu hx).frame (fun b hb => ⟨by omega, hS b hb.2.1, hb.2.2⟩) fun b o u hb hc => hf b o u hb.2.1 hb.2.2 hc⟩
theorem OwV.lt (h : OwV w base S e k v rows) : ∀ g, v.ownBlock = some g → base ≤ g ∧ g < w.heap.size := by
  obtain ⟨us, h1, _⟩ := h
  exact own_in h1.1
theorem OwV.step (h : OwV w base S e k v rows) (hb : Below w.heap.size w w') : OwV w' base S e k v rows :=
  h.frame hb.size (fun _ h => h) (fun g hg => hb.block g (h.lt g hg).2) fun b o u _ _ hc => cell_later hb hc
theorem OwV.grown {row : Option Nat} (h : OwV w base S e k v rows) (hg : w.grownBy w' row) (hv : row ≠ v.ownBlock ∨ row = none) (hr : ∀ b, S b → row ≠ some b) : OwV w' base S e k v rows := by
  refine h.frame hg.size (fun _ h => h) (fun g hgo => ?_) fun b o u hs _ hc => ?_
  · refine hg.block g (h.lt g hgo).2 fun e => ?_
    rcases hv with hv | hv
    · exact hv (e.symm.trans hgo.symm)
    · rw [hv] at e; cases e
  · have := hg.block b (cellx_lt hc) (fun e => hr b hs e.symm)
    unfold World.cell? at hc ⊢
    simp only [this]
    exact hc
theorem OwV.set (h : OwV w base S e k v rows) {p : Addr} {u : Value} (hp : ¬ S p.block) (hv : v.ownBlock ≠ some p.block) : OwV (w.setCell p u) base S e k v rows := by
  refine h.frame (by simp) (fun _ h => h) (fun g hg => Below.heap_setCell w p u g (fun e => hv (by rw [hg, e]))) fun b o x hs _ hc => ?_
  have := Below.heap_setCell w p u b (fun e => hp (e ▸ hs))
  unfold World.cell? at hc ⊢
  simp only [this]
  exact hc
theorem OwV.mono {b' : Nat} (h : OwV w base S e k v rows) (hb : b' ≤ base) : OwV w b' S e k v rows := by
  obtain ⟨us, h1, h2⟩ := h
  exact ⟨us, h1.mono hb, h2⟩
theorem OwV.reads (h : OwV w base S e k v rows) : RdX w (fun b => b < w.heap.size ∧ (S b ∨ v.ownBlock = some b)) v (.sl k rows) := by
  obtain ⟨us, h1, h2, h3⟩ := h
  obtain ⟨A, c, rfl, h4, h5, h6, h7⟩ := h1.reads
  rcases h4.2 with h0 | ⟨b, off, rfl, hb, hcell⟩
  · have : rows = [] := List.eq_nil_of_length_eq_zero (by omega)
    subst this
    rw [h0]
    exact .nil _ _ _ h6
  · have hsz : ∀ (i : Nat) (r : List Dat), rows[i]? = some r → ∃ (a : Array Value), us[i]? = some a ∧ r.length = k ∧ a.size = k := by
      intro i r hr
      have hi := (List.getElem?_eq_some_iff.1 hr).1
      have hu : us[i]? = some us[i] := List.getElem?_eq_getElem (by omega)
      exact ⟨_, hu, (h3 i _ r hu hr).1, h1.2 _ (List.getElem_mem _)⟩
    refine RdX.sl b off _ c k rows (fun i j => ((us[i]?.getD #[])[j]?).getD undef) ⟨hb, .inr rfl⟩ h2.symm h5 h6 (fun r hr => ?_) (fun i r j x hr hx => ?_) fun i r j x hr hx => ?_
    · obtain ⟨i, hi⟩ := List.getElem?_of_mem hr
      obtain ⟨a, _, q, _⟩ := hsz i r hi
      exact q
    · obtain ⟨a, ha, q1, q2⟩ := hsz i r hr
      have hj := (List.getElem?_eq_some_iff.1 hx).1
      rw [hcell i a ha j (by omega), ha]
      simp only [Option.getD_some]
      rw [Array.getElem?_eq_getElem (by omega)]
      rfl
    · obtain ⟨a, ha, q1, q2⟩ := hsz i r hr
      have hj := (List.getElem?_eq_some_iff.1 hx).1
      have hu : a[j]? = some a[j] := Array.getElem?_eq_getElem (by omega)
      simp only [ha, Option.getD_some, hu]
      exact ((h3 i a r ha hr).2 j _ x hu hx).mono fun b' hb' => ⟨hb'.1, .inl hb'.2.1⟩
variable {P : Program} {ops : Array Oper} {rest : List Oper} {o : Oper} {a : Act} {K : Act → World → Prop} {Q : Exit → Act → World → Prop}
end
end Go.Proofs.YtjnmkdahbcmfaaaGreat

/- The reader of the reference (layer 8): must, next, name, has, rules. -/
namespace Go.Proofs.YtjnmkdahbcmfaaaGreat
open Go.ChangeShapes Go.WideShapes Go.ChangeAt Go.RowKit
set_option linter.unusedVariables false
theorem RdX.str {w : World} {S : Nat → Prop} {v : Value} {l : List ByteArray} (h : RdX w S v (strsV l)) {i : Nat} {s : ByteArray} (hi : l[i]? = some s) :
    ∃ b off c, v = .slice (some ⟨b, off, none⟩) l.length c ∧ S b ∧ w.cell? ⟨b, off + i, none⟩ = some (.string s) := by
  obtain ⟨b, off, c, u, h1, h2, h3, h4⟩ := h.get (i := i) (j := 0) (r := [.one (.string s)]) (by rw [List.getElem?_map, hi]; rfl) rfl
  rw [h4.eq, Nat.mul_one, Nat.add_zero] at h3
  exact ⟨b, off, c, by rw [h1, List.length_map], h2, h3⟩
section
variable {rb : Nat} {r : RS} {l : List Lx} {W W' : World}
end
end Go.Proofs.YtjnmkdahbcmfaaaGreat

/- The reader of the reference (layer 8): rules, alternative. -/
namespace Go.Proofs.YtjnmkdahbcmfaaaGreat
open Go.ChangeShapes Go.WideShapes Go.ChangeAt Go.RowKit
set_option linter.unusedVariables false
theorem Keep.then {rb : Nat} {a b c : World} (h : Keep rb a b) (hb : Below a.heap.size b c) (hr : rb ≤ a.heap.size) : Keep rb a c :=
  ⟨h.1.trans (hb.mono hr), fun k hk hn => (hb.block k hk).trans (h.2 k hk hn)⟩
theorem RBox.low {rb : Nat} {r : RS} {l : List Lx} {W W' : World} {B : Nat} (h : RBox rb r l W) (hb : Below B W W') (hB : rb < B) : RBox rb r l W' :=
  ⟨h.1.below hb hB, h.2.1.below (hb.mono (Nat.le_of_lt hB)), h.2.2⟩
def altV (a : List ByteArray) : List Dat := [strsV a]
def ruleV (r : Rule) : List Dat := [.one (.string r.1), .sl 1 (r.2.map altV)]
theorem RdX.len {w : World} {S : Nat → Prop} {v : Value} {α : Type} {l : List α} {f : α → List Dat} {k : Nat} (h : RdX w S v (.sl k (l.map f))) : ∃ A c, v = .slice A l.length c ∧ l.length ≤ c ∧ c ≤ maxLen := by
  obtain ⟨A, c, h1, h2, h3⟩ := h.shape
  rw [List.length_map] at h1 h2
  exact ⟨A, c, h1, h2, h3⟩
section
variable {rb : Nat} {r : RS} {l : List Lx} {W W' : World}
end
end Go.Proofs.YtjnmkdahbcmfaaaGreat

/- The reader of the reference (layer 8): rule. -/
namespace Go.Proofs.YtjnmkdahbcmfaaaGreat
open Go.ChangeShapes Go.WideShapes Go.ChangeAt Go.RowKit
set_option linter.unusedVariables false
def SB (rb : Nat) (r : RS) (l : List Lx) (ts : List ByteArray) (rs : List Rule) (W : World) : Prop :=
  RBox rb r l W ∧ RdX W (fun b => b < W.heap.size ∧ rb < b ∧ r.R.ownBlock ≠ some b) r.T (strsV ts) ∧ OwV W (rb + 1) (fun b => rb < b) 127 2 r.R (rs.map ruleV)
end Go.Proofs.YtjnmkdahbcmfaaaGreat

/- The reader of the reference (layer 8): known. -/
namespace Go.Proofs.YtjnmkdahbcmfaaaGreat
open Go.ChangeShapes Go.WideShapes Go.ChangeAt Go.RowKit
set_option linter.unusedVariables false
section
variable {rb : Nat} {r : RS} {l : List Lx} {W : World} {ts : List ByteArray} {rs : List Rule}
theorem SB.step {W' : World} (h : SB rb r l ts rs W) (hb : Below W.heap.size W W') : SB rb r l ts rs W' :=
  ⟨h.1.step hb, (h.2.1.step hb).mono fun b hb' => ⟨Nat.lt_of_lt_of_le hb'.1 hb.size, hb'.2⟩, h.2.2.step hb⟩
end
end Go.Proofs.YtjnmkdahbcmfaaaGreat

/- The reader of the reference (layer 8): head. -/
namespace Go.Proofs.YtjnmkdahbcmfaaaGreat
open Go.ChangeShapes Go.WideShapes Go.ChangeAt Go.RowKit
set_option linter.unusedVariables false
theorem Own1.far {w : World} {base : Nat} {e : TypeId} {v : Value} {l : List Value} (h : Own1 w base e v l) {p : Addr} (hp : p.block < base) (u : Value) : Own1 (w.setCell p u) base e v l := by
  refine ⟨h.1, ?_⟩
  rcases h.2 with hn | ⟨g, cap, cur, rfl, hg0, hg, rest⟩
  · exact .inl hn
  · exact .inr ⟨g, cap, cur, rfl, hg0, (Below.heap_setCell w p u g (by omega)).trans hg, rest⟩
section
variable {rb : Nat} {r : RS} {l : List Lx} {W : World}
end
end Go.Proofs.YtjnmkdahbcmfaaaGreat

/- The grammar of a source (layer 9's reference): find, symbol; the grammar under way. -/
namespace Go.Proofs.YtjnmkdahbcmfaaaGreat
open Go.ChangeShapes Go.WideShapes Go.ChangeAt Go.RowKit
set_option linter.unusedVariables false
def OS (g5 : Nat) (k : Int) (sep : ByteArray) (tv nv pv : Value) (st : Int) (toks names : List ByteArray) (ps : List Pr) (W1 W : World) : Prop :=
  Below W1.heap.size W1 W ∧ Blk W g5 25 #[.int .i64 k, tv, .string sep, nv, .int .i64 st, pv] ∧ Own1 W W1.heap.size 9 tv (strs toks) ∧ Own1 W W1.heap.size 9 nv (strs names) ∧ PsO W W1.heap.size pv ps ∧ W1.heap.size ≤ g5 ∧ (∀ k, nv.ownBlock = some k → tv.ownBlock ≠ some k)
section
variable {g5 : Nat} {k : Int} {sep : ByteArray} {tv nv pv : Value} {st : Int} {toks names : List ByteArray} {ps : List Pr} {W1 W W' : World}
theorem OS.step (h : OS g5 k sep tv nv pv st toks names ps W1 W) (hb : Below W.heap.size W W') : OS g5 k sep tv nv pv st toks names ps W1 W' := by
  obtain ⟨h1, h2, h3, h4, h5, h6, h7⟩ := h
  exact ⟨bStep h1 hb, h2.step hb, h3.step hb, h4.step hb, h5.step hb, h6, h7⟩
end
end Go.Proofs.YtjnmkdahbcmfaaaGreat

/- The kit's rules. -/
namespace Go.Proofs.YtjnmkdahbcmfaaaGreat
open Go.ChangeShapes Go.WideShapes Go.ChangeAt Go.RowKit
set_option linter.unusedVariables false
def rawT : List ByteArray := [
  ⟨#[49, 32, 49, 32, 83, 32, 61, 32, 97, 32, 83, 32, 124, 32, 59]⟩,
  ⟨#[49, 32, 50, 32, 83, 32, 61, 32, 97, 32, 84, 32, 124, 32, 59, 32, 84, 32, 61, 32, 98, 32, 83, 32, 59]⟩,
  ⟨#[50, 32, 50, 32, 83, 32, 61, 32, 97, 32, 84, 32, 124, 32, 59, 32, 84, 32, 61, 32, 98, 32, 83, 32, 59]⟩,
  ⟨#[50, 32, 50, 32, 83, 32, 61, 32, 97, 32, 124, 32, 97, 32, 98, 32, 59]⟩,
  ⟨#[49, 32, 51, 32, 83, 32, 61, 32, 97, 32, 83, 32, 98, 32, 124, 32, 99, 32, 59]⟩,
  ⟨#[49, 32, 51, 32, 83, 32, 61, 32, 84, 32, 85, 32, 59, 32, 84, 32, 61, 32, 97, 32, 84, 32, 124, 32, 59, 32, 85, 32, 61, 32, 98, 32, 85, 32, 124, 32, 99, 32, 59]⟩,
  ⟨#[50, 32, 51, 32, 83, 32, 61, 32, 97, 32, 97, 32, 83, 32, 124, 32, 97, 32, 98, 32, 124, 32, 99, 32, 59]⟩,
  ⟨#[49, 32, 51, 32, 83, 32, 61, 32, 97, 32, 84, 32, 99, 32, 59, 32, 84, 32, 61, 32, 98, 32, 84, 32, 124, 32, 85, 32, 59, 32, 85, 32, 61, 32, 59]⟩,
  ⟨#[50, 32, 51, 32, 83, 32, 61, 32, 84, 32, 99, 32, 124, 32, 98, 32, 83, 32, 59, 32, 84, 32, 61, 32, 98, 32, 97, 32, 124, 32, 59]⟩,
  ⟨#[49, 32, 50, 32, 83, 32, 61, 32, 97, 32, 83, 32, 83, 32, 124, 32, 98, 32, 59]⟩,
  ⟨#[51, 32, 50, 32, 83, 32, 61, 32, 97, 32, 97, 32, 97, 32, 124, 32, 97, 32, 97, 32, 98, 32, 83, 32, 124, 32, 98, 32, 59]⟩,
  ⟨#[49, 32, 52, 32, 83, 32, 61, 32, 97, 32, 76, 32, 98, 32, 59, 32, 76, 32, 61, 32, 69, 32, 77, 32, 59, 32, 77, 32, 61, 32, 99, 32, 69, 32, 77, 32, 124, 32, 59, 32, 69, 32, 61, 32, 100, 32, 124, 32, 83, 32, 59]⟩,
  ⟨#[50, 32, 50, 32, 83, 32, 61, 32, 84, 32, 84, 32, 59, 32, 84, 32, 61, 32, 97, 32, 98, 32, 124, 32, 98, 32, 97, 32, 59]⟩,
  ⟨#[49, 32, 49, 32, 83, 32, 61, 32, 97, 32, 59]⟩,
  ⟨#[50, 32, 51, 32, 83, 32, 61, 32, 97, 32, 84, 32, 124, 32, 97, 32, 98, 32, 99, 32, 59, 32, 84, 32, 61, 32, 97, 32, 124, 32, 99, 32, 83, 32, 59]⟩,
  ⟨#[49, 32, 50, 32, 83, 32, 61, 32, 84, 32, 85, 32, 84, 32, 59, 32, 84, 32, 61, 32, 59, 32, 85, 32, 61, 32, 97, 32, 85, 32, 98, 32, 124, 32, 59]⟩]
def rawA : Array Value := #[.string ⟨#[49, 32, 49, 32, 83, 32, 61, 32, 97, 32, 83, 32, 124, 32, 59]⟩, .string ⟨#[49, 32, 50, 32, 83, 32, 61, 32, 97, 32, 84, 32, 124, 32, 59, 32, 84, 32, 61, 32, 98, 32, 83, 32, 59]⟩, .string ⟨#[50, 32, 50, 32, 83, 32, 61, 32, 97, 32, 84, 32, 124, 32, 59, 32, 84, 32, 61, 32, 98, 32, 83, 32, 59]⟩, .string ⟨#[50, 32, 50, 32, 83, 32, 61, 32, 97, 32, 124, 32, 97, 32, 98, 32, 59]⟩, .string ⟨#[49, 32, 51, 32, 83, 32, 61, 32, 97, 32, 83, 32, 98, 32, 124, 32, 99, 32, 59]⟩, .string ⟨#[49, 32, 51, 32, 83, 32, 61, 32, 84, 32, 85, 32, 59, 32, 84, 32, 61, 32, 97, 32, 84, 32, 124, 32, 59, 32, 85, 32, 61, 32, 98, 32, 85, 32, 124, 32, 99, 32, 59]⟩, .string ⟨#[50, 32, 51, 32, 83, 32, 61, 32, 97, 32, 97, 32, 83, 32, 124, 32, 97, 32, 98, 32, 124, 32, 99, 32, 59]⟩, .string ⟨#[49, 32, 51, 32, 83, 32, 61, 32, 97, 32, 84, 32, 99, 32, 59, 32, 84, 32, 61, 32, 98, 32, 84, 32, 124, 32, 85, 32, 59, 32, 85, 32, 61, 32, 59]⟩, .string ⟨#[50, 32, 51, 32, 83, 32, 61, 32, 84, 32, 99, 32, 124, 32, 98, 32, 83, 32, 59, 32, 84, 32, 61, 32, 98, 32, 97, 32, 124, 32, 59]⟩, .string ⟨#[49, 32, 50, 32, 83, 32, 61, 32, 97, 32, 83, 32, 83, 32, 124, 32, 98, 32, 59]⟩, .string ⟨#[51, 32, 50, 32, 83, 32, 61, 32, 97, 32, 97, 32, 97, 32, 124, 32, 97, 32, 97, 32, 98, 32, 83, 32, 124, 32, 98, 32, 59]⟩, .string ⟨#[49, 32, 52, 32, 83, 32, 61, 32, 97, 32, 76, 32, 98, 32, 59, 32, 76, 32, 61, 32, 69, 32, 77, 32, 59, 32, 77, 32, 61, 32, 99, 32, 69, 32, 77, 32, 124, 32, 59, 32, 69, 32, 61, 32, 100, 32, 124, 32, 83, 32, 59]⟩, .string ⟨#[50, 32, 50, 32, 83, 32, 61, 32, 84, 32, 84, 32, 59, 32, 84, 32, 61, 32, 97, 32, 98, 32, 124, 32, 98, 32, 97, 32, 59]⟩, .string ⟨#[49, 32, 49, 32, 83, 32, 61, 32, 97, 32, 59]⟩, .string ⟨#[50, 32, 51, 32, 83, 32, 61, 32, 97, 32, 84, 32, 124, 32, 97, 32, 98, 32, 99, 32, 59, 32, 84, 32, 61, 32, 97, 32, 124, 32, 99, 32, 83, 32, 59]⟩, .string ⟨#[49, 32, 50, 32, 83, 32, 61, 32, 84, 32, 85, 32, 84, 32, 59, 32, 84, 32, 61, 32, 59, 32, 85, 32, 61, 32, 97, 32, 85, 32, 98, 32, 124, 32, 59]⟩]
theorem rawA_get (r : Nat) (h : r < 16) : rawA[r]? = some (.string (rawT.getD r ⟨#[]⟩)) := by
  rcases (show r = 0 ∨ r = 1 ∨ r = 2 ∨ r = 3 ∨ r = 4 ∨ r = 5 ∨ r = 6 ∨ r = 7 ∨ r = 8 ∨ r = 9 ∨ r = 10 ∨ r = 11 ∨ r = 12 ∨ r = 13 ∨ r = 14 ∨ r = 15 by omega) with rfl | rfl | rfl | rfl | rfl | rfl | rfl | rfl | rfl | rfl | rfl | rfl | rfl | rfl | rfl | rfl <;> rfl
set_option maxRecDepth 100000 in
theorem raw_facts : ∀ r, r < 16 → 4 ≤ (rawT.getD r ⟨#[]⟩).size ∧ (rawT.getD r ⟨#[]⟩).size ≤ 100 ∧ byteAt (rawT.getD r ⟨#[]⟩) 0 = 48 + ((ruleText.getD r (0, 0, ⟨#[]⟩)).1 : Int) ∧ byteAt (rawT.getD r ⟨#[]⟩) 2 = 48 + ((ruleText.getD r (0, 0, ⟨#[]⟩)).2.1 : Int) ∧ (rawT.getD r ⟨#[]⟩).extract 4 (rawT.getD r ⟨#[]⟩).size = (ruleText.getD r (0, 0, ⟨#[]⟩)).2.2 ∧ (ruleText.getD r (0, 0, ⟨#[]⟩)).1 ≤ 3 ∧ 1 ≤ (ruleText.getD r (0, 0, ⟨#[]⟩)).1 ∧ (ruleText.getD r (0, 0, ⟨#[]⟩)).2.1 ≤ 4 ∧ 1 ≤ (ruleText.getD r (0, 0, ⟨#[]⟩)).2.1 := by decide +kernel
set_option maxRecDepth 100000 in
set_option maxHeartbeats 4000000 in
theorem kitrules_any (n : Int) (r : Nat) (w : World) (wn : (Lit.int .i64 n).wf = true) (hr : n % 16 = r) (hr16 : r < 16) :
    Calls Tryz.prog 76 #[.int .i64 n] w fun e w' => e = .returned (.tuple #[.int .i64 ((ruleText.getD r (0, 0, ⟨#[]⟩)).1 : Nat), .int .i64 ((ruleText.getD r (0, 0, ⟨#[]⟩)).2.1 : Nat), .string (ruleText.getD r (0, 0, ⟨#[]⟩)).2.2]) ∧ Below w.heap.size w w' := by
  obtain ⟨h4, h100, hk, ht, hx, k3, k1, t4, t1⟩ := raw_facts r hr16
  have hM := Lib.hid (fun W => mod_any n 16 W wn (by omega) (by omega))
  rw [hr] at hM
  have hcell := rawA_get r hr16
  have q : Blk (w.alloc (.cells rawA 9)) w.heap.size 9 rawA := Blk.new _ _ _
  have hb : Below w.heap.size w (w.alloc (.cells rawA 9)) := bAlc (Below.refl _ _) _
  have hc := q.cell r
  rw [hcell] at hc
  generalize rawT.getD r ⟨#[]⟩ = s at *
  generalize ruleText.getD r (0, 0, ⟨#[]⟩) = t at *
  obtain ⟨tk, tt, tx⟩ := t
  dsimp only at hk ht hx k3 k1 t4 t1 ⊢
  unfold rawA at q hb hc
  go_enter Tryz.func76, Tryz.ntmps76
  go_upto_region 2 with (fail)
  generalize w.alloc (.cells #[.string ⟨#[49, 32, 49, 32, 83, 32, 61, 32, 97, 32, 83, 32, 124, 32, 59]⟩, .string ⟨#[49, 32, 50, 32, 83, 32, 61, 32, 97, 32, 84, 32, 124, 32, 59, 32, 84, 32, 61, 32, 98, 32, 83, 32, 59]⟩, .string ⟨#[50, 32, 50, 32, 83, 32, 61, 32, 97, 32, 84, 32, 124, 32, 59, 32, 84, 32, 61, 32, 98, 32, 83, 32, 59]⟩, .string ⟨#[50, 32, 50, 32, 83, 32, 61, 32, 97, 32, 124, 32, 97, 32, 98, 32, 59]⟩, .string ⟨#[49, 32, 51, 32, 83, 32, 61, 32, 97, 32, 83, 32, 98, 32, 124, 32, 99, 32, 59]⟩, .string ⟨#[49, 32, 51, 32, 83, 32, 61, 32, 84, 32, 85, 32, 59, 32, 84, 32, 61, 32, 97, 32, 84, 32, 124, 32, 59, 32, 85, 32, 61, 32, 98, 32, 85, 32, 124, 32, 99, 32, 59]⟩, .string ⟨#[50, 32, 51, 32, 83, 32, 61, 32, 97, 32, 97, 32, 83, 32, 124, 32, 97, 32, 98, 32, 124, 32, 99, 32, 59]⟩, .string ⟨#[49, 32, 51, 32, 83, 32, 61, 32, 97, 32, 84, 32, 99, 32, 59, 32, 84, 32, 61, 32, 98, 32, 84, 32, 124, 32, 85, 32, 59, 32, 85, 32, 61, 32, 59]⟩, .string ⟨#[50, 32, 51, 32, 83, 32, 61, 32, 84, 32, 99, 32, 124, 32, 98, 32, 83, 32, 59, 32, 84, 32, 61, 32, 98, 32, 97, 32, 124, 32, 59]⟩, .string ⟨#[49, 32, 50, 32, 83, 32, 61, 32, 97, 32, 83, 32, 83, 32, 124, 32, 98, 32, 59]⟩, .string ⟨#[51, 32, 50, 32, 83, 32, 61, 32, 97, 32, 97, 32, 97, 32, 124, 32, 97, 32, 97, 32, 98, 32, 83, 32, 124, 32, 98, 32, 59]⟩, .string ⟨#[49, 32, 52, 32, 83, 32, 61, 32, 97, 32, 76, 32, 98, 32, 59, 32, 76, 32, 61, 32, 69, 32, 77, 32, 59, 32, 77, 32, 61, 32, 99, 32, 69, 32, 77, 32, 124, 32, 59, 32, 69, 32, 61, 32, 100, 32, 124, 32, 83, 32, 59]⟩, .string ⟨#[50, 32, 50, 32, 83, 32, 61, 32, 84, 32, 84, 32, 59, 32, 84, 32, 61, 32, 97, 32, 98, 32, 124, 32, 98, 32, 97, 32, 59]⟩, .string ⟨#[49, 32, 49, 32, 83, 32, 61, 32, 97, 32, 59]⟩, .string ⟨#[50, 32, 51, 32, 83, 32, 61, 32, 97, 32, 84, 32, 124, 32, 97, 32, 98, 32, 99, 32, 59, 32, 84, 32, 61, 32, 97, 32, 124, 32, 99, 32, 83, 32, 59]⟩, .string ⟨#[49, 32, 50, 32, 83, 32, 61, 32, 84, 32, 85, 32, 84, 32, 59, 32, 84, 32, 61, 32, 59, 32, 85, 32, 61, 32, 97, 32, 85, 32, 98, 32, 124, 32, 59]⟩] 9) = W1 at *
  clear q
  have hz0 : (0 : Int) ≤ r := by omega
  have hz1 : (r : Int) < 16 := by omega
  go_upto_region 3 with (go_at_call 7; refine (hM.out _).mono ?_; clear hM; rintro e w2 ⟨rfl, rfl⟩)
  clear hc hcell
  have hb0 := (byteAt_get s 0 (by omega)).symm
  have hb2 := (byteAt_get s 2 (by omega)).symm
  rw [hk] at hb0
  rw [ht] at hb2
  replace hk := Lib.hid hk
  replace ht := Lib.hid ht
  have hz4 : (4 : Int) ≤ s.size := by omega
  have hz5 : (s.size : Int) ≤ 100 := by omega
  have hz6 : (1 : Int) ≤ tk := by omega
  have hz7 : (tk : Int) ≤ 3 := by omega
  have hz8 : (1 : Int) ≤ tt := by omega
  have hz9 : (tt : Int) ≤ 4 := by omega
  have e1 : (48 + (tk : Int) - 48) = tk := by omega
  have e2 : (48 + (tt : Int) - 48) = tt := by omega
  go_region
  go_wp2_with fail
  go_ret3
  exact ⟨rfl, bDrw hb⟩
theorem conv1x (W : World) (b : UInt8) (nb : Int) (hb : nb = (b.toNat : Int)) : (convert 123 9 (.slice (some ⟨W.heap.size, 0, none⟩) 1 1)).run Tryz.prog (W.alloc (.cells #[.int .u8 nb] 5)) = .ok (.string ⟨#[b]⟩) (W.alloc (.cells #[.int .u8 nb] 5)) := by
  subst hb
  refine run_convert_bytes_back (W.alloc (.cells #[.int .u8 (b.toNat : Int)] 5)) 123 9 5 ⟨W.heap.size, 0, none⟩ 1 [b] (by kernel_rfl) (by kernel_rfl) (by kernel_rfl) ?_
  intro i hi
  have : i = 0 := by simp at hi; omega
  subst this
  have e : (⟨W.heap.size, 0, none⟩ : Addr).add 0 = ⟨W.heap.size, 0, none⟩ := by simp [Addr.add]
  rw [e, (Blk.new W 5 #[.int .u8 (b.toNat : Int)]).cell 0]
  rfl
def txR (n : Int) : Nat := (n % 16).toNat
def txM (n : Int) : Int := n % 1099511627776 / 16
def txA (n : Int) : Bool := decide (txM n % 3 = 2)
def txB (n : Int) : Bool := decide (txM n / 3 % 4 = 3)
theorem terms_assoc (X : ByteArray) (n : Nat) : X ++ termsB (n + 1) = X ++ termsB n ++ ⟨#[44, 32]⟩ ++ ⟨#[UInt8.ofNat (98 + n)]⟩ := by
  show X ++ (termsB n ++ ⟨#[44, 32]⟩ ++ ⟨#[UInt8.ofNat (98 + n)]⟩) = _
  rw [← ByteArray.append_assoc, ← ByteArray.append_assoc]
set_option maxRecDepth 100000 in
set_option maxHeartbeats 4000000 in
theorem text_any (n : Int) (w : World) (wn : (Lit.int .i64 n).wf = true) :
    Calls Tryz.prog 47 #[.int .i64 n] w fun e w' => e = .returned (.string (textB (txR n) (txA n) (txB n))) ∧ Below w.heap.size w w' := by
  have hr16 : txR n < 16 := by unfold txR; omega
  have hr : n % 16 = (txR n : Int) := by unfold txR; omega
  obtain ⟨h4, h100, hk, ht, hx, k3, k1, t4, t1⟩ := raw_facts (txR n) hr16
  have hT := Lib.hid (fun W => kitrules_any n (txR n) W wn hr hr16)
  have hM := Lib.hid (fun W => mod_any n 1099511627776 W wn (by omega) (by omega))
  obtain ⟨K, hK⟩ : ∃ K : Nat, K = textK (txR n) (txA n) := ⟨_, rfl⟩
  obtain ⟨T, hTT⟩ : ∃ T : Nat, T = textT (txR n) (txB n) := ⟨_, rfl⟩
  have hR : textB (txR n) (txA n) (txB n) = ⟨#[108, 111, 111, 107, 97, 104, 101, 97, 100, 32]⟩ ++ ⟨#[UInt8.ofNat (48 + K)]⟩ ++ ⟨#[59, 32, 116, 111, 107, 101, 110, 32, 97]⟩ ++ termsB (T - 1) ++ ⟨#[59, 32, 115, 101, 112, 97, 114, 97, 116, 111, 114, 32, 122, 59, 32, 115, 116, 97, 114, 116, 32, 83, 59, 32]⟩ ++ (ruleText.getD (txR n) (0, 0, ⟨#[]⟩)).2.2 := by
    rw [hK, hTT]; rfl
  unfold textK at hK
  unfold textT at hTT
  have hmb : 0 ≤ n % 1099511627776 ∧ n % 1099511627776 < 1099511627776 := by omega
  have hM0 : txM n = n % 1099511627776 / 16 := rfl
  have hA : txA n = decide (txM n % 3 = 2) := rfl
  have hB : txB n = decide (txM n / 3 % 4 = 3) := rfl
  generalize txA n = a at *
  generalize txB n = b at *
  generalize txR n = r at *
  generalize ruleText.getD r (0, 0, ⟨#[]⟩) = t at *
  generalize textB r a b = R at *
  obtain ⟨tk, tt, tx⟩ := t
  dsimp only at hR hT hK hTT k3 k1 t4 t1
  have htx : tx.size ≤ 100 := by
    have hx2 : (rawT.getD r ⟨#[]⟩).extract 4 (rawT.getD r ⟨#[]⟩).size = tx := hx
    rw [← hx2, ByteArray.size_extract]; omega
  clear h4 h100 hk ht hx hr hr16
  replace hR := Lib.hid hR
  have hz6 : (1 : Int) ≤ tk := by omega
  have hz7 : (tk : Int) ≤ 3 := by omega
  have hz8 : (1 : Int) ≤ tt := by omega
  have hz9 : (tt : Int) ≤ 4 := by omega
  go_enter Tryz.func47, Tryz.ntmps47
  go_upto_region 3 with (first
    | (go_at_call 76; refine (hT.out _).mono ?_; clear hT; rintro e w1 ⟨rfl, hb1⟩)
    | (go_at_call 7; refine (hM.out _).mono ?_; clear hM; rintro e w2 ⟨rfl, rfl⟩))
  have hmm : 0 ≤ txM n := by rw [hM0]; omega
  have hmb2 : txM n ≤ 1099511627776 := by rw [hM0]; omega
  rw [← hM0]
  generalize txM n = m at *
  replace hM0 := Lib.hid hM0
  clear hmb
  have hm3 : 0 ≤ m % 3 := by omega
  have hmd : 0 ≤ m / 3 ∧ m / 3 ≤ 1099511627776 := by omega
  go_cut [24] (fun s24 wx => s24 = .bool (a && decide (tk < 2)) ∧ wx = w1)
  case first =>
    have hd : Hid ((m % 3 == 2) = a) := Lib.hid (by rw [hA]; rfl)
    by_cases h2 : tk < 2
    · have h2i : decide ((tk : Int) < 2) = true := decide_eq_true (by omega)
      have h2n : decide (tk < 2) = true := decide_eq_true h2
      have hdo := hd.out
      replace hA := Lib.hid hA
      cases a
      · go_wp2_with fail
        go_meet
        exact ⟨by simp, rfl⟩
      · go_wp2_with fail
        go_meet
        exact ⟨by simp [h2], rfl⟩
    · have h2i : decide ((tk : Int) < 2) = false := decide_eq_false (by omega)
      have h2n : decide (tk < 2) = false := decide_eq_false h2
      have hdo := hd.out
      replace hA := Lib.hid hA
      cases a
      · go_wp2_with fail
        go_meet
        exact ⟨by simp, rfl⟩
      · go_wp2_with fail
        go_meet
        exact ⟨by simp [h2], rfl⟩
  case rest =>
    obtain ⟨rfl, rfl⟩ := hcut
    have hKa : K = tk + (if (a && decide (tk < 2)) = true then 1 else 0) := by rw [hK]; simp
    generalize (a && decide (tk < 2)) = ka at *
    replace hK := Lib.hid hK
    go_upto_if 24 with (fail)
    go_cut [3] (fun s3 wx => s3 = .int .i64 (K : Nat) ∧ wx = wc)
    case first =>
      have hKo := Lib.hid hKa
      clear hKa
      cases ka
      · go_wp2_with fail
        go_meet
        exact ⟨by rw [hKo.out]; simp, rfl⟩
      · go_wp2_with fail
        go_meet
        exact ⟨by rw [hKo.out]; simp, rfl⟩
    case rest =>
      obtain ⟨rfl, rfl⟩ := hcut
      have hK4 : K ≤ 4 := by rw [hKa]; split <;> omega
      replace hKa := Lib.hid hKa
      go_upto_region 5 with (fail)
      go_cut [34] (fun s34 wx => s34 = .bool (b && decide (tt < 4)) ∧ wx = wc)
      case first =>
        have hd : Hid ((m / 3 % 4 == 3) = b) := Lib.hid (by rw [hB]; rfl)
        by_cases h2 : tt < 4
        · have h2i : decide ((tt : Int) < 4) = true := decide_eq_true (by omega)
          have h2n : decide (tt < 4) = true := decide_eq_true h2
          have hdo := hd.out
          replace hB := Lib.hid hB
          cases b
          · go_wp2_with fail
            go_meet
            exact ⟨by simp, rfl⟩
          · go_wp2_with fail
            go_meet
            exact ⟨by simp [h2], rfl⟩
        · have h2i : decide ((tt : Int) < 4) = false := decide_eq_false (by omega)
          have h2n : decide (tt < 4) = false := decide_eq_false h2
          have hdo := hd.out
          replace hB := Lib.hid hB
          cases b
          · go_wp2_with fail
            go_meet
            exact ⟨by simp, rfl⟩
          · go_wp2_with fail
            go_meet
            exact ⟨by simp [h2], rfl⟩
      case rest =>
        obtain ⟨rfl, rfl⟩ := hcut
        have hTb : T = tt + (if (b && decide (tt < 4)) = true then 1 else 0) := by rw [hTT]; simp
        generalize (b && decide (tt < 4)) = kb at *
        replace hTT := Lib.hid hTT
        go_upto_if 34 with (fail)
        go_cut [4] (fun s4 wx => s4 = .int .i64 (T : Nat) ∧ wx = wc)
        case first =>
          have hKo := Lib.hid hTb
          clear hTb
          cases kb
          · go_wp2_with fail
            go_meet
            exact ⟨by rw [hKo.out]; simp, rfl⟩
          · go_wp2_with fail
            go_meet
            exact ⟨by rw [hKo.out]; simp, rfl⟩
        case rest =>
          obtain ⟨rfl, rfl⟩ := hcut
          have hT5 : 1 ≤ T ∧ T ≤ 5 := by rw [hTb]; split <;> omega
          replace hTb := Lib.hid hTb
          obtain ⟨bk, hbk⟩ : ∃ bk, bk = UInt8.ofNat (48 + K) := ⟨_, rfl⟩
          have hcv := conv1x wc bk (48 + (K : Int)) (by rw [hbk, show (UInt8.ofNat (48 + K)).toNat = 48 + K by simp; omega]; omega)
          have hKz : (K : Int) ≤ 4 := by omega
          have hRo := hR.out
          rw [← hbk] at hRo
          replace hRo := Lib.hid hRo
          replace hbk := Lib.hid hbk
          clear hR
          go_upto_region 8 with (fail)
          obtain ⟨P, hP⟩ : ∃ P : ByteArray, P = ⟨#[108, 111, 111, 107, 97, 104, 101, 97, 100, 32]⟩ ++ ⟨#[bk]⟩ ++ ⟨#[59, 32, 116, 111, 107, 101, 110, 32, 97]⟩ := ⟨_, rfl⟩
          rw [← hP] at hRo
          rw [← hP]
          replace hP := Lib.hid hP
          have hb2 : Below w.heap.size w (wc.alloc (.cells #[.int .u8 (48 + (K : Int))] 5)) := bAlc hb1 _
          clear hcv hb1
          generalize wc.alloc (.cells #[.int .u8 (48 + (K : Int))] 5) = W2 at *
          go_upto_region 9 with (fail)
          go_loopg [7, 8] (T - 1) (fun gk s7 s8 wr => ∃ (i : Nat) (X : ByteArray), s7 = .string X ∧ s8 = .int .i64 i ∧ i + gk = T ∧ 1 ≤ i ∧ Hid (X = P ++ termsB (i - 1)) ∧ Below w.heap.size w wr ∧ X.size ≤ 20 + 3 * i)
          case atStart => exact ⟨1, P, rfl, rfl, by omega, by omega, Lib.hid (by show P = P ++ ⟨#[]⟩; exact (ByteArray.append_empty).symm), hb2, by rw [hP.out, ByteArray.size_append, ByteArray.size_append]; show (10 + 1 + 9 : Nat) ≤ _; omega⟩
          case round =>
            clear hb2
            obtain ⟨i, X, rfl, rfl, hi, h1, hX, hb, hXs⟩ := hrel
            have hXs1 : X.size ≤ 100 := by omega
            have hXs2 : (X ++ ⟨#[44, 32]⟩).size ≤ 102 := by rw [ByteArray.size_append]; show X.size + 2 ≤ 102; omega
            have hXs3 : (X ++ ⟨#[59, 32, 115, 101, 112, 97, 114, 97, 116, 111, 114, 32, 122, 59, 32, 115, 116, 97, 114, 116, 32, 83, 59, 32]⟩).size ≤ 124 := by rw [ByteArray.size_append]; show X.size + 24 ≤ 124; omega
            by_cases hin : i < T
            · obtain ⟨bi, hbi⟩ : ∃ bi, bi = UInt8.ofNat (98 + (i - 1)) := ⟨_, rfl⟩
              have hcv := conv1x wr bi (97 + (i : Int)) (by rw [hbi, show (UInt8.ofNat (98 + (i - 1))).toNat = 98 + (i - 1) by simp; omega]; omega)
              have hX2 : Hid (X ++ ⟨#[44, 32]⟩ ++ ⟨#[bi]⟩ = P ++ termsB (i + 1 - 1)) := Lib.hid (by
                rw [hX.out, hbi, show i + 1 - 1 = (i - 1) + 1 by omega, terms_assoc])
              have hz1 : (1 : Int) ≤ i := by omega
              have hz2 : (i : Int) < T := by omega
              have hz3 : (i : Int) ≤ 5 := by omega
              replace hbi := Lib.hid hbi
              replace hi := Lib.hid hi
              go_wp2_with fail
              go_roundg (T - (i + 1))
              case measure => have := hi.out; omega
              case rel => exact ⟨i + 1, _, rfl, by go_num, by have := hi.out; omega, by omega, hX2, bAlc hb _, by rw [ByteArray.size_append, ByteArray.size_append]; show X.size + 2 + 1 ≤ _; have := hi.out; omega⟩
            · have hie : i = T := by omega
              subst hie
              have hfin : Hid (X ++ ⟨#[59, 32, 115, 101, 112, 97, 114, 97, 116, 111, 114, 32, 122, 59, 32, 115, 116, 97, 114, 116, 32, 83, 59, 32]⟩ ++ tx = R) := Lib.hid (by rw [hRo.out, hX.out])
              have hz2 : ¬ (i : Int) < i := by omega
              go_wp2_with fail
              go_ret
              exact ⟨congrArg (fun z => Ending.returned (Value.string z)) hfin.out, hb⟩
end Go.Proofs.YtjnmkdahbcmfaaaGreat

/- bound.Work and its reference where all is right: the walks. -/
namespace Go.Proofs.YtjnmkdahbcmfaaaGreat
open Go.ChangeShapes Go.WideShapes Go.ChangeAt Go.RowKit
set_option linter.unusedVariables false
def workF (k n ea la d : Int) : Int := (k + 1) * ((d + n) * (1 + 2 * ea * la) + 2) + k + 4
structure WorkB (k n ea la d : Int) : Prop where
  k0 : 0 ≤ k
  k1 : k ≤ 10
  n0 : 0 ≤ n
  n1 : n ≤ 1000
  e0 : 0 ≤ ea
  e1 : ea ≤ 1000
  l0 : 0 ≤ la
  l1 : la ≤ 1000
  d0 : 1 ≤ d
  d1 : d ≤ 64
theorem WorkB.facts {k n ea la d : Int} (h : WorkB k n ea la d) : IntKind.i64.wrap (k + 1) = k + 1 ∧ IntKind.i64.wrap (d + n) = d + n ∧ IntKind.i64.wrap (2 * ea) = 2 * ea ∧ IntKind.i64.wrap (2 * ea * la) = 2 * ea * la ∧ IntKind.i64.wrap (1 + 2 * ea * la) = 1 + 2 * ea * la ∧
    IntKind.i64.wrap ((d + n) * (1 + 2 * ea * la)) = (d + n) * (1 + 2 * ea * la) ∧ IntKind.i64.wrap ((d + n) * (1 + 2 * ea * la) + 2) = (d + n) * (1 + 2 * ea * la) + 2 ∧ IntKind.i64.wrap ((k + 1) * ((d + n) * (1 + 2 * ea * la) + 2)) = (k + 1) * ((d + n) * (1 + 2 * ea * la) + 2) ∧
    IntKind.i64.wrap ((k + 1) * ((d + n) * (1 + 2 * ea * la) + 2) + k) = (k + 1) * ((d + n) * (1 + 2 * ea * la) + 2) + k ∧ IntKind.i64.wrap ((k + 1) * ((d + n) * (1 + 2 * ea * la) + 2) + k + 4) = (k + 1) * ((d + n) * (1 + 2 * ea * la) + 2) + k + 4 := by
  obtain ⟨k0, k1, n0, n1, e0, e1, l0, l1, d0, d1⟩ := h
  have p0 : 0 ≤ 2 * ea * la := Int.mul_nonneg (by omega) l0
  have p1 : 2 * ea * la ≤ 2000 * 1000 := Int.mul_le_mul (by omega) l1 l0 (by omega)
  have q0 : 0 ≤ (d + n) * (1 + 2 * ea * la) := Int.mul_nonneg (by omega) (by omega)
  have q1 : (d + n) * (1 + 2 * ea * la) ≤ 1064 * 2000001 := Int.mul_le_mul (by omega) (by omega) (by omega) (by omega)
  have r0 : 0 ≤ (k + 1) * ((d + n) * (1 + 2 * ea * la) + 2) := Int.mul_nonneg (by omega) (by omega)
  have r1 : (k + 1) * ((d + n) * (1 + 2 * ea * la) + 2) ≤ 11 * (1064 * 2000001 + 2) := Int.mul_le_mul (by omega) (by omega) (by omega) (by omega)
  refine ⟨IntWalk.i64_in _ (by omega), IntWalk.i64_in _ (by omega), IntWalk.i64_in _ (by omega), IntWalk.i64_in _ (by omega), IntWalk.i64_in _ (by omega), IntWalk.i64_in _ (by omega), IntWalk.i64_in _ (by omega), IntWalk.i64_in _ (by omega), IntWalk.i64_in _ (by omega), IntWalk.i64_in _ (by omega)⟩
section
variable (k : Int) (a1 a2 : Value) (A : Option Addr) (n c : Nat) (a4 a5 a6 : Value) (s : ByteArray)
set_option maxHeartbeats 4000000 in
theorem work_ok (ea la d : Int) (hB : WorkB k n ea la d) (w : World) (hC : ∀ W, Below w.heap.size w W → Calls Tryz.prog 31 #[xv k a1 a2 A n c a4 a5 a6 s, .int .i64 d] W (Ret1 W 0))
    (hE : ∀ W, Below w.heap.size w W → Calls Tryz.prog 8 #[xv k a1 a2 A n c a4 a5 a6 s] W (Ret2 W ea 0)) (hL : ∀ W, Below w.heap.size w W → Calls Tryz.prog 10 #[xv k a1 a2 A n c a4 a5 a6 s] W (Ret2 W la 0)) :
    Calls Tryz.prog 12 #[xv k a1 a2 A n c a4 a5 a6 s, .int .i64 d] w (Ret2 w (workF k n ea la d) 0) := by
  refine opq fun RR hR => ?_
  obtain ⟨y0, y1, y2, y3, y4, y5, y6, y7, y8, y9⟩ := hB.facts
  have hC' := Lib.hid hC
  have hE' := Lib.hid hE
  have hL' := Lib.hid hL
  clear hC hE hL hB
  unfold workF at hR
  unfold xv at *
  have hb0 : Below w.heap.size w (w.alloc (.cells #[.int .i64 k, a1, a2, .slice A n c, a4, a5, a6, .string s] 28)) := bAlc (Below.refl _ _) _
  have q0 : Blk (w.alloc (.cells #[.int .i64 k, a1, a2, .slice A n c, a4, a5, a6, .string s] 28)) w.heap.size 28 #[.int .i64 k, a1, a2, .slice A n c, a4, a5, a6, .string s] := Blk.new _ _ _
  go_enter Tryz.func12, Tryz.ntmps12
  go_wp2_with fail
  refine (hC'.out _ hb0).mono ?_
  rintro e w2 ⟨rfl, hb2⟩
  have q1 := q0.step hb2
  have b2 := bStep hb0 hb2
  clear q0 hb2 hb0
  have d0 := q1.cell 0
  have d1 := q1.cell 1
  have d2 := q1.cell 2
  have d3 := q1.cell 3
  have d4 := q1.cell 4
  have d5 := q1.cell 5
  have d6 := q1.cell 6
  have d7 := q1.cell 7
  simp only [List.getElem?_toArray, List.getElem?_cons_zero, List.getElem?_cons_succ] at d0 d1 d2 d3 d4 d5 d6 d7
  go_wp2_with fail
  refine (hE'.out _ b2).mono ?_
  rintro e w3 ⟨rfl, hb3⟩
  have q2 := q1.step hb3
  have b3 := bStep b2 hb3
  clear q1 hb3 b2 d0 d1 d2 d3 d4 d5 d6 d7
  have d0 := q2.cell 0
  have d1 := q2.cell 1
  have d2 := q2.cell 2
  have d3 := q2.cell 3
  have d4 := q2.cell 4
  have d5 := q2.cell 5
  have d6 := q2.cell 6
  have d7 := q2.cell 7
  simp only [List.getElem?_toArray, List.getElem?_cons_zero, List.getElem?_cons_succ] at d0 d1 d2 d3 d4 d5 d6 d7
  go_wp2_with fail
  refine (hL'.out _ b3).mono ?_
  rintro e w4 ⟨rfl, hb4⟩
  have q3 := q2.step hb4
  have b4 := bStep b3 hb4
  clear q2 hb4 b3 d0 d1 d2 d3 d4 d5 d6 d7
  have d0 := q3.cell 0
  have d1 := q3.cell 1
  have d2 := q3.cell 2
  have d3 := q3.cell 3
  have d4 := q3.cell 4
  have d5 := q3.cell 5
  have d6 := q3.cell 6
  have d7 := q3.cell 7
  simp only [List.getElem?_toArray, List.getElem?_cons_zero, List.getElem?_cons_succ] at d0 d1 d2 d3 d4 d5 d6 d7
  go_wp2_with fail
  exact hR.out _ _ ⟨rfl, b4⟩
set_option maxHeartbeats 4000000 in
theorem rwork_ok (ea la d : Int) (hB : WorkB k n ea la d) (w : World)
    (hE : ∀ W, Below w.heap.size w W → Calls Tryz.prog 9 #[xv k a1 a2 A n c a4 a5 a6 s] W (Ret2 W ea 0)) (hL : ∀ W, Below w.heap.size w W → Calls Tryz.prog 11 #[xv k a1 a2 A n c a4 a5 a6 s] W (Ret2 W la 0)) :
    Calls Tryz.prog 13 #[xv k a1 a2 A n c a4 a5 a6 s, .int .i64 d] w (Ret2 w (workF k n ea la d) 0) := by
  refine opq fun RR hR => ?_
  obtain ⟨y0, y1, y2, y3, y4, y5, y6, y7, y8, y9⟩ := hB.facts
  have z1 : ¬ d < 1 := by have := hB.d0; omega
  have z2 : ¬ 64 < d := by have := hB.d1; omega
  have hE' := Lib.hid hE
  have hL' := Lib.hid hL
  clear hE hL hB
  unfold workF at hR
  unfold xv at *
  have hb0 : Below w.heap.size w (w.alloc (.cells #[.int .i64 k, a1, a2, .slice A n c, a4, a5, a6, .string s] 28)) := bAlc (Below.refl _ _) _
  have q0 : Blk (w.alloc (.cells #[.int .i64 k, a1, a2, .slice A n c, a4, a5, a6, .string s] 28)) w.heap.size 28 #[.int .i64 k, a1, a2, .slice A n c, a4, a5, a6, .string s] := Blk.new _ _ _
  go_enter Tryz.func13, Tryz.ntmps13
  go_wp2_with fail
  refine (hE'.out _ hb0).mono ?_
  rintro e w2 ⟨rfl, hb2⟩
  have q1 := q0.step hb2
  have b2 := bStep hb0 hb2
  clear q0 hb2 hb0
  have d0 := q1.cell 0
  have d1 := q1.cell 1
  have d2 := q1.cell 2
  have d3 := q1.cell 3
  have d4 := q1.cell 4
  have d5 := q1.cell 5
  have d6 := q1.cell 6
  have d7 := q1.cell 7
  simp only [List.getElem?_toArray, List.getElem?_cons_zero, List.getElem?_cons_succ] at d0 d1 d2 d3 d4 d5 d6 d7
  go_wp2_with fail
  refine (hL'.out _ b2).mono ?_
  rintro e w3 ⟨rfl, hb3⟩
  have q2 := q1.step hb3
  have b3 := bStep b2 hb3
  clear q1 hb3 b2 d0 d1 d2 d3 d4 d5 d6 d7
  have d0 := q2.cell 0
  have d1 := q2.cell 1
  have d2 := q2.cell 2
  have d3 := q2.cell 3
  have d4 := q2.cell 4
  have d5 := q2.cell 5
  have d6 := q2.cell 6
  have d7 := q2.cell 7
  simp only [List.getElem?_toArray, List.getElem?_cons_zero, List.getElem?_cons_succ] at d0 d1 d2 d3 d4 d5 d6 d7
  go_wp2_with fail
  go_quiet (fail)
  go_wp2_with fail
  exact hR.out _ _ ⟨rfl, (by first | exact b3 | exact bDrw b3 | exact bDrwN b3 _)⟩
end
end Go.Proofs.YtjnmkdahbcmfaaaGreat

/- the reference's Image where all is right: the walk. -/
namespace Go.Proofs.YtjnmkdahbcmfaaaGreat
open Go.ChangeShapes Go.WideShapes Go.ChangeAt Go.RowKit
set_option linter.unusedVariables false
def imF (k d z m : Int) : Int := 1 + (z + m) + 1 + 12 + 26 + 1 + 26 * (k - 1) + 1 + 1 + 2 * d + 4
set_option maxHeartbeats 4000000 in
theorem rimage_ok (k : Int) (a1 a2 : Value) (A : Option Addr) (n c : Nat) (a4 a5 a6 : Value) (s : ByteArray) (w0 d z : Int) (w : World) (k0 : 0 ≤ k) (k1 : k ≤ 10) (d0 : 1 ≤ d) (d1 : d ≤ 64) (z0 : 0 ≤ z) (z1 : z ≤ 100) (hs : s.size ≤ 100000)
    (hW : ∀ W, Below w.heap.size w W → Calls Tryz.prog 13 #[xv k a1 a2 A n c a4 a5 a6 s, .int .i64 d] W (Ret2 W w0 0)) (hZ : ∀ W, Calls Tryz.prog 41 #[.int .u64 (s.size : Int)] W (Ret1 W z)) :
    Calls Tryz.prog 17 #[xv k a1 a2 A n c a4 a5 a6 s, .int .i64 d] w (Ret2 w (imF k d z s.size) 0) := by
  refine opq fun RR hR => ?_
  have hW' := Lib.hid hW
  have hZ' := Lib.hid hZ
  clear hW hZ
  unfold imF at hR
  unfold xv at *
  have hb0 : Below w.heap.size w (w.alloc (.cells #[.int .i64 k, a1, a2, .slice A n c, a4, a5, a6, .string s] 28)) := bAlc (Below.refl _ _) _
  have q0 : Blk (w.alloc (.cells #[.int .i64 k, a1, a2, .slice A n c, a4, a5, a6, .string s] 28)) w.heap.size 28 #[.int .i64 k, a1, a2, .slice A n c, a4, a5, a6, .string s] := Blk.new _ _ _
  go_enter Tryz.func17, Tryz.ntmps17
  go_wp2_with fail
  refine (hW'.out _ hb0).mono ?_
  rintro e w2 ⟨rfl, hb2⟩
  have q1 := q0.step hb2
  have b2 := bStep hb0 hb2
  clear q0 hb2 hb0 hW'
  have y7 := q1.cell 7
  simp only [List.getElem?_toArray, List.getElem?_cons_zero, List.getElem?_cons_succ] at y7
  have k7 := cell_kept y7
  have hA := Lib.hid (fun (p : KeptBy w2) => hZ'.out p.world)
  have hsz : (s.size : Int) ≤ 100000 := by omega
  have hsz0 : (0 : Int) ≤ s.size := by omega
  have hcu : IntKind.u64.wrap (s.size : Int) = s.size := IntWalk.u64_in _ (by omega)
  clear y7
  go_upto_region 4 with (fail)
  refine wp_region_kept (by kernel_rfl) (by kernel_rfl) ?_
  repeat (go_big_quiet_step ((go_at_call 41; exact Calls.kept_by (hA.out _))))
  refine wpQuiet_nil ?_
  rintro _ ⟨p, rfl⟩
  have hpk := p.kept
  have q2 := q1.step hpk
  have b3 := bStep b2 hpk
  generalize p.world = w3 at *
  clear hpk k7 hA q1 b2
  have d0' := q2.cell 0
  have d1' := q2.cell 1
  have d2' := q2.cell 2
  have d3' := q2.cell 3
  have d4' := q2.cell 4
  have d5' := q2.cell 5
  have d6' := q2.cell 6
  have d7' := q2.cell 7
  simp only [List.getElem?_toArray, List.getElem?_cons_zero, List.getElem?_cons_succ] at d0' d1' d2' d3' d4' d5' d6' d7'
  go_wp2_with fail
  refine hR.out _ _ ⟨?_, b3⟩
  congr 4
end Go.Proofs.YtjnmkdahbcmfaaaGreat
