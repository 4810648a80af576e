/- Walks and plain laws, part 1 of 8: Contracts of slices.Index and slices.Contains at []string, and of layer 3's Language, Check, Small, Capital, Compare; Looks as values, their equality, and the law of the map keyed by them; A range over a map of looks; Equality of looks; Looks of the reference 13: what is a right look, and its contracts; Looks as lists of terminals: right looks, their order, their sum. Plain; What a call that makes memory keeps; what a slice reads; Contracts of the reference 13: both, Order, Plus, Join, Compare; of the reference 14: compare, join, range8, ranged; Contracts: the sum of two looks; Slices of looks: what reads as a list of looks, what is owned, how it is cut; The reference 14: merge; Ascending lists of looks. Plain; The reference 14: sorted, cut, Check, Cut; Grammars in memory; append, on slices of the call's own of one-cell values; The reference 09: prods, named; The reference 09: symbols, Check; slices.All over the productions of a grammar; grammar.prods; grammar.many; A map of keys to true, whatever the keys; grammar.named, grammar.different; grammar.different; grammar.symbols; follow.joined; slices.Compare, cmp.Or, cmp.Compare at ints; the order of a set's looks; the order of a set's looks: the closure of sorted; slices.SortFunc at the looks of a set; (follow.set).sorted; The looks there are; what tail computes; follow.tail; Own sets; FIRST as a predicate; One round of begins, plainly; follow.begins; FOLLOW as a predicate; its laws; follow.uses: the places behind whose dot a wanted symbol stands; follow.all: what stands in memory; the marks of the loops. Conditions: none beyond those that each theorem states. -/
import Derived.WalkKit
import Derived.ProofKit
import Derived.Lib.Hide
import Derived.Test.YtjnmkdahbcmfaaaGreatRows
import Derived.OpenShut
import Derived.ShutString
import Derived.WalkLawsBesides
import Derived.WalkSpells
import Derived.Below
import Derived.Outline
import Derived.Deep.QuietTactic
import Derived.BigQuiet
import Derived.IntWalk
import Derived.Deep.LoopGhost
import Derived.Lib.Strings
import Derived.DeepKeys5
import Derived.Maps.Keyed
import Derived.Maps.OwnSet
import Derived.Maps.Range
import Derived.LoopTactic
import Derived.RegionTactic
import Derived.ChangeAlike
import Derived.Laws.OwnMore
import Derived.Deep.Draws
import Derived.Laws.Rows
import Derived.OwnWalk
import Derived.Laws.NewBlocks
import Derived.Laws.AppendOwn
import Derived.Maps.AppendAt
import Derived.Deep.AppendLies
import Derived.Deep.RegionHeld3
import Derived.Deep.DeepCutAuto
import Derived.Deep.CutBlock
import Derived.RangeFuncNested
import Derived.RangeFuncBound
import Derived.RangeFuncCalls
import Derived.RangeFuncLeaves
import Derived.RangeFuncBox
import Derived.Shelf.Abstract
import Derived.Shelf.RegionOpen
import Derived.OwnWalkIn
import Derived.TacticsInMore
import Derived.LoopNIn
import Derived.LoopIn
import Derived.StringKeys
import Derived.Deep.RegionLawGrows
import Derived.Sort.QuietIn
import Derived.Sort.Grow
import Derived.Shelf.SlSortCmp.NoneTotal
import Derived.Shelf.Lay
import Derived.Ground.SlsfProg
import Derived.Deep.OwnRows
import Derived.WalkMore
/- Contracts of slices.Index and slices.Contains at []string, and of layer 3's Language, Check, Small, Capital, Compare. -/
namespace Go.Proofs.YtjnmkdahbcmfaaaGreat
open Go.ChangeShapes Go.WideShapes Go.ChangeAt Go.RowKit
set_option linter.unusedVariables false
def Strs (w : World) (b off : Nat) (l : List ByteArray) : Prop := ∀ i, i < l.length → w.cell? ⟨b, off + i, none⟩ = some (.string (l.getD i ByteArray.empty))
theorem eqF (a b : ByteArray) (h : ¬ a = b) : (a.toList == b.toList) = false := by
  rw [beq_eq_false_iff_ne]
  intro h2
  apply h
  rw [ByteArray.toList_eq, ByteArray.toList_eq] at h2
  exact ByteArray.ext (Array.toList_inj.1 h2)
end Go.Proofs.YtjnmkdahbcmfaaaGreat

/- Looks as values, their equality, and the law of the map keyed by them. -/
namespace Go.Proofs.YtjnmkdahbcmfaaaGreat
open Go.ChangeShapes Go.WideShapes Go.ChangeAt Go.RowKit
open Go.ChangeMaps (heap_setBlock_same setBlock)
open Go.MapKept (Stamped stamped_push)
set_option linter.unusedVariables false
structure Lk where
  n : Int
  a : Int
  b : Int
  c : Int
  d : Int
  deriving DecidableEq, Inhabited
def Lk.v (x : Lk) : Value := .agg #[.int .i64 x.n, .int .i64 x.a, .int .i64 x.b, .int .i64 x.c, .int .i64 x.d]
def Lk.wf (x : Lk) : Prop := (Lit.int .i64 x.n).wf = true ∧ (Lit.int .i64 x.a).wf = true ∧ (Lit.int .i64 x.b).wf = true ∧ (Lit.int .i64 x.c).wf = true ∧ (Lit.int .i64 x.d).wf = true
theorem Lk.v_inj {x y : Lk} (h : x.v = y.v) : x = y := by
  cases x; cases y; simp [Lk.v] at h; simp [h]
theorem under42 : Tryz.prog.underlying 45 = some (.struct (Tryz.prog.fieldsOf 45)) := by kernel_rfl
theorem under40 : Tryz.prog.underlying 43 = some (.array 4 3) := by kernel_rfl
theorem lookKeyed : Maps.Keyed Tryz.prog 45 := Maps.Keyed.of_law (deep_law_gate (P := Tryz.prog) (k := 45) (by kernel_rfl) (of_decide_eq_true (by kernel_rfl)) (of_decide_eq_true (by kernel_rfl)) (by kernel_rfl) (by kernel_rfl))
theorem under3 : Tryz.prog.underlying 3 = some (.int .i64) := by kernel_rfl
theorem fields42 : ∃ f0 f1 : Field, Tryz.prog.fieldsOf 45 = #[f0, f1] ∧ f0.name = "N" ∧ f0.type = 3 ∧ f0.offset = 0 ∧ f1.name = "S" ∧ f1.type = 43 ∧ f1.offset = 1 := by
  refine ⟨(Tryz.prog.fieldsOf 45)[0]!, (Tryz.prog.fieldsOf 45)[1]!, by kernel_rfl, by kernel_rfl, by kernel_rfl, by kernel_rfl, by kernel_rfl, by kernel_rfl, by kernel_rfl⟩
theorem cells42 : Tryz.prog.cellsOf 45 = 5 := by kernel_rfl
theorem cells40 : Tryz.prog.cellsOf 43 = 4 := by kernel_rfl
theorem cells3 : Tryz.prog.cellsOf 3 = 1 := by kernel_rfl
theorem size_types : ∃ d, Tryz.prog.types.size + 1 = d + 3 := ⟨Tryz.prog.types.size - 2, by have : 2 ≤ Tryz.prog.types.size := of_decide_eq_true (by kernel_rfl); omega⟩
theorem keyT42 : Tryz.prog.keyType 45 = true := by kernel_rfl
theorem lits_int (d : Nat) (n : Int) (h : (Lit.int .i64 n).wf = true) : Tryz.prog.keyLits (d + 1) 3 [.int .i64 n] = some [.int .i64 n] := by
  unfold Program.keyLits; rw [under3]; simp [h]
theorem lits_arr (d : Nat) (a b c e : Int) (ha : (Lit.int .i64 a).wf = true) (hb : (Lit.int .i64 b).wf = true) (hc : (Lit.int .i64 c).wf = true) (he : (Lit.int .i64 e).wf = true) :
    Tryz.prog.keyLits (d + 2) 43 [.int .i64 a, .int .i64 b, .int .i64 c, .int .i64 e] = some [.int .i64 a, .int .i64 b, .int .i64 c, .int .i64 e] := by
  unfold Program.keyLits; rw [under40]
  simp [cells40, cells3, List.range_succ, lits_int, ha, hb, hc, he]
theorem look_key (x : Lk) (h : x.wf) : ∃ l, keyOf Tryz.prog 45 x.v = some l := by
  obtain ⟨h0, h1, h2, h3, h4⟩ := h
  obtain ⟨d, hd⟩ := size_types
  obtain ⟨f0, f1, hf, n0, t0, o0, n1, t1, o1⟩ := fields42
  have hk : Tryz.prog.keyLits (Tryz.prog.types.size + 1) 45 x.v.cells.toList = some [.int .i64 x.n, .int .i64 x.a, .int .i64 x.b, .int .i64 x.c, .int .i64 x.d] := by
    rw [hd]; unfold Program.keyLits; rw [under42, hf]
    simp [Lk.v, Value.cells, cells42, cells40, cells3, n0, t0, o0, n1, t1, o1, lits_int, lits_arr, h0, h1, h2, h3, h4]
  have hfo : Value.formed Tryz.prog 45 x.v = true := by
    simp [Value.formed, Lk.v, cells42]
  unfold keyOf
  rw [under42]
  show ∃ l, (if (Tryz.prog.keyType 45 && Value.formed Tryz.prog 45 x.v) = true then (Tryz.prog.keyLits (Tryz.prog.types.size + 1) 45 x.v.cells.toList).map (fun ls => Lit.string (keyBytes ls)) else none) = some l
  rw [if_pos (by rw [keyT42, hfo]; rfl), hk]
  exact ⟨_, rfl⟩
theorem under67 : Tryz.prog.underlying 287 = some (.map 45 4) := by kernel_rfl
def MapL (w : World) (b : Nat) (s : List Lk) : Prop :=
  ∃ (es : Array MapEntry) (clock : Nat), w.heap[b]? = some (.map es clock) ∧ es.toList.map (·.key) = s.map Lk.v ∧ (∀ e ∈ es.toList, e.val = .bool true) ∧ (∀ x ∈ s, x.wf) ∧ s.Nodup ∧ Stamped es clock
theorem mapl_keys {es : Array MapEntry} {s : List Lk} (hk : es.toList.map (·.key) = s.map Lk.v) (hw : ∀ x ∈ s, x.wf) : ∀ e ∈ es.toList, ∃ l, keyOf Tryz.prog 45 e.key = some l := by
  intro e he
  have h1 : e.key ∈ es.toList.map (·.key) := List.mem_map_of_mem he
  rw [hk] at h1
  obtain ⟨x, hx, hxe⟩ := List.mem_map.mp h1
  rw [← hxe]
  exact look_key x (hw x hx)
theorem info4 : (Tryz.prog.info? 4).map (·.zero) = some (some (.bool false)) := by kernel_rfl
theorem zero_bool (w : World) : (zeroValue 4).run Tryz.prog w = .ok (.bool false) w := by
  have h := info4
  cases hi : Tryz.prog.info? 4 with
  | none => rw [hi] at h; cases h
  | some i =>
    rw [hi] at h
    simp at h
    simp [zeroValue, typeInfo, hi, h]
theorem mapl_look {t : TypeId} (ht : Tryz.prog.underlying t = some (.map 45 4)) {w : World} {b : Nat} {s : List Lk} (h : MapL w b s) (x : Lk) (hx : x.wf) :
    (Instr.lookup t (.map (some b)) x.v false).run Tryz.prog w = .ok (.bool (decide (x ∈ s))) w := by
  obtain ⟨es, clock, hb, hk, hv, hw, hn, hst⟩ := h
  obtain ⟨l, hl⟩ := look_key x hx
  have hz := zero_bool w
  rcases lookKeyed.find w hl es.toList (mapl_keys hk hw) with ⟨h1, h2⟩ | ⟨j, e, h1, h2, h3⟩
  · have hns : x ∉ s := by
      intro hm
      have : x.v ∈ es.toList.map (·.key) := by rw [hk]; exact List.mem_map_of_mem hm
      obtain ⟨e, he, hee⟩ := List.mem_map.mp this
      exact h2 e he hee
    simp [Instr.lookup, run_underlying ht, MapKept.run_getObj_map hb, lookKeyed.check w _ hl, h1, hz, Result.andThen, hns]
  · have he := List.mem_of_getElem? h2
    have hs : x ∈ s := by
      have : e.key ∈ es.toList.map (·.key) := List.mem_map_of_mem he
      rw [hk, h3] at this
      obtain ⟨y, hy, hyy⟩ := List.mem_map.mp this
      rw [← Lk.v_inj hyy]; exact hy
    simp [Instr.lookup, run_underlying ht, MapKept.run_getObj_map hb, lookKeyed.check w _ hl, h1, Result.andThen, hs, hv e he]
theorem mapl_put {t : TypeId} (ht : Tryz.prog.underlying t = some (.map 45 4)) {w : World} {b : Nat} {s : List Lk} (h : MapL w b s) (x : Lk) (hx : x.wf) :
    ∃ w', (Instr.mapUpdate t (.map (some b)) x.v (.bool true)).run Tryz.prog w = .ok () w' ∧ MapL w' b (if x ∈ s then s else s ++ [x]) ∧ w.mapTurned w' b := by
  obtain ⟨es, clock, hb, hk, hv, hw, hn, hst⟩ := h
  obtain ⟨l, hl⟩ := look_key x hx
  rcases lookKeyed.find w hl es.toList (mapl_keys hk hw) with ⟨h1, h2⟩ | ⟨j, e, h1, h2, h3⟩
  · have hns : x ∉ s := by
      intro hm
      have : x.v ∈ es.toList.map (·.key) := by rw [hk]; exact List.mem_map_of_mem hm
      obtain ⟨e, he, hee⟩ := List.mem_map.mp this
      exact h2 e he hee
    rw [if_neg hns]
    refine ⟨setBlock w b (.map (es.push { key := x.v, val := .bool true, born := clock }) (clock + 1)), ?_, ⟨_, _, heap_setBlock_same hb _, by simp [hk], ?_, ?_, ?_, stamped_push hst h2⟩, ⟨es, clock, _, _, hb, rfl⟩⟩
    · simp [Instr.mapUpdate, run_underlying ht, MapKept.run_getObj_map hb, lookKeyed.check w _ hl, h1, MapKept.run_setObj_map _ hb, Result.andThen, setBlock]
    · intro e he
      simp at he
      rcases he with he | rfl
      · exact hv e (by simpa using he)
      · rfl
    · intro y hy
      rcases List.mem_append.mp hy with hy | hy
      · exact hw y hy
      · have : y = x := by simpa using hy
        rw [this]; exact hx
    · rw [List.nodup_append]
      refine ⟨hn, by simp, ?_⟩
      intro a ha c hc
      have : c = x := by simpa using hc
      rw [this]; intro e; exact hns (e ▸ ha)
  · have he := List.mem_of_getElem? h2
    have hs : x ∈ s := by
      have : e.key ∈ es.toList.map (·.key) := List.mem_map_of_mem he
      rw [hk, h3] at this
      obtain ⟨y, hy, hyy⟩ := List.mem_map.mp this
      rw [← Lk.v_inj hyy]; exact hy
    rw [if_pos hs]
    have hj : es[j]? = some e := by simpa using h2
    have hee : ({ e with key := x.v, val := .bool true } : MapEntry) = e := by
      cases e; simp at h3; have := hv _ he; simp at this; simp [h3, this]
    have hmod : es.modify j (fun e => { e with key := x.v, val := .bool true }) = es := by
      apply Array.ext_getElem?
      intro i
      rw [Array.getElem?_modify]
      split
      · rename_i h; subst h; rw [hj]; simp [hee]
      · rfl
    refine ⟨setBlock w b (.map es clock), ?_, ⟨es, clock, heap_setBlock_same hb _, hk, hv, hw, hn, hst⟩, ⟨es, clock, _, _, hb, rfl⟩⟩
    have hst2 := lookKeyed.stays w hl
    have hkey : (((es[j]?).map (·.key)).getD x.v) = x.v := by rw [hj]; simp [h3]
    simp [Instr.mapUpdate, run_underlying ht, MapKept.run_getObj_map hb, lookKeyed.check w _ hl, h1, hj, h3, hst2, hmod, MapKept.run_setObj_map _ hb, Result.andThen, setBlock]
theorem mapl_len {t : TypeId} (ht : Tryz.prog.underlying t = some (.map 45 4)) {w : World} {b : Nat} {s : List Lk} (h : MapL w b s) (ty : TypeId) : (Builtin.len_ #[t] ty #[.map (some b)]).run Tryz.prog w = .ok (.int .i64 s.length) w := by
  obtain ⟨es, clock, hb, hk, hv, hw, hn, hst⟩ := h
  have e : es.size = s.length := by
    have := congrArg List.length hk
    simpa using this
  simp [Builtin.len_, run_underlying ht, MapKept.run_getObj_map hb, goInt, Result.andThen, e]
section
variable (w : World) {ops : Array Oper} {rest : List Oper} {o : Oper} {a : Act} {Q : Exit → Act → World → Prop}
theorem wpList_look {t : TypeId} (ht : Tryz.prog.underlying t = some (.map 45 4)) (hg : o.guard = none) (m x : Operand) (hop : o.op = Op.lookup t m x false) (b : Nat) (s : List Lk) (k : Lk) (hm : a.eval m = .map (some b)) (hx : a.eval x = k.v) (h : MapL w b s) (hk : k.wf)
    (hK : wpList Tryz.prog ops Q rest (a.put o.dst (.bool (decide (k ∈ s)))) w) : wpList Tryz.prog ops Q (o :: rest) a w := by
  refine wpList_plain hg fun K' hK' => ?_
  have hrun := mapl_look ht h k hk
  unfold Oper.wp
  simp [execOp, hop, hm, hx, hrun, Result.andThen]
  exact hK' _ _ hK
theorem wpList_lay {t : TypeId} (ht : Tryz.prog.underlying t = some (.map 45 4)) (hg : o.guard = none) (m x v : Operand) (hop : o.op = Op.mapUpdate t m x v) (b : Nat) (s : List Lk) (k : Lk) (hm : a.eval m = .map (some b)) (hx : a.eval x = k.v) (hv : a.eval v = .bool true) (h : MapL w b s) (hk : k.wf)
    (hK : ∀ w', MapL w' b (if k ∈ s then s else s ++ [k]) → w.mapTurned w' b → wpList Tryz.prog ops Q rest (a.put o.dst undef) w') : wpList Tryz.prog ops Q (o :: rest) a w := by
  refine wpList_plain hg fun K' hK' => ?_
  obtain ⟨w', hrun, h1, h2⟩ := mapl_put ht h k hk
  unfold Oper.wp
  simp [execOp, hop, hm, hx, hv, hrun, Result.andThen]
  exact hK' _ _ (hK w' h1 h2)
end
end Go.Proofs.YtjnmkdahbcmfaaaGreat

/- A range over a map of looks. -/
namespace Go.Proofs.YtjnmkdahbcmfaaaGreat
open Go.ChangeShapes Go.WideShapes Go.ChangeAt Go.RowKit
open Go.ChangeMaps (heap_setBlock_same setBlock)
open Go.MapKept
set_option linter.unusedVariables false
def IterL (w : World) (b r : Nat) (s out : List Lk) : Prop :=
  ∃ (es : Array MapEntry) (clock since : Nat) (seen : Array Nat) (c0 : Nat), w.heap[b]? = some (.map es clock) ∧ (es.toList.map (·.key) = s.map Lk.v ∧ (∀ e ∈ es.toList, e.val = .bool true) ∧ (∀ x ∈ s, x.wf) ∧ s.Nodup ∧ Stamped es clock) ∧
    w.heap[r]? = some (.mapIter (some b) since seen c0) ∧ (∀ x ∈ es.toList, x.born < since) ∧ since ≤ c0 ∧ since ≤ clock ∧ (∀ e ∈ es.toList, ∀ x : Lk, e.key = x.v → (seen.contains e.born = true ↔ x ∈ out)) ∧ out.Nodup ∧ (∀ x ∈ out, x ∈ s)
theorem IterL.map {w : World} {b r : Nat} {s out : List Lk} (h : IterL w b r s out) : MapL w b s := by
  obtain ⟨es, clock, since, seen, c0, hb, h1, _⟩ := h
  exact ⟨es, clock, hb, h1⟩
theorem mapl_range {t : TypeId} (ht : Tryz.prog.underlying t = some (.map 45 4)) {w : World} {b : Nat} {s : List Lk} (h : MapL w b s) :
    ∃ w', (Instr.range t (.map (some b))).run Tryz.prog w = .ok (.pointer (some ⟨w.heap.size, 0, none⟩)) w' ∧ IterL w' b w.heap.size s [] ∧ Below w.heap.size w w' := by
  obtain ⟨es, clock, hb, h1⟩ := h
  have hlt : b < w.heap.size := (Array.getElem?_eq_some_iff.1 hb).1
  refine ⟨_, run_range_map w t 45 4 b es clock ht hb, ⟨es, clock, clock, #[], clock, ((MapKept.heap_alloc w _).2 b hlt).trans hb, h1, (MapKept.heap_alloc w _).1, h1.2.2.2.2.1, Nat.le_refl _, Nat.le_refl _, ?_, by simp, by simp⟩, (Below.refl _ _).alloc (Nat.le_refl _) _⟩
  intro e he x hx
  simp
theorem iterl_next {w : World} {b r : Nat} {s out : List Lk} (h : IterL w b r s out) (ty : TypeId) :
    ((∀ x ∈ s, x ∈ out) ∧ (Instr.next (.pointer (some ⟨r, 0, none⟩)) false ty).run Tryz.prog w = .ok (.tuple #[.bool false]) w) ∨
    ∃ x ∈ s, x ∉ out ∧ ∃ w' : World, (Instr.next (.pointer (some ⟨r, 0, none⟩)) false ty).run Tryz.prog w = .ok (.tuple #[.bool true, x.v, .bool true]) w' ∧ IterL w' b r s (out ++ [x]) ∧
      (Instr.entry (.pointer (some ⟨r, 0, none⟩))).run Tryz.prog w' = .ok (.tuple #[x.v, .bool true]) w' ∧ w.grownBy w' (some r) ∧ w'.heap.size = w.heap.size := by
  obtain ⟨es, clock, since, seen, c0, hb, ⟨hk, hv, hw, hn, hst⟩, hr, hold, hsc, hsk, hin, hno, hsub⟩ := h
  rcases run_next_at (P := Tryz.prog) w ty r b since c0 seen es clock hr hb hold hsc with ⟨h0, hrun⟩ | ⟨e, he, w1, hal, hrun⟩
  · left
    refine ⟨fun x hx => ?_, hrun⟩
    have : x.v ∈ es.toList.map (·.key) := by rw [hk]; exact List.mem_map_of_mem hx
    obtain ⟨e, he, hee⟩ := List.mem_map.mp this
    exact (hin e he x hee).mp (all_seen es seen h0 e he)
  · right
    obtain ⟨hem, hes⟩ := mem_left he
    have : e.key ∈ s.map Lk.v := by rw [← hk]; exact List.mem_map_of_mem hem
    obtain ⟨x, hx, hxe⟩ := List.mem_map.mp this
    have hxo : x ∉ out := fun hm => by
      have := (hin e hem x hxe.symm).mpr hm
      rw [hes] at this; cases this
    have hr1 : w1.heap[r]? = some (.mapIter (some b) since seen c0) := by rcases hal with rfl | rfl <;> exact hr
    have hb1 : w1.heap[b]? = some (.map es clock) := by rcases hal with rfl | rfl <;> exact hb
    have hset := heap_set (o' := .mapIter (some b) since (seen.push e.born) clock) hr1
    have hne : b ≠ r := fun h => by rw [h, hr] at hb; cases hb
    have hb' := (hset.2 b hne).trans hb1
    have hS := (stamped_iff es clock).1 hst
    refine ⟨x, hx, hxo, _, by rw [hrun, ← hxe, hv e hem], ⟨es, clock, since, seen.push e.born, clock, hb', ⟨hk, hv, hw, hn, hst⟩, hset.1, hold, hsk, hsk, ?_, ?_, ?_⟩, ?_, ?_, ?_⟩
    · intro e' he' y hy
      rw [contains_push, Bool.or_eq_true, hin e' he' y hy, List.mem_append]
      constructor
      · rintro (h | h)
        · exact .inl h
        · right
          have hbe : e'.born = e.born := by simpa using h
          have := born_inj hS.2.1 he' hem hbe
          rw [this] at hy
          rw [hy] at hxe
          simp [Lk.v_inj hxe]
      · rintro (h | h)
        · exact .inl h
        · right
          have hyx : y = x := by simpa using h
          subst hyx
          have := entry_eq_of_key hS.2.2 he' hem (hy.trans hxe)
          simp [this]
    · rw [List.nodup_append]
      refine ⟨hno, by simp, ?_⟩
      intro a ha c hc
      have : c = x := by simpa using hc
      rw [this]; intro e; exact hxo (e ▸ ha)
    · intro y hy
      rcases List.mem_append.mp hy with hy | hy
      · exact hsub y hy
      · have : y = x := by simpa using hy
        rw [this]; exact hx
    · rw [run_entry_at _ r b since seen es clock e hset.1 hb' hem hS.2.1, ← hxe, hv e hem]
    · rcases hal with rfl | rfl <;> exact ⟨rfl, rfl, rfl, by simp [setBlock], fun i _ hi => hset.2 i (fun e1 => hi (by rw [e1]))⟩
    · rcases hal with rfl | rfl <;> simp [setBlock]
theorem MapL.grown {w w' : World} {b : Nat} {s : List Lk} {row : Option Nat} (h : MapL w b s) (hg : w.grownBy w' row) (hb : some b ≠ row) : MapL w' b s := by
  obtain ⟨es, clock, h1, h2⟩ := h
  exact ⟨es, clock, (hg.block b (Array.getElem?_eq_some_iff.1 h1).1 hb).trans h1, h2⟩
theorem IterL.grown {w w' : World} {b r : Nat} {s out : List Lk} {row : Option Nat} (h : IterL w b r s out) (hg : w.grownBy w' row) (hb : some b ≠ row) (hr : some r ≠ row) : IterL w' b r s out := by
  obtain ⟨es, clock, since, seen, c0, h1, h2, h3, h4⟩ := h
  exact ⟨es, clock, since, seen, c0, (hg.block b (Array.getElem?_eq_some_iff.1 h1).1 hb).trans h1, h2, (hg.block r (Array.getElem?_eq_some_iff.1 h3).1 hr).trans h3, h4⟩
section
variable (w : World) {ops : Array Oper} {rest : List Oper} {o : Oper} {a : Act} {Q : Exit → Act → World → Prop}
theorem wpList_range_look {t : TypeId} (ht : Tryz.prog.underlying t = some (.map 45 4)) (hg : o.guard = none) (m : Operand) (hop : o.op = Op.range t m) (b : Nat) (s : List Lk) (hm : a.eval m = .map (some b)) (h : MapL w b s)
    (hK : ∀ w', IterL w' b w.heap.size s [] → Below w.heap.size w w' → wpList Tryz.prog ops Q rest (a.put o.dst (.pointer (some ⟨w.heap.size, 0, none⟩))) w') : wpList Tryz.prog ops Q (o :: rest) a w := by
  refine wpList_plain hg fun K' hK' => ?_
  obtain ⟨w', hrun, r1, r2⟩ := mapl_range ht h
  unfold Oper.wp
  simp [execOp, hop, hm, hrun, Result.andThen]
  exact hK' _ _ (hK w' r1 r2)
theorem wpList_next_look (hg : o.guard = none) (it : Operand) (hop : o.op = Op.next it false) (b r : Nat) (s out : List Lk) (hit : a.eval it = .pointer (some ⟨r, 0, none⟩)) (h : IterL w b r s out)
    (hDone : (∀ x ∈ s, x ∈ out) → wpList Tryz.prog ops Q rest (a.put o.dst (.tuple #[.bool false])) w)
    (hMore : ∀ (x : Lk) (w' : World), x ∈ s → x ∉ out → IterL w' b r s (out ++ [x]) → (Instr.entry (.pointer (some ⟨r, 0, none⟩))).run Tryz.prog w' = .ok (.tuple #[x.v, .bool true]) w' → w.grownBy w' (some r) → w'.heap.size = w.heap.size →
      wpList Tryz.prog ops Q rest (a.put o.dst (.tuple #[.bool true, x.v, .bool true])) w') : wpList Tryz.prog ops Q (o :: rest) a w := by
  refine wpList_plain hg fun K' hK' => ?_
  unfold Oper.wp
  rcases iterl_next h o.type with ⟨h0, hrun⟩ | ⟨x, hx, hxo, w', hrun, r1, r2, r3, r4⟩
  · simp [execOp, hop, hit, hrun, Result.andThen]
    exact hK' _ _ (hDone h0)
  · simp [execOp, hop, hit, hrun, Result.andThen]
    exact hK' _ _ (hMore x w' hx hxo r1 r2 r3 r4)
end
end Go.Proofs.YtjnmkdahbcmfaaaGreat

/- Equality of looks. -/
namespace Go.Proofs.YtjnmkdahbcmfaaaGreat
open Go.ChangeShapes Go.WideShapes Go.ChangeAt Go.RowKit
set_option linter.unusedVariables false
theorem look_same (x y : Lk) (hx : x.wf) (hy : y.wf) (w : World) : (Op.equal 45 x.v y.v).run Tryz.prog w = .ok (decide (x = y)) w := by
  obtain ⟨lx, h1⟩ := look_key x hx
  obtain ⟨ly, h2⟩ := look_key y hy
  have hm : ∃ m, m ≤ 10000 ∧ Tryz.prog.keyTypeAt m 45 = true := ⟨3, by omega, by kernel_rfl⟩
  obtain ⟨m, hm1, hm2⟩ := hm
  obtain ⟨r, hr, hiff⟩ := run_equal_deep (P := Tryz.prog) w hm1 hm2 (by kernel_rfl) h1 h2
  rw [hr]
  have : r = decide (x = y) := by
    by_cases e : x = y
    · subst e
      rw [h1] at h2
      cases h2
      simp [hiff]
    · have : r ≠ true := fun h => e (by
        have hl := hiff.mp h
        rw [← hl] at h2
        exact Lk.v_inj (lookKeyed.inj h1 h2))
      cases r
      · simp [e]
      · exact absurd rfl this
  rw [this]
theorem look_eql (x y : Lk) (hx : x.wf) (hy : y.wf) (w : World) : (binOp .eql 45 x.v y.v).run Tryz.prog w = .ok (.bool (decide (x = y))) w := by
  have h := look_same x y hx hy w
  simp only [Lk.v] at h ⊢
  simp only [binOp]
  simp [h, Result.andThen]
theorem look_neq (x y : Lk) (hx : x.wf) (hy : y.wf) (w : World) : (binOp .neq 45 x.v y.v).run Tryz.prog w = .ok (.bool (!decide (x = y))) w := by
  have h := look_same x y hx hy w
  simp only [Lk.v] at h ⊢
  simp only [binOp]
  simp [h, Result.andThen]
end Go.Proofs.YtjnmkdahbcmfaaaGreat

/- Looks of the reference 13: what is a right look, and its contracts. -/
namespace Go.Proofs.YtjnmkdahbcmfaaaGreat
open Go.ChangeShapes Go.WideShapes Go.ChangeAt Go.RowKit
set_option linter.unusedVariables false
def Lk.s (x : Lk) (i : Nat) : Int := match i with | 0 => x.a | 1 => x.b | 2 => x.c | 3 => x.d | _ => 0
theorem Lk.cellAt (x : Lk) (i : Nat) (h : i < 4) : (#[Value.int .i64 x.n, Value.int .i64 x.a, Value.int .i64 x.b, Value.int .i64 x.c, Value.int .i64 x.d] : Array Value)[1 + i]? = some (.int .i64 (x.s i)) := by
  rcases i with _ | _ | _ | _ | i <;> first | rfl | omega
def padB (x : Lk) : Bool := (List.range 4).all fun i => decide ((i : Int) < x.n) || decide (x.s i = 0)
def inB (x : Lk) (m : Int) : Bool := (List.range 4).all fun i => decide (x.n ≤ i) || (decide (0 ≤ x.s i) && decide (x.s i < m))
def lchk (x : Lk) (m : Int) : Int := if m < 1 ∨ 8 < m then 2 else if x.n < 0 ∨ 4 < x.n then 3 else if padB x = false then 3 else if inB x m = false then 14 else 0
theorem padB_iff (x : Lk) : padB x = true ↔ ∀ i : Nat, i < 4 → x.n ≤ i → x.s i = 0 := by
  simp [padB, List.all_eq_true]
  constructor
  · intro h i h4 hn; rcases h i h4 with h | h
    · omega
    · exact h
  · intro h i h4
    by_cases hn : (i : Int) < x.n
    · exact .inl hn
    · exact .inr (h i h4 (by omega))
theorem inB_iff (x : Lk) (m : Int) : inB x m = true ↔ ∀ i : Nat, i < 4 → (i : Int) < x.n → 0 ≤ x.s i ∧ x.s i < m := by
  simp [inB, List.all_eq_true]
  constructor
  · intro h i h4 hn; rcases h i h4 with h | h
    · omega
    · exact h
  · intro h i h4
    by_cases hn : x.n ≤ (i : Int)
    · exact .inl hn
    · exact .inr (h i h4 (by omega))
end Go.Proofs.YtjnmkdahbcmfaaaGreat

/- Looks as lists of terminals: right looks, their order, their sum. Plain. -/
namespace Go.Proofs.YtjnmkdahbcmfaaaGreat
set_option linter.unusedVariables false
def Lk.l (x : Lk) : List Int := [x.a, x.b, x.c, x.d].take x.n.toNat
def Lk.of (t : List Int) : Lk := ⟨t.length, t.getD 0 0, t.getD 1 0, t.getD 2 0, t.getD 3 0⟩
def Lk.right (x : Lk) (m : Int) : Prop := lchk x m = 0
theorem of_s (t : List Int) (i : Nat) (h : t.length ≤ 4) : (Lk.of t).s i = t.getD i 0 := by
  rcases i with _ | _ | _ | _ | i <;> first | rfl | (simp [Lk.of, Lk.s]; rw [List.getElem?_eq_none (by omega)]; rfl)
theorem of_n (t : List Int) : (Lk.of t).n = t.length := rfl
theorem right_iff (x : Lk) (m : Int) : x.right m ↔ (1 ≤ m ∧ m ≤ 8) ∧ (0 ≤ x.n ∧ x.n ≤ 4) ∧ (∀ i : Nat, i < 4 → x.n ≤ i → x.s i = 0) ∧ (∀ i : Nat, i < 4 → (i : Int) < x.n → 0 ≤ x.s i ∧ x.s i < m) := by
  rw [← padB_iff, ← inB_iff]
  unfold Lk.right lchk
  constructor
  · intro h
    split at h
    · cases h
    · split at h
      · cases h
      · split at h
        · cases h
        · split at h
          · cases h
          · rename_i h1 h2 h3 h4
            exact ⟨by omega, by omega, by simpa using h3, by simpa using h4⟩
  · rintro ⟨h1, h2, h3, h4⟩
    rw [if_neg (by omega), if_neg (by omega), if_neg (by simp [h3]), if_neg (by simp [h4])]
theorem right_l {x : Lk} {m : Int} (h : x.right m) : (x.l.length : Int) = x.n ∧ x.l.length ≤ 4 ∧ Lk.of x.l = x ∧ (∀ v ∈ x.l, 0 ≤ v ∧ v < m) := by
  obtain ⟨hm, hn, hp, hi⟩ := (right_iff x m).1 h
  obtain ⟨n, a, b, c, d⟩ := x
  have hp0 := hp 0 (by omega)
  have hp1 := hp 1 (by omega)
  have hp2 := hp 2 (by omega)
  have hp3 := hp 3 (by omega)
  have hi0 := hi 0 (by omega)
  have hi1 := hi 1 (by omega)
  have hi2 := hi 2 (by omega)
  have hi3 := hi 3 (by omega)
  simp only [Lk.s] at *
  obtain ⟨k, rfl⟩ := Int.eq_ofNat_of_zero_le hn.1
  have : k = 0 ∨ k = 1 ∨ k = 2 ∨ k = 3 ∨ k = 4 := by omega
  rcases this with rfl | rfl | rfl | rfl | rfl
  · have h0 := hp0 (by omega); have h1 := hp1 (by omega); have h2 := hp2 (by omega); have h3 := hp3 (by omega)
    subst h0 h1 h2 h3; refine ⟨rfl, ?_, rfl, ?_⟩ <;> simp [Lk.l]
  · have h1 := hp1 (by omega); have h2 := hp2 (by omega); have h3 := hp3 (by omega)
    subst h1 h2 h3; simp [Lk.l, Lk.of]; exact hi0 (by omega)
  · have h2 := hp2 (by omega); have h3 := hp3 (by omega)
    subst h2 h3; simp [Lk.l, Lk.of]; exact ⟨hi0 (by omega), hi1 (by omega)⟩
  · have h3 := hp3 (by omega)
    subst h3; simp [Lk.l, Lk.of]; exact ⟨hi0 (by omega), hi1 (by omega), hi2 (by omega)⟩
  · simp [Lk.l, Lk.of]; exact ⟨hi0 (by omega), hi1 (by omega), hi2 (by omega), hi3 (by omega)⟩
theorem of_right {t : List Int} {m : Int} (hm : 1 ≤ m ∧ m ≤ 8) (h : t.length ≤ 4) (hv : ∀ v ∈ t, 0 ≤ v ∧ v < m) : (Lk.of t).right m := by
  rw [right_iff]
  refine ⟨hm, by rw [of_n]; omega, ?_, ?_⟩
  · intro i h4 hn
    rw [of_n] at hn
    rw [of_s t i h, List.getD_eq_getElem?_getD, List.getElem?_eq_none (by omega)]; rfl
  · intro i h4 hn
    rw [of_n] at hn
    have hlt : i < t.length := by omega
    rw [of_s t i h, List.getD_eq_getElem?_getD, List.getElem?_eq_getElem hlt]
    exact hv _ (List.getElem_mem hlt)
theorem s_getD {x : Lk} {m : Int} (h : x.right m) (i : Nat) : x.s i = x.l.getD i 0 := by
  obtain ⟨h1, h2, h3, h4⟩ := right_l h
  have h5 := of_s x.l i h2
  rw [h3] at h5
  exact h5
theorem right_ext {x y : Lk} {m k : Int} (hx : x.right m) (hy : y.right k) (h : x.l = y.l) : x = y := by
  rw [← (right_l hx).2.2.1, ← (right_l hy).2.2.1, h]
theorem right_mono {x : Lk} {m k : Int} (hx : x.right m) (h1 : m ≤ k) (h2 : k ≤ 8) : x.right k := by
  have hm := ((right_iff x m).1 hx).1
  obtain ⟨_, h4, h5, h6⟩ := right_l hx
  rw [← h5]
  exact of_right (by omega) h4 fun v hv => ⟨(h6 v hv).1, by have := (h6 v hv).2; omega⟩
theorem right_wf {x : Lk} {m : Int} (h : x.right m) : x.wf := by
  obtain ⟨⟨h1, h2⟩, ⟨h3, h4⟩, h5, h6⟩ := (right_iff x m).1 h
  have hs : ∀ i : Nat, i < 4 → 0 ≤ x.s i ∧ x.s i < 8 := by
    intro i hi
    by_cases hn : x.n ≤ i
    · rw [h5 i hi hn]; omega
    · have := h6 i hi (by omega); omega
  have w : ∀ n : Int, 0 ≤ n → n < 8 → (Lit.int .i64 n).wf = true := by
    intro n h0 h8
    have e1 : IntKind.i64.min = -9223372036854775808 := by decide
    have e2 : IntKind.i64.max = 9223372036854775807 := by decide
    simp [Lit.wf, e1, e2]
    omega
  exact ⟨w _ h3 (by omega), w _ (hs 0 (by omega)).1 (hs 0 (by omega)).2, w _ (hs 1 (by omega)).1 (hs 1 (by omega)).2, w _ (hs 2 (by omega)).1 (hs 2 (by omega)).2, w _ (hs 3 (by omega)).1 (hs 3 (by omega)).2⟩
def cmpI : List Int → List Int → Int
  | [], [] => 0
  | [], _ :: _ => -1
  | _ :: _, [] => 1
  | a :: l, b :: m => if a < b then -1 else if b < a then 1 else cmpI l m
def lcmp (x y : Lk) : Int := cmpI x.l y.l
theorem cmpI_refl : ∀ l, cmpI l l = 0
  | [] => rfl
  | a :: l => by simp [cmpI, cmpI_refl l]
theorem cmpI_eq : ∀ l m, cmpI l m = 0 → l = m
  | [], [], _ => rfl
  | [], _ :: _, h => by simp [cmpI] at h
  | _ :: _, [], h => by simp [cmpI] at h
  | a :: l, b :: m, h => by
    simp only [cmpI] at h
    split at h
    · cases h
    · split at h
      · cases h
      · rw [show a = b by omega, cmpI_eq l m h]
theorem cmpI_anti : ∀ l m, cmpI m l = - cmpI l m
  | [], [] => rfl
  | [], _ :: _ => rfl
  | _ :: _, [] => rfl
  | a :: l, b :: m => by
    simp only [cmpI]
    by_cases h1 : a < b
    · simp [h1, show ¬ b < a by omega]
    · by_cases h2 : b < a
      · simp [h1, h2]
      · simp [h1, h2, cmpI_anti l m]
theorem cmpI_vals : ∀ l m, cmpI l m = -1 ∨ cmpI l m = 0 ∨ cmpI l m = 1
  | [], [] => by simp [cmpI]
  | [], _ :: _ => by simp [cmpI]
  | _ :: _, [] => by simp [cmpI]
  | a :: l, b :: m => by
    simp only [cmpI]
    split
    · simp
    · split
      · simp
      · exact cmpI_vals l m
theorem cmpI_trans : ∀ l m n, cmpI l m = -1 → cmpI m n = -1 → cmpI l n = -1
  | [], _, [], h1, h2 => by
    rename_i m; cases m <;> simp [cmpI] at h1 h2
  | [], _, _ :: _, _, _ => rfl
  | _ :: _, [], _, h1, _ => by simp [cmpI] at h1
  | _ :: _, _ :: _, [], _, h2 => by simp [cmpI] at h2
  | a :: l, b :: m, c :: n, h1, h2 => by
    simp only [cmpI] at *
    by_cases ab : a < b
    · by_cases bc : b < c
      · simp [show a < c by omega]
      · by_cases cb : c < b
        · simp [bc, cb] at h2
        · have : b = c := by omega
          subst this; simp [ab]
    · by_cases ba : b < a
      · simp [ab, ba] at h1
      · have : a = b := by omega
        subst this
        simp only [ab, if_false] at h1
        by_cases bc : a < c
        · simp [bc]
        · by_cases cb : c < a
          · simp [bc, cb] at h2
          · simp only [bc, cb, if_false] at h2 ⊢
            exact cmpI_trans l m n h1 h2
theorem cmpI_part : ∀ (l m : List Int) (j : Nat), j < l.length → j < m.length → (∀ i, i < j → l.getD i 0 = m.getD i 0) → l.getD j 0 ≠ m.getD j 0 → cmpI l m = if l.getD j 0 < m.getD j 0 then -1 else 1
  | [], _, _, h, _, _, _ => by simp at h
  | _ :: _, [], _, _, h, _, _ => by simp at h
  | a :: l, b :: m, 0, _, _, _, h => by
    simp at h
    simp only [cmpI, List.getD_cons_zero]
    by_cases h1 : a < b
    · simp [h1]
    · simp [h1, show b < a by omega]
  | a :: l, b :: m, j + 1, h1, h2, h3, h4 => by
    have h0 := h3 0 (by omega)
    simp only [List.getD_cons_zero] at h0
    subst h0
    simp only [cmpI, List.getD_cons_succ, Int.lt_irrefl, if_false] at h4 ⊢
    exact cmpI_part l m j (by simpa using h1) (by simpa using h2) (fun i hi => by have := h3 (i + 1) (by omega); simpa using this) h4
theorem cmpI_all : ∀ (l m : List Int), (∀ i, i < l.length → i < m.length → l.getD i 0 = m.getD i 0) → cmpI l m = if l.length < m.length then -1 else if m.length < l.length then 1 else 0
  | [], [], _ => rfl
  | [], _ :: _, _ => by simp [cmpI]
  | _ :: _, [], _ => by simp [cmpI]
  | a :: l, b :: m, h => by
    have h0 := h 0 (by simp) (by simp)
    simp only [List.getD_cons_zero] at h0
    subst h0
    simp only [cmpI, Int.lt_irrefl, if_false, List.length_cons]
    rw [cmpI_all l m fun i h1 h2 => by have := h (i + 1) (by simpa using h1) (by simpa using h2); simpa using this]
    simp
def lplus (k : Nat) (x y : Lk) : Lk := Lk.of ((x.l ++ y.l).take k)
end Go.Proofs.YtjnmkdahbcmfaaaGreat

/- What a call that makes memory keeps; what a slice reads. -/
namespace Go.Proofs.YtjnmkdahbcmfaaaGreat
open Go.ChangeShapes Go.WideShapes Go.ChangeAt Go.RowKit
set_option linter.unusedVariables false
theorem bAlc {W0 W : World} (h : Below W0.heap.size W0 W) (o : Obj) : Below W0.heap.size W0 (W.alloc o) := h.alloc h.size o
theorem bStep {W0 W W1 : World} (h : Below W0.heap.size W0 W) (h1 : Below W.heap.size W W1) : Below W0.heap.size W0 W1 := h.trans (h1.mono h.size)
theorem bSet {W0 W : World} (h : Below W0.heap.size W0 W) (p : Addr) (v : Value) (hp : W0.heap.size ≤ p.block) : Below W0.heap.size W0 (W.setCell p v) := h.setCell hp v
theorem bDrw {W0 W : World} (h : Below W0.heap.size W0 W) : Below W0.heap.size W0 W.drew := h.drew
theorem bDrwN' {B : Nat} (W : World) (n : Nat) : Below B W (W.drewN n) := by
  induction n with
  | zero => exact Below.refl _ _
  | succ n ih => exact ih.drew
def Blk (w : World) (g : Nat) (t : TypeId) (cs : Array Value) : Prop := w.heap[g]? = some (.cells cs t (0, 0))
section
variable {w w' : World} {g : Nat} {t : TypeId} {cs : Array Value}
theorem Blk.lt (h : Blk w g t cs) : g < w.heap.size := (Array.getElem?_eq_some_iff.1 h).1
theorem Blk.cell (h : Blk w g t cs) (i : Nat) : w.cell? ⟨g, i, none⟩ = cs[i]? := cell_of_row w g i cs t (0, 0) h
theorem Blk.frozen (h : Blk w g t cs) (i : Nat) : w.frozen? ⟨g, i, none⟩ = false := by
  unfold Blk at h
  simp [World.frozen?, h]
theorem Blk.new (w : World) (t : TypeId) (cs : Array Value) : Blk (w.alloc (.cells cs t)) w.heap.size t cs := heap_alloc_new w _
theorem Blk.newAt (w : World) (t : TypeId) (cs : Array Value) (g : Nat) (h : g = w.heap.size) : Blk (w.alloc (.cells cs t)) g t cs := by subst h; exact Blk.new w t cs
theorem Blk.drew (h : Blk w g t cs) : Blk w.drew g t cs := h
theorem Blk.drewN (h : Blk w g t cs) (n : Nat) : Blk (w.drewN n) g t cs := h
theorem Blk.alloc (h : Blk w g t cs) (o : Obj) : Blk (w.alloc o) g t cs := (Below.heap_alloc w o g h.lt).trans h
theorem Blk.put (h : Blk w g t cs) (i : Nat) (u : Value) : Blk (w.setCell ⟨g, i, none⟩ u) g t (cs.setIfInBounds i u) := by
  unfold Blk at h ⊢
  simp [World.setCell, Array.getElem?_modify, h]
theorem Blk.far (h : Blk w g t cs) {p : Addr} (hp : g ≠ p.block) (u : Value) : Blk (w.setCell p u) g t cs := (Below.heap_setCell w p u g hp).trans h
theorem Blk.below {B : Nat} (h : Blk w g t cs) (hb : Below B w w') (hg : g < B) : Blk w' g t cs := (hb.block g hg).trans h
theorem Blk.step (h : Blk w g t cs) (hb : Below w.heap.size w w') : Blk w' g t cs := h.below hb h.lt
theorem Blk.grown {row : Option Nat} (h : Blk w g t cs) (hb : w.grownBy w' row) (hg : some g ≠ row) : Blk w' g t cs := (hb.block g h.lt hg).trans h
end
theorem cell_later {w w' : World} (hb : Below w.heap.size w w') {a : Addr} {v : Value} (h : w.cell? a = some v) : w'.cell? a = some v :=
  (hb.cell (block_lt_of_cell h)).trans h
structure KeptBy (w : World) where
  world : World
  kept : Below w.heap.size w world
def KeptBy.self (w : World) : KeptBy w := ⟨w, Below.refl _ _⟩
instance (w : World) : Inhabited (KeptBy w) := ⟨KeptBy.self w⟩
def KeptBy.next {w : World} (p : KeptBy w) {w' : World} (h : Below p.world.heap.size p.world w') : KeptBy w := ⟨w', p.kept.trans (h.mono p.kept.size)⟩
end Go.Proofs.YtjnmkdahbcmfaaaGreat

/- Contracts of the reference 13: both, Order, Plus, Join, Compare; of the reference 14: compare, join, range8, ranged. -/
namespace Go.Proofs.YtjnmkdahbcmfaaaGreat
open Go.ChangeShapes Go.WideShapes Go.ChangeAt Go.RowKit
set_option linter.unusedVariables false
theorem lcmp_part {x y : Lk} (hx : x.right 8) (hy : y.right 8) (j : Nat) (h1 : (j : Int) < x.n) (h2 : (j : Int) < y.n) (h : ∀ i, i < j → x.s i = y.s i) (hd : x.s j ≠ y.s j) : lcmp x y = if x.s j < y.s j then -1 else 1 := by
  have e1 := (right_l hx).1
  have e2 := (right_l hy).1
  rw [s_getD hx, s_getD hy] at hd ⊢
  exact cmpI_part _ _ j (by omega) (by omega) (fun i hi => by rw [← s_getD hx, ← s_getD hy]; exact h i hi) hd
theorem lcmp_all {x y : Lk} (hx : x.right 8) (hy : y.right 8) (h : ∀ i : Nat, (i : Int) < x.n → (i : Int) < y.n → x.s i = y.s i) : lcmp x y = if x.n < y.n then -1 else if y.n < x.n then 1 else 0 := by
  have e1 := (right_l hx).1
  have e2 := (right_l hy).1
  have := cmpI_all x.l y.l fun i h1 h2 => by rw [← s_getD hx, ← s_getD hy]; exact h i (by omega) (by omega)
  unfold lcmp
  rw [this]
  by_cases h1 : x.n < y.n
  · rw [if_pos (by omega), if_pos h1]
  · rw [if_neg (by omega), if_neg h1]
    by_cases h2 : y.n < x.n
    · rw [if_pos (by omega), if_pos h2]
    · rw [if_neg (by omega), if_neg h2]
end Go.Proofs.YtjnmkdahbcmfaaaGreat

/- Contracts: the sum of two looks. -/
namespace Go.Proofs.YtjnmkdahbcmfaaaGreat
open Go.ChangeShapes Go.WideShapes Go.ChangeAt Go.RowKit
set_option linter.unusedVariables false
def Lk.cells (x : Lk) : Array Value := #[.int .i64 x.n, .int .i64 x.a, .int .i64 x.b, .int .i64 x.c, .int .i64 x.d]
theorem size42 : (Tryz.prog.info? 45).map (·.size) = some 5 := by kernel_rfl
theorem results_look {fn : Func} {p : Tmp} (h : fn.results = #[.cell p 45]) (tmps : Array Value) (w : World) (g : Nat) (x : Lk) (hp : tmps.getD p undef = .pointer (some ⟨g, 0, none⟩)) (hg : Blk w g 45 x.cells) :
    (results fn tmps).run Tryz.prog w = .ok x.v w :=
  results_cell_row h tmps w g 45 x.cells (0, 0) _ hp hg under42 rfl size42
theorem put5 {w : World} {g : Nat} {y : Lk} (h : Blk w g 45 y.cells) (x : Lk) :
    Blk (((((w.setCell ⟨g, 0, none⟩ (.int .i64 x.n)).setCell ⟨g, 1, none⟩ (.int .i64 x.a)).setCell ⟨g, 2, none⟩ (.int .i64 x.b)).setCell ⟨g, 3, none⟩ (.int .i64 x.c)).setCell ⟨g, 4, none⟩ (.int .i64 x.d)) g 45 x.cells :=
  ((((h.put 0 (.int .i64 x.n)).put 1 (.int .i64 x.a)).put 2 (.int .i64 x.b)).put 3 (.int .i64 x.c)).put 4 (.int .i64 x.d)
end Go.Proofs.YtjnmkdahbcmfaaaGreat

/- Slices of looks: what reads as a list of looks, what is owned, how it is cut. -/
namespace Go.Proofs.YtjnmkdahbcmfaaaGreat
open Go.ChangeShapes Go.WideShapes Go.ChangeAt Go.RowKit
set_option linter.unusedVariables false
def cellsL (l : List Lk) : List Value := l.flatMap fun x => x.cells.toList
theorem cellsL_cons (x : Lk) (l : List Lk) : cellsL (x :: l) = x.cells.toList ++ cellsL l := by simp [cellsL]
theorem cellsL_append (l m : List Lk) : cellsL (l ++ m) = cellsL l ++ cellsL m := by simp [cellsL]
theorem cellsL_len : ∀ l : List Lk, (cellsL l).length = l.length * 5
  | [] => rfl
  | x :: l => by
    rw [cellsL_cons, List.length_append, cellsL_len l]
    show 5 + _ = _
    rw [List.length_cons]; omega
theorem cellsL_get : ∀ (l : List Lk) (i : Nat) (x : Lk), l[i]? = some x → ∀ j, j < 5 → (cellsL l)[i * 5 + j]? = x.cells[j]?
  | [], i, x, h, _, _ => by simp at h
  | y :: l, 0, x, h, j, hj => by
    have : y = x := by simpa using h
    subst this
    rw [cellsL_cons, Nat.zero_mul, Nat.zero_add, List.getElem?_append_left (by show j < 5; omega)]
    simp
  | y :: l, i + 1, x, h, j, hj => by
    rw [cellsL_cons, List.getElem?_append_right (by show 5 ≤ _; omega)]
    have := cellsL_get l i x (by simpa using h) j hj
    rw [← this]
    congr 1
    show (i + 1) * 5 + j - 5 = _
    omega
def RdL (w : World) (B : Nat) (A : Option Addr) (n : Nat) (l : List Lk) : Prop :=
  l.length = n ∧ (n = 0 ∨ ∃ b off, A = some ⟨b, off, none⟩ ∧ b < B ∧ ∀ (i : Nat) (x : Lk), l[i]? = some x → ∀ j, j < 5 → w.cell? ⟨b, off + i * 5 + j, none⟩ = x.cells[j]?)
theorem RdL.below {w w' : World} {B : Nat} {A : Option Addr} {n : Nat} {l : List Lk} (h : RdL w B A n l) (hb : Below B w w') : RdL w' B A n l := by
  refine ⟨h.1, ?_⟩
  rcases h.2 with h0 | ⟨b, off, rfl, hlt, hc⟩
  · exact .inl h0
  · exact .inr ⟨b, off, rfl, hlt, fun i x hx j hj => by rw [hb.cell (p := ⟨b, off + i * 5 + j, none⟩) hlt]; exact hc i x hx j hj⟩
theorem RdL.mono {w : World} {B B' : Nat} {A : Option Addr} {n : Nat} {l : List Lk} (h : RdL w B A n l) (hb : B ≤ B') : RdL w B' A n l := by
  refine ⟨h.1, ?_⟩
  rcases h.2 with h0 | ⟨b, off, rfl, hlt, hc⟩
  · exact .inl h0
  · exact .inr ⟨b, off, rfl, by omega, hc⟩
theorem RdL.nil (w : World) (B : Nat) (A : Option Addr) : RdL w B A 0 [] := ⟨rfl, .inl rfl⟩
theorem RdL.get {w : World} {B : Nat} {A : Option Addr} {n : Nat} {l : List Lk} (h : RdL w B A n l) {i : Nat} {x : Lk} (hi : l[i]? = some x) :
    ∃ b off, A = some ⟨b, off, none⟩ ∧ b < B ∧ w.cell? ⟨b, off + i * 5, none⟩ = some (.int .i64 x.n) ∧ w.cell? ⟨b, off + i * 5 + 1, none⟩ = some (.int .i64 x.a) ∧ w.cell? ⟨b, off + i * 5 + 2, none⟩ = some (.int .i64 x.b) ∧
      w.cell? ⟨b, off + i * 5 + 3, none⟩ = some (.int .i64 x.c) ∧ w.cell? ⟨b, off + i * 5 + 4, none⟩ = some (.int .i64 x.d) := by
  have hlt := (List.getElem?_eq_some_iff.1 hi).1
  rcases h.2 with h0 | ⟨b, off, rfl, hb, hc⟩
  · have := h.1; omega
  · exact ⟨b, off, rfl, hb, hc i x hi 0 (by omega), hc i x hi 1 (by omega), hc i x hi 2 (by omega), hc i x hi 3 (by omega), hc i x hi 4 (by omega)⟩
theorem info42 : (Tryz.prog.info? 45).map (fun i => (i.zero, i.size, i.bytes)) = some (some (Lk.of []).v, 5, 40) := by kernel_rfl
theorem RdL.drop {w : World} {B : Nat} {A : Option Addr} {n : Nat} {l : List Lk} (h : RdL w B A n l) (k c : Nat) (hk : k ≤ n) (hc : n ≤ c) : RdL w B (if c = k then A else A.map (·.add (k * 5))) (n - k) (l.drop k) := by
  refine ⟨by rw [List.length_drop, h.1], ?_⟩
  rcases h.2 with h0 | ⟨b, off, rfl, hlt, hcell⟩
  · left; omega
  · by_cases e : n - k = 0
    · exact .inl e
    · right
      rw [if_neg (by omega)]
      refine ⟨b, off + k * 5, by simp [Addr.add], hlt, fun i x hx j hj => ?_⟩
      have := hcell (k + i) x (by rw [List.getElem?_drop] at hx; exact hx) j hj
      rw [← this]
      congr 2
      omega
theorem RdL.take {w : World} {B : Nat} {A : Option Addr} {n : Nat} {l : List Lk} (h : RdL w B A n l) (k : Nat) (hk : k ≤ n) : RdL w B A k (l.take k) := by
  refine ⟨by rw [List.length_take, h.1]; omega, ?_⟩
  rcases h.2 with h0 | ⟨b, off, rfl, hlt, hcell⟩
  · left; omega
  · refine .inr ⟨b, off, rfl, hlt, fun i x hx j hj => hcell i x ?_ j hj⟩
    rw [List.getElem?_take] at hx
    split at hx
    · exact hx
    · cases hx
def OwnL (w : World) (base : Nat) (v : Value) (l : List Lk) : Prop := w.ownsRow base 45 5 v l.length (cellsL l)
theorem OwnL.reads {w : World} {base : Nat} {v : Value} {l : List Lk} (h : OwnL w base v l) : ∃ A c, v = .slice A l.length c ∧ RdL w w.heap.size A l.length l ∧ l.length ≤ c ∧ c ≤ maxLen ∧ (∀ a, A = some a → base ≤ a.block) := by
  rcases h.2 with ⟨rfl, h0⟩ | ⟨g, cap, cur, rfl, hb, hg, hnc, hcm, hcs, ht⟩
  · refine ⟨none, 0, by rw [h0], ⟨rfl, .inl h0⟩, by omega, by simp [maxLen], by simp⟩
  · refine ⟨some ⟨g, 0, none⟩, cap, rfl, ⟨rfl, ?_⟩, hnc, hcm, by simp; exact hb⟩
    refine .inr ⟨g, 0, rfl, (Array.getElem?_eq_some_iff.1 hg).1, fun i x hx j hj => ?_⟩
    have hlt := (List.getElem?_eq_some_iff.1 hx).1
    rw [cell_of_row w g _ cur 45 (0, 0) hg, ← cellsL_get l i x hx j hj, ← ht, List.getElem?_take, if_pos (by omega), Nat.zero_add]
    simp
theorem OwnL.nil (w : World) (base : Nat) : OwnL w base (.slice none 0 0) [] := World.ownsRow_nil w base 45 5
theorem OwnL.alloc {w : World} {base : Nat} {v : Value} {l : List Lk} (h : OwnL w base v l) (o : Obj) : OwnL (w.alloc o) base v l := World.ownsRow.alloc h o
theorem OwnL.step {w w' : World} {base : Nat} {v : Value} {l : List Lk} (h : OwnL w base v l) (hb : Below w.heap.size w w') : OwnL w' base v l := by
  refine ⟨h.1, ?_⟩
  rcases h.2 with hn | ⟨g, cap, cur, rfl, hg0, hg, rest⟩
  · exact .inl hn
  · exact .inr ⟨g, cap, cur, rfl, hg0, (hb.block g (Array.getElem?_eq_some_iff.1 hg).1).trans hg, rest⟩
theorem OwnL.mono {w : World} {base b' : Nat} {v : Value} {l : List Lk} (h : OwnL w base v l) (hb : b' ≤ base) : OwnL w b' v l := by
  refine ⟨h.1, ?_⟩
  rcases h.2 with hn | ⟨g, cap, cur, rfl, hg0, hg, rest⟩
  · exact .inl hn
  · exact .inr ⟨g, cap, cur, rfl, by omega, hg, rest⟩
theorem own_in {w : World} {base : Nat} {e : TypeId} {size : Nat} {v : Value} {n : Nat} {xs : List Value} (h : w.ownsRow base e size v n xs) : ∀ k, v.ownBlock = some k → base ≤ k ∧ k < w.heap.size := h.lt
section
variable (w : World) {P : Program} {ops : Array Oper} {rest : List Oper} {o : Oper} {a : Act} {Q : Exit → Act → World → Prop}
theorem wpList_push (hgd : o.guard = none) (s x : Operand) (t : TypeId) (ho : o.op = .call { callee := .builtin .append, args := #[s, x], argTypes := #[t, t] })
    (base : Nat) (e : TypeId) (z : Value) (size bytes : Nat) (ht : P.underlying t = some (.slice e)) (hi : (P.info? e).map (fun i => (i.zero, i.size, i.bytes)) = some (some z, size, bytes)) (hzs : z.cells.size = size) (hsz : 0 < size)
    (v : Value) (n : Nat) (xs : List Value) (hs : a.eval s = v) (hown : w.ownsRow base e size v n xs) (g : Nat) (cs : Array Value) (hx : a.eval x = .slice (some ⟨g, 0, none⟩) 1 1) (hb : Blk w g e cs) (hc : cs.size = size)
    (h1 : ∀ u ∈ cs.toList, u.oneCell' = true) (h63 : n < 1000000) (hbytes : bytes ≤ 1000000) (hbase : base ≤ w.heap.size)
    (h : ∀ v' w', w'.ownsRow base e size v' (n + 1) (xs ++ cs.toList) → w.grownBy w' v.ownBlock → (v'.ownBlock = v.ownBlock ∨ v'.ownBlock = some w.heap.size) → (∀ W0, Below base W0 w → Below base W0 w') → wpList P ops Q rest (a.put o.dst v') w') : wpList P ops Q (o :: rest) a w := by
  obtain ⟨i0, hi0, hz0, hz1, hz2⟩ := info_parts hi
  refine wpList_append_own_at w hgd s x t ho base e i0 z size bytes ht hi0 hz0 hz1 hz2 hzs hsz v n xs hs hown ⟨g, 0, none⟩ 1 1 cs.toList hx (by simp [hc]) ?_ h1 (by unfold maxLen; omega) ?_ hbase ?_
  · intro j u hu
    have : (⟨g, 0, none⟩ : Addr).add j = ⟨g, j, none⟩ := by unfold Addr.add; split <;> simp_all
    rw [this, hb.cell]
    simpa using hu
  · have := Nat.mul_le_mul (show n + 1 ≤ 1000000 by omega) hbytes
    omega
  · intro v' w' h2 h3 h4 h5
    exact h v' w' h2 h3 h5 fun W0 hB => hB.grown h3 hbase (fun k hk => (own_in hown k hk).1)
theorem wpList_pushL (hgd : o.guard = none) (s x : Operand) (ho : o.op = .call { callee := .builtin .append, args := #[s, x], argTypes := #[147, 147] })
    (base : Nat) (v : Value) (l : List Lk) (hs : a.eval s = v) (hown : OwnL w base v l) (g : Nat) (k : Lk) (hx : a.eval x = .slice (some ⟨g, 0, none⟩) 1 1) (hb : Blk w g 45 k.cells) (h63 : l.length < 1000000) (hbase : base ≤ w.heap.size)
    (h : ∀ v' w', OwnL w' base v' (l ++ [k]) → w.grownBy w' v.ownBlock → (v'.ownBlock = v.ownBlock ∨ v'.ownBlock = some w.heap.size) → (∀ W0, Below base W0 w → Below base W0 w') → wpList Tryz.prog ops Q rest (a.put o.dst v') w') : wpList Tryz.prog ops Q (o :: rest) a w := by
  refine wpList_push w hgd s x 147 ho base 45 _ 5 40 (by kernel_rfl) info42 rfl (by omega) v l.length (cellsL l) hs hown g k.cells hx hb rfl (by simp [Lk.cells, Value.oneCell']) h63 (by omega) hbase ?_
  intro v' w' h2 h3 h4 h5
  refine h v' w' ?_ h3 h4 h5
  unfold OwnL
  rw [cellsL_append, List.length_append]
  have : cellsL [k] = k.cells.toList := by simp [cellsL]
  rw [this]
  exact h2
theorem OwnL.empty (w : World) (base : Nat) (h : base ≤ w.heap.size) : OwnL (w.alloc (.cells #[] 45)) base (.slice (some ⟨w.heap.size, 0, none⟩) 0 0) [] :=
  ⟨rfl, .inr ⟨w.heap.size, 0, #[], rfl, h, heap_alloc_new w _, Nat.le_refl _, by simp [maxLen], rfl, rfl⟩⟩
end
end Go.Proofs.YtjnmkdahbcmfaaaGreat

/- The reference 14: merge. -/
namespace Go.Proofs.YtjnmkdahbcmfaaaGreat
open Go.ChangeShapes Go.WideShapes Go.ChangeAt Go.RowKit
set_option linter.unusedVariables false
def mgo (x : Lk) (f : List Lk → List Lk) : List Lk → List Lk
  | [] => x :: f []
  | y :: b => if lcmp x y < 0 then x :: f (y :: b) else if 0 < lcmp x y then y :: mgo x f b else x :: f b
def lmerge : List Lk → List Lk → List Lk
  | [], b => b
  | x :: a, b => mgo x (lmerge a) b
theorem lmerge_nil (a : List Lk) : lmerge a [] = a := by
  induction a with
  | nil => rfl
  | cons x a ih => show x :: lmerge a [] = _; rw [ih]
theorem lmerge_cons (x y : Lk) (a b : List Lk) : lmerge (x :: a) (y :: b) = if lcmp x y < 0 then x :: lmerge a (y :: b) else if 0 < lcmp x y then y :: lmerge (x :: a) b else x :: lmerge a b := rfl
def RetL (w : World) (l : List Lk) (e : Ending) (w' : World) : Prop := ∃ v, e = .returned v ∧ OwnL w' w.heap.size v l ∧ Below w.heap.size w w'
theorem RdL.tail {w : World} {B b off n : Nat} {x : Lk} {l : List Lk} (h : RdL w B (some ⟨b, off, none⟩) n (x :: l)) : RdL w B (some ⟨b, off + 5, none⟩) (n - 1) l := by
  have h0 : 0 < n := by rw [← h.1]; simp
  have := h.drop 1 (n + 1) (by omega) (by omega)
  rw [if_neg (by omega)] at this
  simpa [Addr.add] using this
end Go.Proofs.YtjnmkdahbcmfaaaGreat

/- Ascending lists of looks. Plain. -/
namespace Go.Proofs.YtjnmkdahbcmfaaaGreat
set_option linter.unusedVariables false
def Asc (l : List Lk) : Prop := l.Pairwise fun x y => lcmp x y = -1
theorem lcmp_refl (x : Lk) : lcmp x x = 0 := cmpI_refl _
theorem lcmp_anti (x y : Lk) : lcmp y x = - lcmp x y := cmpI_anti _ _
theorem lcmp_vals (x y : Lk) : lcmp x y = -1 ∨ lcmp x y = 0 ∨ lcmp x y = 1 := cmpI_vals _ _
theorem lcmp_trans {x y z : Lk} (h1 : lcmp x y = -1) (h2 : lcmp y z = -1) : lcmp x z = -1 := cmpI_trans _ _ _ h1 h2
theorem lcmp_eq {x y : Lk} {m k : Int} (hx : x.right m) (hy : y.right k) (h : lcmp x y = 0) : x = y := right_ext hx hy (cmpI_eq _ _ h)
theorem asc_nil : Asc [] := List.Pairwise.nil
theorem asc_one (x : Lk) : Asc [x] := List.pairwise_singleton _ _
theorem asc_cons {x : Lk} {l : List Lk} : Asc (x :: l) ↔ (∀ y ∈ l, lcmp x y = -1) ∧ Asc l := List.pairwise_cons
theorem asc_uniq : ∀ {a b : List Lk}, Asc a → Asc b → (∀ x, x ∈ a ↔ x ∈ b) → a = b
  | [], [], _, _, _ => rfl
  | [], y :: b, _, _, h => absurd ((h y).2 (by simp)) (by simp)
  | x :: a, [], _, _, h => absurd ((h x).1 (by simp)) (by simp)
  | x :: a, y :: b, ha, hb, h => by
    obtain ⟨a1, a2⟩ := asc_cons.1 ha
    obtain ⟨b1, b2⟩ := asc_cons.1 hb
    have hxy : x = y := by
      have h1 := (h x).1 (by simp)
      have h2 := (h y).2 (by simp)
      rcases List.mem_cons.1 h1 with e | h1
      · exact e
      · rcases List.mem_cons.1 h2 with e | h2
        · exact e.symm
        · have e1 := a1 y h2
          have e2 := b1 x h1
          rw [lcmp_anti, e1] at e2
          omega
    subst hxy
    have hn : ∀ {l : List Lk}, (∀ y ∈ l, lcmp x y = -1) → x ∉ l := fun hl hm => by
      have := hl x hm
      rw [lcmp_refl] at this
      omega
    congr 1
    refine asc_uniq a2 b2 fun z => ?_
    constructor
    · intro hz
      rcases List.mem_cons.1 ((h z).1 (by simp [hz])) with e | h'
      · subst e; exact absurd hz (hn a1)
      · exact h'
    · intro hz
      rcases List.mem_cons.1 ((h z).2 (by simp [hz])) with e | h'
      · subst e; exact absurd hz (hn b1)
      · exact h'
theorem merge_mem {k : Int} : ∀ (a b : List Lk), (∀ x ∈ a, x.right k) → (∀ x ∈ b, x.right k) → ∀ z, z ∈ lmerge a b ↔ z ∈ a ∨ z ∈ b
  | [], b, _, _, z => by simp [lmerge]
  | x :: a, [], _, _, z => by rw [lmerge_nil]; simp
  | x :: a, y :: b, ha, hb, z => by
    have h1 := merge_mem a (y :: b) (fun z hz => ha z (by simp [hz])) hb z
    have h2 := merge_mem (x :: a) b ha (fun z hz => hb z (by simp [hz])) z
    have h3 := merge_mem a b (fun z hz => ha z (by simp [hz])) (fun z hz => hb z (by simp [hz])) z
    rw [lmerge_cons]
    split
    · rw [List.mem_cons, h1]; simp [or_assoc]
    · split
      · rw [List.mem_cons, h2]; simp [or_assoc, or_left_comm]
      · have e : x = y := lcmp_eq (ha x (by simp)) (hb y (by simp)) (by rcases lcmp_vals x y with h | h | h <;> omega)
        subst e
        rw [List.mem_cons, h3]; simp [or_assoc]
        constructor
        · rintro (h | h | h) <;> simp [h]
        · rintro (h | h | h | h) <;> simp [h]
termination_by a b => a.length + b.length
theorem merge_asc {k : Int} : ∀ (a b : List Lk), (∀ x ∈ a, x.right k) → (∀ x ∈ b, x.right k) → Asc a → Asc b → Asc (lmerge a b)
  | [], b, _, _, _, hb => hb
  | x :: a, [], _, _, ha, _ => by rw [lmerge_nil]; exact ha
  | x :: a, y :: b, ra, rb, ha, hb => by
    obtain ⟨a1, a2⟩ := asc_cons.1 ha
    obtain ⟨b1, b2⟩ := asc_cons.1 hb
    have ra' : ∀ x ∈ a, x.right k := fun z hz => ra z (by simp [hz])
    have rb' : ∀ x ∈ b, x.right k := fun z hz => rb z (by simp [hz])
    have h1 := merge_asc a (y :: b) ra' rb a2 hb
    have h2 := merge_asc (x :: a) b ra rb' ha b2
    have h3 := merge_asc a b ra' rb' a2 b2
    rw [lmerge_cons]
    split
    · rename_i hc
      have hc : lcmp x y = -1 := by rcases lcmp_vals x y with h | h | h <;> omega
      refine asc_cons.2 ⟨fun z hz => ?_, h1⟩
      rcases (merge_mem a (y :: b) ra' rb z).1 hz with h | h
      · exact a1 z h
      · rcases List.mem_cons.1 h with e | h
        · rw [e]; exact hc
        · exact lcmp_trans hc (b1 z h)
    · split
      · rename_i _ hc
        have hc : lcmp y x = -1 := by rw [lcmp_anti]; rcases lcmp_vals x y with h | h | h <;> omega
        refine asc_cons.2 ⟨fun z hz => ?_, h2⟩
        rcases (merge_mem (x :: a) b ra rb' z).1 hz with h | h
        · rcases List.mem_cons.1 h with e | h
          · rw [e]; exact hc
          · exact lcmp_trans hc (a1 z h)
        · exact b1 z h
      · have e : x = y := lcmp_eq (ra x (by simp)) (rb y (by simp)) (by rcases lcmp_vals x y with h | h | h <;> omega)
        subst e
        refine asc_cons.2 ⟨fun z hz => ?_, h3⟩
        rcases (merge_mem a b ra' rb' z).1 hz with h | h
        · exact a1 z h
        · exact b1 z h
termination_by a b => a.length + b.length
theorem merge_len : ∀ (a b : List Lk), (lmerge a b).length ≤ a.length + b.length
  | [], b => by simp [lmerge]
  | x :: a, [] => by rw [lmerge_nil]; simp
  | x :: a, y :: b => by
    have h1 := merge_len a (y :: b)
    have h2 := merge_len (x :: a) b
    have h3 := merge_len a b
    simp only [List.length_cons] at *
    rw [lmerge_cons]
    split
    · simp only [List.length_cons]; omega
    · split <;> (simp only [List.length_cons]; omega)
termination_by a b => a.length + b.length
def lset (l : List Lk) : List Lk := l.foldr (fun x s => lmerge [x] s) []
theorem lset_cons (x : Lk) (l : List Lk) : lset (x :: l) = lmerge [x] (lset l) := rfl
theorem lset_facts {k : Int} : ∀ l : List Lk, (∀ x ∈ l, x.right k) → Asc (lset l) ∧ (∀ z, z ∈ lset l ↔ z ∈ l) ∧ (lset l).length ≤ l.length
  | [], _ => ⟨asc_nil, fun z => Iff.rfl, Nat.le_refl _⟩
  | x :: l, h => by
    obtain ⟨h1, h2, h3⟩ := lset_facts l fun z hz => h z (by simp [hz])
    have r1 : ∀ z ∈ [x], z.right k := fun z hz => by simp at hz; rw [hz]; exact h x (by simp)
    have r2 : ∀ z ∈ lset l, z.right k := fun z hz => h z (by simp [(h2 z).1 hz])
    rw [lset_cons]
    refine ⟨merge_asc _ _ r1 r2 (asc_one x) h1, fun z => ?_, ?_⟩
    · rw [merge_mem _ _ r1 r2, h2]; simp
    · have := merge_len [x] (lset l)
      simp only [List.length_cons, List.length_nil] at *
      omega
theorem lset_asc {k : Int} {l : List Lk} (h : ∀ x ∈ l, x.right k) : Asc (lset l) := (lset_facts l h).1
theorem lset_mem {k : Int} {l : List Lk} (h : ∀ x ∈ l, x.right k) (z : Lk) : z ∈ lset l ↔ z ∈ l := (lset_facts l h).2.1 z
theorem lset_len {k : Int} {l : List Lk} (h : ∀ x ∈ l, x.right k) : (lset l).length ≤ l.length := (lset_facts l h).2.2
theorem lset_of {k : Int} {l s : List Lk} (h : ∀ x ∈ l, x.right k) (hs : Asc s) (hm : ∀ z, z ∈ s ↔ z ∈ l) : s = lset l :=
  asc_uniq hs (lset_asc h) fun z => by rw [hm, lset_mem h]
theorem lset_same {k : Int} {l m : List Lk} (h : ∀ x ∈ l, x.right k) (hm : ∀ z, z ∈ m ↔ z ∈ l) : lset m = lset l :=
  lset_of h (lset_asc fun x hx => h x ((hm x).1 hx)) fun z => by rw [lset_mem fun x hx => h x ((hm x).1 hx)]; exact hm z
end Go.Proofs.YtjnmkdahbcmfaaaGreat

/- The reference 14: sorted, cut, Check, Cut. -/
namespace Go.Proofs.YtjnmkdahbcmfaaaGreat
open Go.ChangeShapes Go.WideShapes Go.ChangeAt Go.RowKit
set_option linter.unusedVariables false
theorem nil_right (m : Int) (h : 1 ≤ m ∧ m ≤ 8) : (Lk.of []).right m := of_right h (by simp) (by simp)
end Go.Proofs.YtjnmkdahbcmfaaaGreat

/- Grammars in memory. -/
namespace Go.Proofs.YtjnmkdahbcmfaaaGreat
open Go.ChangeShapes Go.WideShapes Go.ChangeAt Go.RowKit
set_option linter.unusedVariables false
def Rd1 (w : World) (B : Nat) (A : Option Addr) (n : Nat) (vs : List Value) : Prop :=
  vs.length = n ∧ (n = 0 ∨ ∃ b off, A = some ⟨b, off, none⟩ ∧ b < B ∧ ∀ (i : Nat) (v : Value), vs[i]? = some v → w.cell? ⟨b, off + i, none⟩ = some v)
theorem Rd1.below {w w' : World} {B : Nat} {A : Option Addr} {n : Nat} {l : List Value} (h : Rd1 w B A n l) (hb : Below B w w') : Rd1 w' B A n l := by
  refine ⟨h.1, ?_⟩
  rcases h.2 with h0 | ⟨b, off, rfl, hlt, hc⟩
  · exact .inl h0
  · exact .inr ⟨b, off, rfl, hlt, fun i x hx => by rw [hb.cell (p := ⟨b, off + i, none⟩) hlt]; exact hc i x hx⟩
theorem Rd1.mono {w : World} {B B' : Nat} {A : Option Addr} {n : Nat} {l : List Value} (h : Rd1 w B A n l) (hb : B ≤ B') : Rd1 w B' A n l := by
  refine ⟨h.1, ?_⟩
  rcases h.2 with h0 | ⟨b, off, rfl, hlt, hc⟩
  · exact .inl h0
  · exact .inr ⟨b, off, rfl, by omega, hc⟩
theorem Rd1.get {w : World} {B : Nat} {A : Option Addr} {n : Nat} {l : List Value} (h : Rd1 w B A n l) {i : Nat} {v : Value} (hi : l[i]? = some v) :
    ∃ b off, A = some ⟨b, off, none⟩ ∧ b < B ∧ w.cell? ⟨b, off + i, none⟩ = some v := by
  have hlt := (List.getElem?_eq_some_iff.1 hi).1
  rcases h.2 with h0 | ⟨b, off, rfl, hb, hc⟩
  · have := h.1; omega
  · exact ⟨b, off, rfl, hb, hc i v hi⟩
theorem Rd1.nil (w : World) (B : Nat) (A : Option Addr) : Rd1 w B A 0 [] := ⟨rfl, .inl rfl⟩
theorem Rd1.drop {w : World} {B : Nat} {A : Option Addr} {n : Nat} {l : List Value} (h : Rd1 w B A n l) (k c : Nat) (hk : k ≤ n) (hc : n ≤ c) : Rd1 w B (if c = k then A else A.map (·.add k)) (n - k) (l.drop k) := by
  refine ⟨by rw [List.length_drop, h.1], ?_⟩
  rcases h.2 with h0 | ⟨b, off, rfl, hlt, hcell⟩
  · left; omega
  · by_cases e : n - k = 0
    · exact .inl e
    · right
      rw [if_neg (by omega)]
      refine ⟨b, off + k, by simp [Addr.add], hlt, fun i x hx => ?_⟩
      have := hcell (k + i) x (by rw [List.getElem?_drop] at hx; exact hx)
      rw [← this]
      congr 2
      omega
def ints (l : List Int) : List Value := l.map (Value.int .i64)
def strs (l : List ByteArray) : List Value := l.map Value.string
structure Pr where
  left : Int
  right : List Int
  deriving DecidableEq, Inhabited
structure Gr where
  k : Int
  toks : List ByteArray
  sep : ByteArray
  names : List ByteArray
  start : Int
  prods : List Pr
  deriving Inhabited
def RdP (w : World) (B : Nat) (A : Option Addr) (n : Nat) (ps : List Pr) : Prop :=
  ps.length = n ∧ (n = 0 ∨ ∃ b off, A = some ⟨b, off, none⟩ ∧ b < B ∧ ∀ (i : Nat) (p : Pr), ps[i]? = some p → w.cell? ⟨b, off + i * 2, none⟩ = some (.int .i64 p.left) ∧
    ∃ RA c, w.cell? ⟨b, off + i * 2 + 1, none⟩ = some (.slice RA p.right.length c) ∧ Rd1 w B RA p.right.length (ints p.right) ∧ p.right.length ≤ c ∧ c ≤ maxLen)
theorem RdP.below {w w' : World} {B : Nat} {A : Option Addr} {n : Nat} {l : List Pr} (h : RdP w B A n l) (hb : Below B w w') : RdP w' B A n l := by
  refine ⟨h.1, ?_⟩
  rcases h.2 with h0 | ⟨b, off, rfl, hlt, hc⟩
  · exact .inl h0
  · refine .inr ⟨b, off, rfl, hlt, fun i x hx => ?_⟩
    obtain ⟨h1, RA, c, h2, h3, h4⟩ := hc i x hx
    exact ⟨by rw [hb.cell (p := ⟨b, off + i * 2, none⟩) hlt]; exact h1, RA, c, by rw [hb.cell (p := ⟨b, off + i * 2 + 1, none⟩) hlt]; exact h2, h3.below hb, h4⟩
theorem RdP.mono {w : World} {B B' : Nat} {A : Option Addr} {n : Nat} {l : List Pr} (h : RdP w B A n l) (hb : B ≤ B') : RdP w B' A n l := by
  refine ⟨h.1, ?_⟩
  rcases h.2 with h0 | ⟨b, off, rfl, hlt, hc⟩
  · exact .inl h0
  · refine .inr ⟨b, off, rfl, by omega, fun i x hx => ?_⟩
    obtain ⟨h1, RA, c, h2, h3, h4⟩ := hc i x hx
    exact ⟨h1, RA, c, h2, h3.mono hb, h4⟩
theorem RdP.get {w : World} {B : Nat} {A : Option Addr} {n : Nat} {l : List Pr} (h : RdP w B A n l) {i : Nat} {p : Pr} (hi : l[i]? = some p) :
    ∃ b off, A = some ⟨b, off, none⟩ ∧ b < B ∧ w.cell? ⟨b, off + i * 2, none⟩ = some (.int .i64 p.left) ∧
      ∃ RA c, w.cell? ⟨b, off + i * 2 + 1, none⟩ = some (.slice RA p.right.length c) ∧ Rd1 w B RA p.right.length (ints p.right) ∧ p.right.length ≤ c ∧ c ≤ maxLen := by
  have hlt := (List.getElem?_eq_some_iff.1 hi).1
  rcases h.2 with h0 | ⟨b, off, rfl, hb, hc⟩
  · have := h.1; omega
  · exact ⟨b, off, rfl, hb, hc i p hi⟩
structure GA where
  ta : Option Addr
  tc : Nat
  na : Option Addr
  nc : Nat
  pa : Option Addr
  pc : Nat
abbrev gcells (g : Gr) (a : GA) : Array Value := #[.int .i64 g.k, .slice a.ta g.toks.length a.tc, .string g.sep, .slice a.na g.names.length a.nc, .int .i64 g.start, .slice a.pa g.prods.length a.pc]
abbrev gval (g : Gr) (a : GA) : Value := .agg (gcells g a)
structure GrAt (w : World) (B : Nat) (g : Gr) (a : GA) : Prop where
  toks : Rd1 w B a.ta g.toks.length (strs g.toks)
  tc : g.toks.length ≤ a.tc
  tm : a.tc ≤ maxLen
  names : Rd1 w B a.na g.names.length (strs g.names)
  nc : g.names.length ≤ a.nc
  nm : a.nc ≤ maxLen
  prods : RdP w B a.pa g.prods.length g.prods
  pc : g.prods.length ≤ a.pc
  pm : a.pc ≤ maxLen
  sep : g.sep.size ≤ maxLen
  ts : ∀ s ∈ g.toks, s.size ≤ maxLen
  ns : ∀ s ∈ g.names, s.size ≤ maxLen
theorem GrAt.below {w w' : World} {B : Nat} {g : Gr} {a : GA} (h : GrAt w B g a) (hb : Below B w w') : GrAt w' B g a :=
  ⟨h.toks.below hb, h.tc, h.tm, h.names.below hb, h.nc, h.nm, h.prods.below hb, h.pc, h.pm, h.sep, h.ts, h.ns⟩
theorem GrAt.mono {w : World} {B B' : Nat} {g : Gr} {a : GA} (h : GrAt w B g a) (hb : B ≤ B') : GrAt w B' g a :=
  ⟨h.toks.mono hb, h.tc, h.tm, h.names.mono hb, h.nc, h.nm, h.prods.mono hb, h.pc, h.pm, h.sep, h.ts, h.ns⟩
theorem GrAt.step {w w' : World} {g : Gr} {a : GA} (h : GrAt w w.heap.size g a) (hb : Below w.heap.size w w') : GrAt w' w'.heap.size g a := (h.below hb).mono hb.size
end Go.Proofs.YtjnmkdahbcmfaaaGreat

/- append, on slices of the call's own of one-cell values. -/
namespace Go.Proofs.YtjnmkdahbcmfaaaGreat
open Go.ChangeShapes Go.WideShapes Go.ChangeAt Go.RowKit
set_option linter.unusedVariables false
def Own1 (w : World) (base : Nat) (e : TypeId) (v : Value) (vs : List Value) : Prop := w.ownsRow base e 1 v vs.length vs
theorem Own1.nil (w : World) (base : Nat) (e : TypeId) : Own1 w base e (.slice none 0 0) [] := World.ownsRow_nil w base e 1
theorem Own1.alloc {w : World} {base : Nat} {e : TypeId} {v : Value} {l : List Value} (h : Own1 w base e v l) (o : Obj) : Own1 (w.alloc o) base e v l := World.ownsRow.alloc h o
theorem Own1.empty (w : World) (base : Nat) (e : TypeId) (h : base ≤ w.heap.size) : Own1 (w.alloc (.cells #[] e)) base e (.slice (some ⟨w.heap.size, 0, none⟩) 0 0) [] :=
  ⟨rfl, .inr ⟨w.heap.size, 0, #[], rfl, h, heap_alloc_new w _, Nat.le_refl _, by simp [maxLen], rfl, rfl⟩⟩
theorem Own1.step {w w' : World} {base : Nat} {e : TypeId} {v : Value} {l : List Value} (h : Own1 w base e v l) (hb : Below w.heap.size w w') : Own1 w' base e v l := by
  refine ⟨h.1, ?_⟩
  rcases h.2 with hn | ⟨g, cap, cur, rfl, hg0, hg, rest⟩
  · exact .inl hn
  · exact .inr ⟨g, cap, cur, rfl, hg0, (hb.block g (Array.getElem?_eq_some_iff.1 hg).1).trans hg, rest⟩
theorem Own1.mono {w : World} {base b' : Nat} {e : TypeId} {v : Value} {l : List Value} (h : Own1 w base e v l) (hb : b' ≤ base) : Own1 w b' e v l := by
  refine ⟨h.1, ?_⟩
  rcases h.2 with hn | ⟨g, cap, cur, rfl, hg0, hg, rest⟩
  · exact .inl hn
  · exact .inr ⟨g, cap, cur, rfl, by omega, hg, rest⟩
theorem Own1.reads {w : World} {base : Nat} {e : TypeId} {v : Value} {l : List Value} (h : Own1 w base e v l) : ∃ A c, v = .slice A l.length c ∧ Rd1 w w.heap.size A l.length l ∧ l.length ≤ c ∧ c ≤ maxLen ∧ (∀ a, A = some a → base ≤ a.block) := by
  rcases h.2 with ⟨rfl, h0⟩ | ⟨g, cap, cur, rfl, hb, hg, hnc, hcm, hcs, ht⟩
  · refine ⟨none, 0, by rw [h0], ⟨rfl, .inl h0⟩, by omega, by simp [maxLen], by simp⟩
  · refine ⟨some ⟨g, 0, none⟩, cap, rfl, ⟨rfl, ?_⟩, hnc, hcm, by simp; exact hb⟩
    refine .inr ⟨g, 0, rfl, (Array.getElem?_eq_some_iff.1 hg).1, fun i x hx => ?_⟩
    have hlt := (List.getElem?_eq_some_iff.1 hx).1
    rw [← ht, List.getElem?_take, if_pos (by omega)] at hx
    rw [cell_of_row w g _ cur e (0, 0) hg, Nat.zero_add]
    simpa using hx
section
variable (w : World) {P : Program} {ops : Array Oper} {rest : List Oper} {o : Oper} {a : Act} {K : Act → World → Prop} {Q : Exit → Act → World → Prop} {E : Prop}
theorem step_of_wp (hgd : o.guard = none) (h : Oper.wp P o a w K Q) : if Region.wanted o (yielded ops a.tmps) = true then Oper.wp P o a w K Q else E := by
  have hw : Region.wanted o (yielded ops a.tmps) = true := by simp [Region.wanted, hgd]
  rw [if_pos hw]
  exact h
theorem wp_join1 (s x : Operand) (t : TypeId) (ho : o.op = .call { callee := .builtin .append, args := #[s, x], argTypes := #[t, t] })
    (base : Nat) (e : TypeId) (z : Value) (bytes : Nat) (ht : P.underlying t = some (.slice e)) (hi : (P.info? e).map (fun i => (i.zero, i.size, i.bytes)) = some (some z, 1, bytes)) (hzs : z.cells.size = 1)
    (v : Value) (l : List Value) (hs : a.eval s = v) (hown : Own1 w base e v l) (B : Nat) (A : Option Addr) (m c : Nat) (k : List Value) (hx : a.eval x = .slice A m c) (hr : Rd1 w B A m k) (h1 : ∀ u ∈ k, u.oneCell' = true)
    (h63 : l.length + m ≤ 1000000) (hbytes : bytes ≤ 1000000) (hbase : base ≤ w.heap.size)
    (h : ∀ v' w', Own1 w' base e v' (l ++ k) → w.grownBy w' v.ownBlock → (v'.ownBlock = v.ownBlock ∨ v'.ownBlock = some w.heap.size) → (∀ W0, Below base W0 w → Below base W0 w') → K (a.put o.dst v') w') : Oper.wp P o a w K Q := by
  obtain ⟨i0, hi0, hz0, hz1, hz2⟩ := info_parts hi
  rcases A with _ | ad
  · have hm : m = 0 := by
      rcases hr.2 with h0 | ⟨_, _, h0, _⟩
      · exact h0
      · cases h0
    subst hm
    have hk : k = [] := List.eq_nil_of_length_eq_zero hr.1
    subst hk
    have hrun : (Builtin.append_ #[t, t] o.type #[v, .slice none 0 c]).run P w = .ok v w := by
      rcases hown.2 with ⟨rfl, _⟩ | ⟨g, cap, cur, rfl, _, _, hnc, _⟩
      · simp [Builtin.append_, run_underlying ht, sizeOf, typeInfo, hi0, Builtin.lenOf, Builtin.firstCells]
      · simp [Builtin.append_, run_underlying ht, sizeOf, typeInfo, hi0, Builtin.lenOf, Builtin.firstCells, hnc, storeCells]
    unfold Oper.wp execOp
    simp only [ho, resolve, invoke, builtin, Sem.run_bind, Sem.run_pure, Result.andThen_ok, List.map_toArray, List.map_cons, List.map_nil, hs, hx, hrun]
    exact h v w (by simpa using hown) (World.grownBy.refl w _) (.inl rfl) fun _ h => h
  · have hnews : ∀ j u, k[j]? = some u → w.cell? (ad.add j) = some u := by
      intro j u hu
      have hlt := (List.getElem?_eq_some_iff.1 hu).1
      rcases hr.2 with h0 | ⟨b, off, h0, _, hc⟩
      · have := hr.1; omega
      · cases h0
        have hadd : (⟨b, off, none⟩ : Addr).add j = ⟨b, off + j, none⟩ := by unfold Addr.add; split <;> simp_all
        rw [hadd]
        exact hc j u hu
    have hb2 := Nat.mul_le_mul h63 hbytes
    obtain ⟨v', w', hrun, h2, h3, h4, h5⟩ := run_append_own_at (P := P) w base t o.type e i0 z 1 bytes ht hi0 hz0 hz1 hz2 hzs (by omega) v l.length l hown ad m c k (by rw [hr.1]; omega) hnews h1 (by unfold maxLen; omega) (by omega) hbase
    unfold Oper.wp execOp
    simp only [ho, resolve, invoke, builtin, Sem.run_bind, Sem.run_pure, Result.andThen_ok, List.map_toArray, List.map_cons, List.map_nil, hs, hx, hrun]
    refine h v' w' ?_ h3 h5 fun W0 hB => hB.grown h3 hbase (fun k hk => (own_in hown k hk).1)
    unfold Own1
    rw [List.length_append, hr.1]
    exact h2
theorem wpList_join1 (hgd : o.guard = none) (s x : Operand) (t : TypeId) (ho : o.op = .call { callee := .builtin .append, args := #[s, x], argTypes := #[t, t] })
    (base : Nat) (e : TypeId) (z : Value) (bytes : Nat) (ht : P.underlying t = some (.slice e)) (hi : (P.info? e).map (fun i => (i.zero, i.size, i.bytes)) = some (some z, 1, bytes)) (hzs : z.cells.size = 1)
    (v : Value) (l : List Value) (hs : a.eval s = v) (hown : Own1 w base e v l) (B : Nat) (A : Option Addr) (m c : Nat) (k : List Value) (hx : a.eval x = .slice A m c) (hr : Rd1 w B A m k) (h1 : ∀ u ∈ k, u.oneCell' = true)
    (h63 : l.length + m ≤ 1000000) (hbytes : bytes ≤ 1000000) (hbase : base ≤ w.heap.size)
    (h : ∀ v' w', Own1 w' base e v' (l ++ k) → w.grownBy w' v.ownBlock → (v'.ownBlock = v.ownBlock ∨ v'.ownBlock = some w.heap.size) → (∀ W0, Below base W0 w → Below base W0 w') → wpList P ops Q rest (a.put o.dst v') w') : wpList P ops Q (o :: rest) a w :=
  wpList_plain hgd fun _ hK => wp_join1 w s x t ho base e z bytes ht hi hzs v l hs hown B A m c k hx hr h1 h63 hbytes hbase fun v' w' a b c d => hK _ _ (h v' w' a b c d)
theorem rd_blk {w : World} {g : Nat} {e : TypeId} {k : Value} (hb : Blk w g e #[k]) : Rd1 w w.heap.size (some ⟨g, 0, none⟩) 1 [k] := by
  refine ⟨rfl, .inr ⟨g, 0, rfl, hb.lt, fun i x hx => ?_⟩⟩
  have : i = 0 := by have := (List.getElem?_eq_some_iff.1 hx).1; simp at this; omega
  subst this
  rw [hb.cell]
  simpa using hx
end
theorem under22 : Tryz.prog.underlying 54 = some (.slice 3) := by kernel_rfl
end Go.Proofs.YtjnmkdahbcmfaaaGreat

/- The reference 09: prods, named. -/
namespace Go.Proofs.YtjnmkdahbcmfaaaGreat
open Go.ChangeShapes Go.WideShapes Go.ChangeAt Go.RowKit
set_option linter.unusedVariables false
theorem Own1.drew {w : World} {base : Nat} {e : TypeId} {v : Value} {l : List Value} (h : Own1 w base e v l) : Own1 w.drew base e v l := h
def SN (w w0 : World) (g : Gr) (a : GA) (w' : World) : Prop := Blk w' w.heap.size 25 (gcells g a) ∧ GrAt w' w.heap.size g a ∧ Below w.heap.size w w' ∧ Below w.heap.size w0 w'
theorem SN.drew {w w0 : World} {g : Gr} {a : GA} {w' : World} (h : SN w w0 g a w') : SN w w0 g a w'.drew := ⟨h.1, h.2.1.below (Below.refl _ _).drew, h.2.2.1.drew, h.2.2.2.drew⟩
theorem SN.alloc {w w0 : World} {g : Gr} {a : GA} {w' : World} (h : SN w w0 g a w') (o : Obj) : SN w w0 g a (w'.alloc o) :=
  ⟨h.1.alloc o, h.2.1.below ((Below.refl _ _).alloc h.2.2.1.size o), bAlc h.2.2.1 o, h.2.2.2.alloc h.2.2.1.size o⟩
theorem SN.grown {w w0 : World} {g : Gr} {a : GA} {w' w1 : World} {v : Value} (h : SN w w0 g a w') (hg : w'.grownBy w1 v.ownBlock) (hv : ∀ k, v.ownBlock = some k → w.heap.size < k) : SN w w0 g a w1 := by
  have hr : ∀ k, v.ownBlock = some k → w.heap.size ≤ k := fun k hk => by have := hv k hk; omega
  exact ⟨h.1.grown hg (fun e => by have := hv _ e.symm; omega), h.2.1.below ((Below.refl _ _).grown hg h.2.2.1.size hr), h.2.2.1.grown hg h.2.2.1.size hr, h.2.2.2.grown hg h.2.2.1.size hr⟩
theorem SN.all {w w0 : World} {g : Gr} {a : GA} {w' : World} (h : SN w w0 g a w') : w'.cell? ⟨w.heap.size, 1, none⟩ = some (.slice a.ta g.toks.length a.tc) ∧ w'.cell? ⟨w.heap.size, 2, none⟩ = some (.string g.sep) ∧ SN w w0 g a w' :=
  ⟨h.1.cell 1, h.1.cell 2, h⟩
theorem SN.size {w w0 : World} {g : Gr} {a : GA} {w' : World} (h : SN w w0 g a w') : w.heap.size < w'.heap.size := h.1.lt
end Go.Proofs.YtjnmkdahbcmfaaaGreat

/- The reference 09: symbols, Check. -/
namespace Go.Proofs.YtjnmkdahbcmfaaaGreat
open Go.ChangeShapes Go.WideShapes Go.ChangeAt Go.RowKit
set_option linter.unusedVariables false
def GB (w : World) (g : Gr) (a : GA) (W : World) : Prop := Blk W w.heap.size 25 (gcells g a) ∧ GrAt W w.heap.size g a ∧ Below w.heap.size w W
theorem GB.start {w : World} {g : Gr} {a : GA} (h : GrAt w w.heap.size g a) : GB w g a (w.alloc (.cells (gcells g a) 25)) :=
  ⟨Blk.new w 25 _, h.below (bAlc (Below.refl w.heap.size w) _), bAlc (Below.refl w.heap.size w) _⟩
theorem GB.step {w : World} {g : Gr} {a : GA} {W W1 : World} (h : GB w g a W) (hb : Below W.heap.size W W1) : GB w g a W1 :=
  ⟨h.1.step hb, h.2.1.below (hb.mono h.2.2.size), bStep h.2.2 hb⟩
theorem GB.alloc {w : World} {g : Gr} {a : GA} {W : World} (h : GB w g a W) (o : Obj) : GB w g a (W.alloc o) := h.step ((Below.refl _ _).alloc (Nat.le_refl _) o)
theorem GB.drewN {w : World} {g : Gr} {a : GA} {W : World} (h : GB w g a W) (n : Nat) : GB w g a (W.drewN n) := h.step (bDrwN' W n)
theorem GB.lt {w : World} {g : Gr} {a : GA} {W : World} (h : GB w g a W) : w.heap.size < W.heap.size := h.1.lt
theorem GB.far {w : World} {g : Gr} {a : GA} {W : World} (h : GB w g a W) (p : Addr) (v : Value) (hp : w.heap.size < p.block) : GB w g a (W.setCell p v) :=
  ⟨h.1.far (by omega) v, h.2.1.below ((Below.refl _ _).setCell (by omega) v), bSet h.2.2 p v (by omega)⟩
theorem GB.cells {w : World} {g : Gr} {a : GA} {W : World} (h : GB w g a W) : W.cell? ⟨w.heap.size, 0, none⟩ = some (.int .i64 g.k) ∧ W.cell? ⟨w.heap.size, 1, none⟩ = some (.slice a.ta g.toks.length a.tc) ∧ W.cell? ⟨w.heap.size, 2, none⟩ = some (.string g.sep) ∧
    W.cell? ⟨w.heap.size, 3, none⟩ = some (.slice a.na g.names.length a.nc) ∧ W.cell? ⟨w.heap.size, 4, none⟩ = some (.int .i64 g.start) ∧ W.cell? ⟨w.heap.size, 5, none⟩ = some (.slice a.pa g.prods.length a.pc) :=
  ⟨h.1.cell 0, h.1.cell 1, h.1.cell 2, h.1.cell 3, h.1.cell 4, h.1.cell 5⟩
end Go.Proofs.YtjnmkdahbcmfaaaGreat

/- slices.All over the productions of a grammar; grammar.prods. -/
namespace Go.Proofs.YtjnmkdahbcmfaaaGreat
open Go.RowKit Go.Shelf
set_option linter.unusedVariables false
attribute [local go_sem] Oper.semAt_some
structure PV where
  p : Pr
  ra : Option Addr
  rc : Nat
  deriving Inhabited
def PV.v (x : PV) : Value := .agg #[.int .i64 x.p.left, .slice x.ra x.p.right.length x.rc]
def PVok (w : World) (B : Nat) (x : PV) : Prop := Rd1 w B x.ra x.p.right.length (ints x.p.right) ∧ x.p.right.length ≤ x.rc ∧ x.rc ≤ maxLen
def RdV (w : World) (B : Nat) (A : Option Addr) (n : Nat) (vs : List PV) : Prop :=
  vs.length = n ∧ (n = 0 ∨ ∃ b off, A = some ⟨b, off, none⟩ ∧ b < B ∧ ∀ (i : Nat) (x : PV), vs[i]? = some x → w.cell? ⟨b, off + i * 2, none⟩ = some (.int .i64 x.p.left) ∧ w.cell? ⟨b, off + i * 2 + 1, none⟩ = some (.slice x.ra x.p.right.length x.rc))
theorem RdV.below {w w' : World} {B : Nat} {A : Option Addr} {n : Nat} {vs : List PV} (h : RdV w B A n vs) (hb : Below B w w') : RdV w' B A n vs := by
  refine ⟨h.1, ?_⟩
  rcases h.2 with h0 | ⟨b, off, rfl, hlt, hc⟩
  · exact .inl h0
  · refine .inr ⟨b, off, rfl, hlt, fun i x hx => ?_⟩
    obtain ⟨h1, h2⟩ := hc i x hx
    exact ⟨by rw [hb.cell (p := ⟨b, off + i * 2, none⟩) hlt]; exact h1, by rw [hb.cell (p := ⟨b, off + i * 2 + 1, none⟩) hlt]; exact h2⟩
theorem PVok.below {w w' : World} {B : Nat} {x : PV} (h : PVok w B x) (hb : Below B w w') : PVok w' B x := ⟨h.1.below hb, h.2⟩
end Go.Proofs.YtjnmkdahbcmfaaaGreat

/- grammar.many. -/
namespace Go.Proofs.YtjnmkdahbcmfaaaGreat
open Go.RowKit Go.Shelf
set_option linter.unusedVariables false
attribute [local go_sem] Oper.semAt_some
theorem blk_own {β : Type} (g : Nat) (t : TypeId) (f : β → Array Value) : Own (fun s W => Blk W g t (f s)) := fun s X Y row hs hg hr =>
  hs.grown hg (fun e => by obtain ⟨o, ho, hc⟩ := hr g e.symm; have : X.heap[g]? = some (.cells (f s) t (0, 0)) := hs; rw [this] at ho; cases ho; cases hc)
end Go.Proofs.YtjnmkdahbcmfaaaGreat

/- A map of keys to true, whatever the keys. -/
namespace Go.Proofs.YtjnmkdahbcmfaaaGreat
open Go.ChangeShapes Go.WideShapes Go.ChangeAt Go.RowKit
open Go.ChangeMaps (heap_setBlock_same setBlock)
open Go.MapKept (Stamped stamped_push)
set_option linter.unusedVariables false
structure KeyEnc (α : Type) where
  K : TypeId
  enc : α → Value
  ok : α → Prop
  keyed : Maps.Keyed Tryz.prog K
  key : ∀ x, ok x → ∃ l, keyOf Tryz.prog K (enc x) = some l
  inj : ∀ x y, enc x = enc y → x = y
def MapK {α : Type} (E : KeyEnc α) (w : World) (b : Nat) (s : List α) : Prop :=
  ∃ (es : Array MapEntry) (clock : Nat), w.heap[b]? = some (.map es clock) ∧ es.toList.map (·.key) = s.map E.enc ∧ (∀ e ∈ es.toList, e.val = .bool true) ∧ (∀ x ∈ s, E.ok x) ∧ s.Nodup ∧ Stamped es clock
theorem MapK.lt {α : Type} {E : KeyEnc α} {w : World} {b : Nat} {s : List α} (h : MapK E w b s) : b < w.heap.size := by
  obtain ⟨es, clock, hb, _⟩ := h
  exact (Array.getElem?_eq_some_iff.1 hb).1
theorem MapK.grown {α : Type} {E : KeyEnc α} {w w' : World} {b : Nat} {s : List α} {row : Option Nat} (h : MapK E w b s) (hg : w.grownBy w' row) (hb : some b ≠ row) : MapK E w' b s := by
  have hlt := h.lt
  obtain ⟨es, clock, h1, h2⟩ := h
  exact ⟨es, clock, (hg.block b hlt hb).trans h1, h2⟩
theorem MapK.step {α : Type} {E : KeyEnc α} {w w' : World} {b : Nat} {s : List α} (h : MapK E w b s) (hb : Below w.heap.size w w') : MapK E w' b s := by
  have hlt := h.lt
  obtain ⟨es, clock, h1, h2⟩ := h
  exact ⟨es, clock, (hb.block b hlt).trans h1, h2⟩
theorem MapK.keys {α : Type} {E : KeyEnc α} {es : Array MapEntry} {s : List α} (hk : es.toList.map (·.key) = s.map E.enc) (hw : ∀ x ∈ s, E.ok x) : ∀ e ∈ es.toList, ∃ l, keyOf Tryz.prog E.K e.key = some l := by
  intro e he
  have h1 : e.key ∈ es.toList.map (·.key) := List.mem_map_of_mem he
  rw [hk] at h1
  obtain ⟨x, hx, hxe⟩ := List.mem_map.mp h1
  rw [← hxe]
  exact E.key x (hw x hx)
theorem MapK.look {α : Type} [DecidableEq α] {E : KeyEnc α} {t : TypeId} (ht : Tryz.prog.underlying t = some (.map E.K 4)) {w : World} {b : Nat} {s : List α} (h : MapK E w b s) (x : α) (hx : E.ok x) :
    (Instr.lookup t (.map (some b)) (E.enc x) false).run Tryz.prog w = .ok (.bool (decide (x ∈ s))) w := by
  obtain ⟨es, clock, hb, hk, hv, hw, hn, hst⟩ := h
  obtain ⟨l, hl⟩ := E.key x hx
  have hz := zero_bool w
  rcases E.keyed.find w hl es.toList (MapK.keys hk hw) with ⟨h1, h2⟩ | ⟨j, e, h1, h2, h3⟩
  · have hns : x ∉ s := by
      intro hm
      have : E.enc x ∈ es.toList.map (·.key) := by rw [hk]; exact List.mem_map_of_mem hm
      obtain ⟨e, he, hee⟩ := List.mem_map.mp this
      exact h2 e he hee
    simp [Instr.lookup, run_underlying ht, MapKept.run_getObj_map hb, E.keyed.check w _ hl, h1, hz, Result.andThen, hns]
  · have he := List.mem_of_getElem? h2
    have hs : x ∈ s := by
      have : e.key ∈ es.toList.map (·.key) := List.mem_map_of_mem he
      rw [hk, h3] at this
      obtain ⟨y, hy, hyy⟩ := List.mem_map.mp this
      rw [← E.inj _ _ hyy]; exact hy
    simp [Instr.lookup, run_underlying ht, MapKept.run_getObj_map hb, E.keyed.check w _ hl, h1, Result.andThen, hs, hv e he]
theorem MapK.put {α : Type} [DecidableEq α] {E : KeyEnc α} {t : TypeId} (ht : Tryz.prog.underlying t = some (.map E.K 4)) {w : World} {b : Nat} {s : List α} (h : MapK E w b s) (x : α) (hx : E.ok x) :
    ∃ w', (Instr.mapUpdate t (.map (some b)) (E.enc x) (.bool true)).run Tryz.prog w = .ok () w' ∧ MapK E w' b (if x ∈ s then s else s ++ [x]) ∧ w.mapTurned w' b := by
  obtain ⟨es, clock, hb, hk, hv, hw, hn, hst⟩ := h
  obtain ⟨l, hl⟩ := E.key x hx
  rcases E.keyed.find w hl es.toList (MapK.keys hk hw) with ⟨h1, h2⟩ | ⟨j, e, h1, h2, h3⟩
  · have hns : x ∉ s := by
      intro hm
      have : E.enc x ∈ es.toList.map (·.key) := by rw [hk]; exact List.mem_map_of_mem hm
      obtain ⟨e, he, hee⟩ := List.mem_map.mp this
      exact h2 e he hee
    rw [if_neg hns]
    refine ⟨setBlock w b (.map (es.push { key := E.enc x, val := .bool true, born := clock }) (clock + 1)), ?_, ⟨_, _, heap_setBlock_same hb _, by simp [hk], ?_, ?_, ?_, stamped_push hst h2⟩, ⟨es, clock, _, _, hb, rfl⟩⟩
    · simp [Instr.mapUpdate, run_underlying ht, MapKept.run_getObj_map hb, E.keyed.check w _ hl, h1, MapKept.run_setObj_map _ hb, Result.andThen, setBlock]
    · intro e he
      simp at he
      rcases he with he | rfl
      · exact hv e (by simpa using he)
      · rfl
    · intro y hy
      rcases List.mem_append.mp hy with hy | hy
      · exact hw y hy
      · have : y = x := by simpa using hy
        rw [this]; exact hx
    · rw [List.nodup_append]
      refine ⟨hn, by simp, ?_⟩
      intro a ha c hc
      have : c = x := by simpa using hc
      rw [this]; intro e; exact hns (e ▸ ha)
  · have he := List.mem_of_getElem? h2
    have hs : x ∈ s := by
      have : e.key ∈ es.toList.map (·.key) := List.mem_map_of_mem he
      rw [hk, h3] at this
      obtain ⟨y, hy, hyy⟩ := List.mem_map.mp this
      rw [← E.inj _ _ hyy]; exact hy
    rw [if_pos hs]
    have hj : es[j]? = some e := by simpa using h2
    have hee : ({ e with key := E.enc x, val := .bool true } : MapEntry) = e := by
      cases e; simp at h3; have := hv _ he; simp at this; simp [h3, this]
    have hmod : es.modify j (fun e => { e with key := E.enc x, val := .bool true }) = es := by
      apply Array.ext_getElem?
      intro i
      rw [Array.getElem?_modify]
      split
      · rename_i h; subst h; rw [hj]; simp [hee]
      · rfl
    refine ⟨setBlock w b (.map es clock), ?_, ⟨es, clock, heap_setBlock_same hb _, hk, hv, hw, hn, hst⟩, ⟨es, clock, _, _, hb, rfl⟩⟩
    have hst2 := E.keyed.stays w hl
    have hkey : (((es[j]?).map (·.key)).getD (E.enc x)) = E.enc x := by rw [hj]; simp [h3]
    simp [Instr.mapUpdate, run_underlying ht, MapKept.run_getObj_map hb, E.keyed.check w _ hl, h1, hj, h3, hst2, hmod, MapKept.run_setObj_map _ hb, Result.andThen, setBlock]
section
variable (w : World) {ops : Array Oper} {rest : List Oper} {o : Oper} {a : Act} {Q : Exit → Act → World → Prop} {α : Type} [DecidableEq α] {E : KeyEnc α}
theorem wpList_layK {t : TypeId} (ht : Tryz.prog.underlying t = some (.map E.K 4)) (hg : o.guard = none) (m x v : Operand) (hop : o.op = Op.mapUpdate t m x v) (b : Nat) (s s' : List α) (k : α) (hs : (k ∈ s ∧ s' = s) ∨ (k ∉ s ∧ s' = s ++ [k])) (hm : a.eval m = .map (some b)) (hx : a.eval x = E.enc k) (hv : a.eval v = .bool true) (h : MapK E w b s) (hk : E.ok k)
    (hK : ∀ w', MapK E w' b s' → w.mapTurned w' b → wpList Tryz.prog ops Q rest (a.put o.dst undef) w') : wpList Tryz.prog ops Q (o :: rest) a w := by
  refine wpList_plain hg fun K' hK' => ?_
  obtain ⟨w', hrun, h1, h2⟩ := h.put ht k hk
  have e : (if k ∈ s then s else s ++ [k]) = s' := by
    rcases hs with ⟨h, rfl⟩ | ⟨h, rfl⟩
    · rw [if_pos h]
    · rw [if_neg h]
  rw [e] at h1
  unfold Oper.wp
  simp [execOp, hop, hm, hx, hv, hrun, Result.andThen]
  exact hK' _ _ (hK w' h1 h2)
end
theorem turned_grown {w w' : World} {b : Nat} (h : w.mapTurned w' b) : w.grownBy w' (some b) := by
  obtain ⟨es, clock, es', clock', hb, rfl⟩ := h
  exact ⟨rfl, rfl, rfl, by simp [setBlock], fun i hi hne => by
    have hne' : b ≠ i := fun e => hne (by rw [e])
    simp only [setBlock]
    rw [Array.getElem?_setIfInBounds_ne hne']⟩
def strKey : KeyEnc ByteArray where
  K := 9
  enc := Value.string
  ok := fun s => s.size ≤ maxLen
  keyed := Maps.string_keyed (by kernel_rfl)
  key := fun x hx => ⟨_, Go.WideMaps.keyOf_string_mk (by kernel_rfl) hx⟩
  inj := fun x y h => by injection h
end Go.Proofs.YtjnmkdahbcmfaaaGreat

/- grammar.named, grammar.different. -/
namespace Go.Proofs.YtjnmkdahbcmfaaaGreat
open Go.ChangeShapes Go.WideShapes Go.ChangeAt Go.RowKit
set_option linter.unusedVariables false
def SP (w : World) (g : Gr) (a : GA) (w' : World) : Prop := GB w g a w'
theorem SP.all {w : World} {g : Gr} {a : GA} {w' : World} (h : SP w g a w') : w'.cell? ⟨w.heap.size, 1, none⟩ = some (.slice a.ta g.toks.length a.tc) ∧ w'.cell? ⟨w.heap.size, 2, none⟩ = some (.string g.sep) ∧ w'.cell? ⟨w.heap.size, 3, none⟩ = some (.slice a.na g.names.length a.nc) ∧ SP w g a w' :=
  ⟨h.1.cell 1, h.1.cell 2, h.1.cell 3, h⟩
theorem SP.drew {w : World} {g : Gr} {a : GA} {w' : World} (h : SP w g a w') : SP w g a w'.drew := GB.drewN h 1
theorem SP.alloc {w : World} {g : Gr} {a : GA} {w' : World} (h : SP w g a w') (o : Obj) : SP w g a (w'.alloc o) := GB.alloc h o
end Go.Proofs.YtjnmkdahbcmfaaaGreat

/- grammar.different. -/
namespace Go.Proofs.YtjnmkdahbcmfaaaGreat
open Go.ChangeShapes Go.WideShapes Go.ChangeAt Go.RowKit
set_option linter.unusedVariables false
def SD (w : World) (g : Gr) (a : GA) (w' : World) : Prop := GB w g a w' ∧ MapK strKey w' (w.heap.size + 1) []
theorem SD.all {w : World} {g : Gr} {a : GA} {w' : World} (h : SD w g a w') : w'.cell? ⟨w.heap.size, 1, none⟩ = some (.slice a.ta g.toks.length a.tc) ∧ w'.cell? ⟨w.heap.size, 2, none⟩ = some (.string g.sep) ∧ w'.cell? ⟨w.heap.size, 3, none⟩ = some (.slice a.na g.names.length a.nc) ∧ SD w g a w' :=
  ⟨h.1.1.cell 1, h.1.1.cell 2, h.1.1.cell 3, h⟩
theorem SD.step {w : World} {g : Gr} {a : GA} {w' w1 : World} (h : SD w g a w') (hb : Below w'.heap.size w' w1) : SD w g a w1 := ⟨h.1.step hb, h.2.step hb⟩
theorem SD.drew {w : World} {g : Gr} {a : GA} {w' : World} (h : SD w g a w') : SD w g a w'.drew := h.step (Below.refl _ _).drew
theorem SD.alloc {w : World} {g : Gr} {a : GA} {w' : World} (h : SD w g a w') (o : Obj) : SD w g a (w'.alloc o) := h.step ((Below.refl _ _).alloc (Nat.le_refl _) o)
theorem SD.grown {w : World} {g : Gr} {a : GA} {w' w1 : World} {row : Option Nat} (h : SD w g a w') (hg : w'.grownBy w1 row) (hr : ∀ k, row = some k → w.heap.size + 1 < k) : SD w g a w1 :=
  ⟨⟨h.1.1.grown hg (fun e => by have := hr _ e.symm; omega), h.1.2.1.below ((Below.refl _ _).grown hg h.1.2.2.size (fun k hk => by have := hr k hk; omega)), h.1.2.2.grown hg h.1.2.2.size (fun k hk => by have := hr k hk; omega)⟩, h.2.grown hg (fun e => by have := hr _ e.symm; omega)⟩
theorem Rd1.grown {w w' : World} {B : Nat} {A : Option Addr} {n : Nat} {l : List Value} {row : Option Nat} (h : Rd1 w B A n l) (hg : w.grownBy w' row) (hB : B ≤ w.heap.size) (hne : ∀ a, A = some a → some a.block ≠ row) : Rd1 w' B A n l := by
  refine ⟨h.1, ?_⟩
  rcases h.2 with h0 | ⟨b, off, rfl, hlt, hc⟩
  · exact .inl h0
  · exact .inr ⟨b, off, rfl, hlt, fun i x hx => (World.cell?_of_block (a := ⟨b, off + i, none⟩) (hg.block b (by omega) (hne _ rfl))).trans (hc i x hx)⟩
theorem mapk_new {α : Type} (E : KeyEnc α) (w : World) (b : Nat) (hb : b = w.heap.size) : MapK E (w.alloc (.map #[] 0)) b [] := by
  subst hb
  exact ⟨#[], 0, heap_alloc_new w _, by simp, by simp, by simp, by simp, (MapKept.stamped_iff _ _).2 (by simp)⟩
end Go.Proofs.YtjnmkdahbcmfaaaGreat

/- grammar.symbols. -/
namespace Go.Proofs.YtjnmkdahbcmfaaaGreat
open Go.RowKit Go.Shelf
set_option linter.unusedVariables false
attribute [local go_sem] Oper.semAt_some
theorem GB.grown {w : World} {g : Gr} {a : GA} {W W1 : World} {row : Option Nat} (h : GB w g a W) (hg : W.grownBy W1 row) (hr : ∀ k, row = some k → w.heap.size < k) : GB w g a W1 :=
  ⟨h.1.grown hg (fun e => by have := hr _ e.symm; omega), h.2.1.below ((Below.refl _ _).grown hg h.2.2.size (fun k hk => by have := hr k hk; omega)), h.2.2.grown hg h.2.2.size (fun k hk => by have := hr k hk; omega)⟩
end Go.Proofs.YtjnmkdahbcmfaaaGreat

/- follow.joined. -/
namespace Go.Proofs.YtjnmkdahbcmfaaaGreat
open Go.ChangeShapes Go.WideShapes Go.ChangeAt Go.RowKit
set_option linter.unusedVariables false
def addL (s : List Lk) (z : Lk) : List Lk := if z ∈ s then s else s ++ [z]
def addAll (s l : List Lk) : List Lk := l.foldl addL s
def rowJ (k : Nat) (x : Lk) (lb : List Lk) : List Lk := lb.map (lplus k x)
def sumsJ (k : Nat) (la lb : List Lk) : List Lk := la.flatMap fun x => rowJ k x lb
def lookKey : KeyEnc Lk where
  K := 45
  enc := Lk.v
  ok := Lk.wf
  keyed := lookKeyed
  key := look_key
  inj := fun _ _ h => Lk.v_inj h
def lay5 (W : World) (x : Lk) : World := W.alloc (.cells #[.int .i64 x.n, .int .i64 x.a, .int .i64 x.b, .int .i64 x.c, .int .i64 x.d] 45)
theorem lay5_blk (W : World) (x : Lk) : Blk (lay5 W x) W.heap.size 45 x.cells := Blk.new W 45 _
theorem lay5_below (W : World) (x : Lk) : Below W.heap.size W (lay5 W x) := bAlc (Below.refl _ _) _
theorem grown_of_below {W W' : World} (h : Below W.heap.size W W') : W.grownBy W' none := ⟨h.os, h.tape, h.output, h.size, fun i hi _ => h.block i hi⟩
def JW (w : World) (b Bk k : Nat) (A1 A2 : Option Addr) (n1 n2 : Nat) (la lb : List Lk) (cur : List Lk) (W : World) : Prop :=
  MapK lookKey W b cur ∧ w.grownBy W (some b) ∧ RdL W w.heap.size A1 n1 la ∧ RdL W w.heap.size A2 n2 lb ∧ W.cell? ⟨Bk, 0, none⟩ = some (.int .i64 k) ∧ b < w.heap.size ∧ Bk < w.heap.size
section
variable {w W W' : World} {b Bk k : Nat} {A1 A2 : Option Addr} {n1 n2 : Nat} {la lb cur cur' : List Lk}
theorem JW.step (h : JW w b Bk k A1 A2 n1 n2 la lb cur W) (hb : Below W.heap.size W W') : JW w b Bk k A1 A2 n1 n2 la lb cur W' :=
  ⟨h.1.step hb, h.2.1.andThen (grown_of_below hb) (fun j hj => by cases hj), h.2.2.1.below (hb.mono h.2.1.size), h.2.2.2.1.below (hb.mono h.2.1.size), cell_later hb h.2.2.2.2.1, h.2.2.2.2.2⟩
theorem rdl_map {A : Option Addr} {n B : Nat} {l : List Lk} (h : RdL W B A n l) (hm : MapK lookKey W b cur) (hg : W.grownBy W' (some b)) (hB : B ≤ W.heap.size) : RdL W' B A n l := by
  refine ⟨h.1, ?_⟩
  rcases h.2 with h0 | ⟨g, off, rfl, hlt, hc⟩
  · exact .inl h0
  · by_cases hn : l = []
    · left; rw [← h.1, hn]; rfl
    · refine .inr ⟨g, off, rfl, hlt, fun i x hx j hj => ?_⟩
      have hcc := hc i x hx j hj
      have hne : g ≠ b := by
        rintro rfl
        obtain ⟨es, clock, hb, _⟩ := hm
        have hj5 : ∃ v, x.cells[j]? = some v := ⟨x.cells[j]'(by simpa [Lk.cells] using hj), by simp⟩
        obtain ⟨v, hv⟩ := hj5
        rw [hv] at hcc
        simp [World.cell?, hb] at hcc
      exact (World.cell?_of_block (a := ⟨g, off + i * 5 + j, none⟩) (hg.block g (by omega) (by simpa using hne))).trans hcc
theorem cell_map {a : Addr} {v : Value} (h : W.cell? a = some v) (hm : MapK lookKey W b cur) (hg : W.grownBy W' (some b)) : W'.cell? a = some v := by
  refine hg.cell h ?_
  intro e
  injection e with e
  obtain ⟨es, clock, hb, _⟩ := hm
  rw [← e] at hb
  simp [World.cell?, hb] at h
theorem JW.turned (h : JW w b Bk k A1 A2 n1 n2 la lb cur W) (ht : W.mapTurned W' b) (hm : MapK lookKey W' b cur') : JW w b Bk k A1 A2 n1 n2 la lb cur' W' :=
  ⟨hm, h.2.1.andThen (turned_grown ht) (fun j hj => by cases hj; exact .inr rfl), rdl_map h.2.2.1 h.1 (turned_grown ht) h.2.1.size, rdl_map h.2.2.2.1 h.1 (turned_grown ht) h.2.1.size, cell_map h.2.2.2.2.1 h.1 (turned_grown ht), h.2.2.2.2.2⟩
end
end Go.Proofs.YtjnmkdahbcmfaaaGreat

/- slices.Compare, cmp.Or, cmp.Compare at ints; the order of a set's looks. -/
namespace Go.Proofs.YtjnmkdahbcmfaaaGreat
open Go.ChangeShapes Go.WideShapes Go.ChangeAt Go.RowKit
set_option linter.unusedVariables false
theorem isnan_any (x : Int) (w : World) : Calls Tryz.prog 315 #[.int .i64 x] w fun e w' => e = .returned (.bool false) ∧ w = w' := by
  go_enter Tryz.func315, Tryz.ntmps315
  go_wp2_with fail
  go_ret
  exact ⟨by simp, rfl⟩
def cmp1 (x y : Int) : Int := if x < y then -1 else if y < x then 1 else 0
theorem cmp1_any (x y : Int) (w : World) : Calls Tryz.prog 303 #[.int .i64 x, .int .i64 y] w fun e w' => e = .returned (.int .i64 (cmp1 x y)) ∧ w = w' := by
  have hn := Lib.hid isnan_any
  unfold cmp1
  by_cases h1 : x < y
  · rw [if_pos h1]
    go_enter Tryz.func303, Tryz.ntmps303
    go_wp2_with (go_at_call 315; refine (hn.out _ _).mono ?_; rintro e w1 ⟨rfl, rfl⟩)
    go_ret
    exact ⟨rfl, rfl⟩
  · rw [if_neg h1]
    by_cases h2 : y < x
    · rw [if_pos h2]
      go_enter Tryz.func303, Tryz.ntmps303
      go_wp2_with (go_at_call 315; refine (hn.out _ _).mono ?_; rintro e w1 ⟨rfl, rfl⟩)
      go_ret
      exact ⟨rfl, rfl⟩
    · rw [if_neg h2]
      go_enter Tryz.func303, Tryz.ntmps303
      go_wp2_with (go_at_call 315; refine (hn.out _ _).mono ?_; rintro e w1 ⟨rfl, rfl⟩)
      go_ret
      exact ⟨rfl, rfl⟩
set_option maxHeartbeats 1000000 in
theorem slicescmp_any (A1 A2 : Option Addr) (n1 n2 c1 c2 : Nat) (t u : List Int) (w : World) (B : Nat) (ha : Rd1 w B A1 n1 (ints t)) (hb : Rd1 w B A2 n2 (ints u)) (hn1 : n1 ≤ 1000000) (hn2 : n2 ≤ 1000000) :
    Calls Tryz.prog 302 #[.slice A1 n1 c1, .slice A2 n2 c2] w fun e w' => e = .returned (.int .i64 (cmpI t u)) ∧ w = w' := by
  have hl1 : t.length = n1 := by have := ha.1; simpa [ints] using this
  have hl2 : u.length = n2 := by have := hb.1; simpa [ints] using this
  have hQ := Lib.hid (cmpI_part t u)
  have hL := Lib.hid (cmpI_all t u)
  have hn := Lib.hid cmp1_any
  obtain ⟨R, hR⟩ : ∃ R, R = cmpI t u := ⟨_, rfl⟩
  rw [← hR] at hQ hL ⊢
  clear hR
  replace hl1 := Lib.hid hl1
  replace hl2 := Lib.hid hl2
  go_enter Tryz.func302, Tryz.ntmps302
  go_wp2_with fail
  go_loopg [11] n1 (fun gk s11 wr => ∃ j : Nat, s11 = .int .i64 j ∧ j + gk = n1 ∧ j ≤ n2 ∧ Hid (∀ i, i < j → t.getD i 0 = u.getD i 0) ∧ w = wr)
  case atStart => exact ⟨0, rfl, by omega, by omega, Lib.hid (by intro i h; omega), rfl⟩
  case round =>
    obtain ⟨j, rfl, hj, hj2, hE, rfl⟩ := hrel
    replace hj := Lib.hid hj
    by_cases hjn : j < n1
    · have hjt : j < t.length := by have := hl1.out; omega
      have hxi : (ints t)[j]? = some (.int .i64 t[j]) := by simp [ints, hjt]
      have hgx : t.getD j 0 = t[j] := by simp [List.getD_eq_getElem?_getD, hjt]
      obtain ⟨b1, off1, rfl, hbt1, x0⟩ := ha.get hxi
      generalize t[j] = x at *
      have hz1 : (0 : Int) ≤ j := by omega
      have hz2 : (j : Int) < n1 := by omega
      replace hxi := Lib.hid hxi
      replace hgx := Lib.hid hgx
      by_cases hju : j < n2
      · have hjt2 : j < u.length := by have := hl2.out; omega
        have hyi : (ints u)[j]? = some (.int .i64 u[j]) := by simp [ints, hjt2]
        have hgy : u.getD j 0 = u[j] := by simp [List.getD_eq_getElem?_getD, hjt2]
        obtain ⟨b2, off2, rfl, hbt2, y0⟩ := hb.get hyi
        generalize u[j] = y at *
        have hz3 : (j : Int) < n2 := by omega
        replace hyi := Lib.hid hyi
        replace hgy := Lib.hid hgy
        by_cases hxy : x = y
        · subst hxy
          have hcc : Hid (cmp1 x x = 0) := Lib.hid (by simp [cmp1])
          have hE2 : Hid (∀ i, i < j + 1 → t.getD i 0 = u.getD i 0) := Lib.hid (fun i hi => by
            rcases Nat.lt_succ_iff_lt_or_eq.1 hi with h | rfl
            · exact hE.out i h
            · rw [hgx.out, hgy.out])
          go_wp2_with (go_at_call 303; refine (hn.out _ _ _).mono ?_; rintro e w1 ⟨rfl, rfl⟩; rw [hcc.out])
          go_roundg (n1 - (j + 1))
          case measure => have := hj.out; omega
          case rel => exact ⟨j + 1, by go_num, by have := hj.out; omega, by omega, hE2, rfl⟩
        · have hR2 : R = cmp1 x y := by
            rw [hQ.out j hjt hjt2 hE.out (by rw [hgx.out, hgy.out]; exact hxy), hgx.out, hgy.out]
            unfold cmp1
            by_cases h : x < y
            · rw [if_pos h, if_pos h]
            · rw [if_neg h, if_neg h, if_pos (by omega)]
          have hc0 : (R == 0) = false := by rw [hR2]; unfold cmp1; split <;> (try split) <;> simp; omega
          have hc1 : (R != 0) = true := by simpa using hc0
          replace hR2 := Lib.hid hR2
          clear hxy
          go_wp2_with (go_at_call 303; refine (hn.out _ _ _).mono ?_; rintro e w1 ⟨rfl, rfl⟩; rw [← hR2.out])
          go_ret
          exact ⟨rfl, rfl⟩
      · have hR2 : R = 1 := by
          rw [hL.out (fun i h1 h2 => hE.out i (by have := hl2.out; omega)), if_neg (by have := hl2.out; omega), if_pos (by have := hl2.out; omega)]
        subst hR2
        have hz3 : (n2 : Int) ≤ j := by omega
        go_wp2_with fail
        go_ret
        exact ⟨rfl, rfl⟩
    · have hR1 : R = if n1 < n2 then -1 else 0 := by
        rw [hL.out (fun i h1 h2 => hE.out i (by have := hl1.out; omega)), hl1.out, hl2.out]
        by_cases h : n1 < n2
        · rw [if_pos h, if_pos h]
        · rw [if_neg h, if_neg h, if_neg (by have := hj.out; omega)]
      by_cases h12 : n1 < n2
      · rw [if_pos h12] at hR1
        subst hR1
        go_wp2_with fail
        go_ret
        exact ⟨rfl, rfl⟩
      · rw [if_neg h12] at hR1
        subst hR1
        go_wp2_with fail
        go_ret
        exact ⟨rfl, rfl⟩
def or2 (x y : Int) : Int := if x = 0 then y else x
set_option maxHeartbeats 1000000 in
theorem or2_any (x y : Int) (B : Nat) (w : World) (h0 : w.cell? ⟨B, 0, none⟩ = some (.int .i64 x)) (h1 : w.cell? ⟨B, 1, none⟩ = some (.int .i64 y)) :
    Calls Tryz.prog 301 #[.slice (some ⟨B, 0, none⟩) 2 2] w fun e w' => e = .returned (.int .i64 (or2 x y)) ∧ w = w' := by
  unfold or2
  by_cases hx : x = 0
  · subst hx
    rw [if_pos rfl]
    by_cases hy : y = 0
    · subst hy
      go_enter Tryz.func301, Tryz.ntmps301
      go_wp2_with fail
      go_loopg [8] 2 (fun gk s8 wr => ∃ j : Nat, s8 = .int .i64 j ∧ j + gk = 2 ∧ w = wr)
      case atStart => exact ⟨0, rfl, by omega, rfl⟩
      case round =>
        obtain ⟨j, rfl, hj, rfl⟩ := hrel
        rcases (show j = 0 ∨ j = 1 ∨ j = 2 by omega) with rfl | rfl | rfl
        · go_wp2_with fail
          go_roundg 1
          case measure => omega
          case rel => exact ⟨1, by go_num, by omega, rfl⟩
        · go_wp2_with fail
          go_roundg 0
          case measure => omega
          case rel => exact ⟨2, by go_num, by omega, rfl⟩
        · go_wp2_with fail
          go_ret
          exact ⟨rfl, rfl⟩
    · have hy1 : (y == 0) = false := by simpa using hy
      have hy2 : (y != 0) = true := by simpa using hy
      go_enter Tryz.func301, Tryz.ntmps301
      go_wp2_with fail
      go_loopg [8] 2 (fun gk s8 wr => ∃ j : Nat, s8 = .int .i64 j ∧ j ≤ 1 ∧ j + gk = 2 ∧ w = wr)
      case atStart => exact ⟨0, rfl, by omega, by omega, rfl⟩
      case round =>
        obtain ⟨j, rfl, hj1, hj, rfl⟩ := hrel
        rcases (show j = 0 ∨ j = 1 by omega) with rfl | rfl
        · go_wp2_with fail
          go_roundg 1
          case measure => omega
          case rel => exact ⟨1, by go_num, by omega, by omega, rfl⟩
        · go_wp2_with fail
          go_ret
          exact ⟨rfl, rfl⟩
  · rw [if_neg hx]
    have hx1 : (x == 0) = false := by simpa using hx
    have hx2 : (x != 0) = true := by simpa using hx
    go_enter Tryz.func301, Tryz.ntmps301
    go_wp2_with fail
    go_loopg [8] 2 (fun gk s8 wr => s8 = .int .i64 0 ∧ w = wr)
    case atStart => exact ⟨rfl, rfl⟩
    case round =>
      obtain ⟨rfl, rfl⟩ := hrel
      go_wp2_with fail
      go_ret
      exact ⟨rfl, rfl⟩
end Go.Proofs.YtjnmkdahbcmfaaaGreat

/- the order of a set's looks: the closure of sorted. -/
namespace Go.Proofs.YtjnmkdahbcmfaaaGreat
open Go.ChangeShapes Go.WideShapes Go.ChangeAt Go.RowKit Go.Sort
set_option linter.unusedVariables false
theorem rd_look {W : World} {g : Nat} {x : Lk} {m : Int} (h : Blk W g 45 x.cells) (hx : x.right m) : Rd1 W (g + 1) (some ⟨g, 1, none⟩) x.l.length (ints x.l) := by
  refine ⟨by simp [ints], .inr ⟨g, 1, rfl, by omega, fun i v hv => ?_⟩⟩
  have hl := right_l hx
  have hi : i < x.l.length := by have := (List.getElem?_eq_some_iff.1 hv).1; simpa [ints] using this
  have h1 : x.cells[1 + i]? = some (.int .i64 (x.s i)) := Lk.cellAt x i (by omega)
  rw [h.cell (1 + i), h1, s_getD hx i]
  simp [ints, hi] at hv
  rw [← hv]
  simp [List.getD_eq_getElem?_getD, hi]
def Grew (w w' : World) : Prop := ∃ (q : Nat) (os : Array Obj), w' = grow (w.drewN q) os
theorem Grew.refl (w : World) : Grew w w := ⟨0, #[], by simp [World.drewN]⟩
theorem Grew.alloc {w w' : World} (h : Grew w w') (o : Obj) : Grew w (w'.alloc o) := by
  obtain ⟨q, os, rfl⟩ := h
  exact ⟨q, os ++ #[o], by rw [alloc_eq_grow, grow_grow]⟩
theorem Grew.drew {w w' : World} (h : Grew w w') : Grew w w'.drew := by
  obtain ⟨q, os, rfl⟩ := h
  exact ⟨q + 1, os, rfl⟩
theorem Grew.below {w w' : World} (h : Grew w w') : Below w.heap.size w w' := by
  obtain ⟨q, os, rfl⟩ := h
  exact ⟨rfl, rfl, rfl, by simp [grow, World.drewN], fun k hk => by simp [grow, World.drewN, Array.getElem?_append_left hk]⟩
def SC (w : World) (x y : Lk) (W : World) : Prop := Blk W w.heap.size 45 x.cells ∧ Blk W (w.heap.size + 1) 45 y.cells ∧ Grew w W
theorem SC.drew {w : World} {x y : Lk} {W : World} (h : SC w x y W) : SC w x y W.drew := ⟨h.1.drew, h.2.1.drew, h.2.2.drew⟩
theorem SC.alloc {w : World} {x y : Lk} {W : World} (h : SC w x y W) (o : Obj) : SC w x y (W.alloc o) := ⟨h.1.alloc _, h.2.1.alloc _, h.2.2.alloc _⟩
theorem SC.cells {w : World} {x y : Lk} {W : World} (h : SC w x y W) : W.cell? ⟨w.heap.size, 0, none⟩ = some (.int .i64 x.n) ∧ W.cell? ⟨w.heap.size + 1, 0, none⟩ = some (.int .i64 y.n) ∧ SC w x y W :=
  ⟨h.1.cell 0, h.2.1.cell 0, h⟩
theorem or2_lcmp {x y : Lk} (n m : Int) (hn : n = x.l.length) (hm : m = y.l.length) : or2 (cmpI x.l y.l) (cmp1 n m) = lcmp x y := by
  unfold or2 lcmp
  by_cases h : cmpI x.l y.l = 0
  · rw [if_pos h, h]
    have := cmpI_eq _ _ h
    rw [hn, hm, this]
    unfold cmp1; simp
  · rw [if_neg h]
set_option maxHeartbeats 2000000 in
theorem setcmp_any (x y : Lk) (w : World) (hx : x.right 8) (hy : y.right 8) : Calls Tryz.prog 300 #[x.v, y.v] w fun e w' => e = .returned (.int .i64 (lcmp x y)) ∧ Grew w w' := by
  have hlx := right_l hx
  have hly := right_l hy
  have h4 := Lib.hid slicescmp_any
  have h5 := Lib.hid cmp1_any
  have h6 := Lib.hid or2_any
  have hR := Lib.hid (or2_lcmp (x := x) (y := y) x.n y.n hlx.1.symm hly.1.symm)
  have hrx := Lib.hid (fun (W : World) (h : SC w x y W) => (rd_look h.1 hx).mono (B' := w.heap.size + 2) (by omega))
  have hry := Lib.hid (fun (W : World) (h : SC w x y W) => (rd_look h.2.1 hy).mono (B' := w.heap.size + 2) (by omega))
  obtain ⟨lx, hlx0⟩ : ∃ lx, lx = x.l.length := ⟨_, rfl⟩
  obtain ⟨ly, hly0⟩ : ∃ ly, ly = y.l.length := ⟨_, rfl⟩
  rw [← hlx0] at hrx hlx
  rw [← hly0] at hry hly
  have hnx : x.n = (lx : Int) := hlx.1.symm
  have hny : y.n = (ly : Int) := hly.1.symm
  have hx4 : lx ≤ 4 := hlx.2.1
  have hy4 : ly ≤ 4 := hly.2.1
  clear hlx hly hlx0 hly0 hx hy
  generalize lcmp x y = R at *
  have hS0 : SC w x y ((w.alloc (.cells x.cells 45)).alloc (.cells y.cells 45)) := ⟨(Blk.new _ _ _).alloc _, Blk.newAt _ _ _ _ (by simp), ((Grew.refl w).alloc _).alloc _⟩
  unfold Lk.v
  unfold Lk.cells at hS0
  rw [hnx] at hS0
  rw [hny] at hS0
  go_enter Tryz.func300, Tryz.ntmps300
  go_wp2_with fail
  rw [hnx, hny]
  generalize (w.alloc (.cells #[.int .i64 lx, .int .i64 x.a, .int .i64 x.b, .int .i64 x.c, .int .i64 x.d] 45)).alloc (.cells #[.int .i64 ly, .int .i64 y.a, .int .i64 y.b, .int .i64 y.c, .int .i64 y.d] 45) = W at *
  have hS1 := hS0.drew
  have hcl := Lib.hid (fun (W : World) (h : SC w x y W) => show W.cell? ⟨w.heap.size, 0, none⟩ = some (.int .i64 lx) ∧ W.cell? ⟨w.heap.size + 1, 0, none⟩ = some (.int .i64 ly) ∧ SC w x y W by rw [← hnx, ← hny]; exact h.cells)
  clear hS0
  have hb0 := Lib.hid ((Blk.newAt W.drew 3 #[.int .i64 (cmpI x.l y.l), .int .i64 (cmp1 lx ly)] W.heap.size rfl).cell 0)
  have hb1 := Lib.hid ((Blk.newAt W.drew 3 #[.int .i64 (cmpI x.l y.l), .int .i64 (cmp1 lx ly)] W.heap.size rfl).cell 1)
  rw [hnx, hny] at hR
  have hz1 : (0 : Int) ≤ lx := by omega
  have hz2 : (0 : Int) ≤ ly := by omega
  have hz3 : (lx : Int) ≤ 4 := by omega
  have hz4 : (ly : Int) ≤ 4 := by omega
  replace hnx := Lib.hid hnx
  replace hny := Lib.hid hny
  go_region_held3 (fun w' => w'.cell? ⟨w.heap.size, 0, none⟩ = some (.int .i64 lx) ∧ w'.cell? ⟨w.heap.size + 1, 0, none⟩ = some (.int .i64 ly) ∧ SC w x y w')
    ((refine hcl.out _ ?_; first | assumption | exact SC.alloc hS1 _))
    (first
      | (go_at_call 302; refine (h4.out _ _ _ _ _ _ x.l y.l _ (w.heap.size + 2) (hrx.out _ hS1) (hry.out _ hS1) (by omega) (by omega)).mono ?_; rintro e w1 ⟨rfl, rfl⟩)
      | (go_at_call 303; refine (h5.out _ _ _).mono ?_; rintro e w1 ⟨rfl, rfl⟩)
      | (go_at_call 301; refine (h6.out (cmpI x.l y.l) (cmp1 lx ly) W.heap.size _ hb0.out hb1.out).mono ?_; rintro e w1 ⟨rfl, rfl⟩; rw [hR.out]))
  all_goals
    go_wp2_with fail
    go_ret
    exact ⟨rfl, (SC.alloc hS1 _).2.2⟩
end Go.Proofs.YtjnmkdahbcmfaaaGreat

/- slices.SortFunc at the looks of a set. -/
namespace Go.Proofs
open Go.Shelf
shelf_lay_g SlLaysF0.n6 Slsf 6 at Tryz 291 as Tryz.sortL
end Go.Proofs
namespace Go.Proofs.YtjnmkdahbcmfaaaGreat
open Go.ChangeShapes Go.WideShapes Go.ChangeAt Go.RowKit Go.Sort Go.Shelf
set_option linter.unusedVariables false
structure RL where
  x : Lk
  h : x.right 8
instance : Inhabited RL := ⟨⟨Lk.of [], nil_right 8 (by omega)⟩⟩
def encR (x : RL) : List Value := x.x.cells.toList
def cfR (x y : RL) : Int := lcmp x.x y.x
theorem encR_len (x : RL) : (encR x).length = 5 := rfl
theorem encR_one (x : RL) : ∀ v ∈ encR x, v.oneCell' = true := by
  intro v hv
  simp [encR, Lk.cells] at hv
  rcases hv with rfl | rfl | rfl | rfl | rfl <;> rfl
theorem ltR (x y : RL) : ltOf cfR x y = decide (lcmp x.x y.x < 0) := rfl
theorem swoR : SWO (ltOf cfR) where
  irrefl x := by rw [ltR, lcmp_refl]; rfl
  trans x y z h1 h2 := by
    rw [ltR] at *
    simp at *
    have a1 : lcmp x.x y.x = -1 := by rcases lcmp_vals x.1 y.1 with h | h | h <;> omega
    have a2 : lcmp y.x z.x = -1 := by rcases lcmp_vals y.1 z.1 with h | h | h <;> omega
    rw [lcmp_trans a1 a2]; omega
  ntrans x y z h1 h2 := by
    rw [ltR] at *
    simp at *
    rcases lcmp_vals x.1 z.1 with h | h | h
    · rcases lcmp_vals x.1 y.1 with g1 | g1 | g1
      · omega
      · have := lcmp_eq x.h y.h g1; rw [this] at h; omega
      · rcases lcmp_vals y.1 z.1 with g2 | g2 | g2
        · omega
        · have := lcmp_eq y.h z.h g2; rw [← this] at h; omega
        · have e1 : lcmp y.x x.x = -1 := by rw [lcmp_anti]; omega
          have e2 : lcmp z.x y.x = -1 := by rw [lcmp_anti]; omega
          have := lcmp_trans e2 e1
          rw [lcmp_anti] at this; omega
    · omega
    · omega
theorem totR (x y : RL) (h1 : ltOf cfR x y = false) (h2 : ltOf cfR y x = false) : x = y := by
  rw [ltR] at *
  simp at h1 h2
  rw [lcmp_anti] at h2
  have e := lcmp_eq x.h y.h (by omega)
  cases x; cases y; simp only at e; subst e; rfl
def mkR : (l : List Lk) → (∀ x ∈ l, x.right 8) → List RL
  | [], _ => []
  | x :: l, h => ⟨x, h x List.mem_cons_self⟩ :: mkR l fun y hy => h y (List.mem_cons_of_mem _ hy)
theorem mkR_map : ∀ (l : List Lk) (h : ∀ x ∈ l, x.right 8), (mkR l h).map RL.x = l
  | [], _ => rfl
  | x :: l, h => by rw [mkR, List.map_cons, mkR_map l]
theorem flatR (ts : List RL) : flatK encR 5 ts.toArray = (cellsL (ts.map RL.x)).toArray := by
  apply Array.ext
  · rw [size_flatK]; simp [cellsL_len]
  · intro t h1 h2
    rw [size_flatK] at h1
    simp only [List.size_toArray] at h1
    have ht : t / 5 < ts.length := by omega
    have e1 : (flatK encR 5 ts.toArray)[t]'(by rw [size_flatK]; simpa using h1) = (encR ts.toArray[t / 5]!)[t % 5]! := by
      rw [← get_flatK encR 5 ts.toArray t (by simpa using h1), getElem!_pos]
    rw [e1]
    have hx : (ts.map RL.x)[t / 5]? = some ts[t / 5].x := by simp [ht]
    have e2 := cellsL_get (ts.map RL.x) (t / 5) ts[t / 5].x hx (t % 5) (by omega)
    rw [show t / 5 * 5 + t % 5 = t by omega] at e2
    have e3 : ts.toArray[t / 5]! = ts[t / 5] := by rw [getElem!_pos ts.toArray (t / 5) (by simpa using ht)]; simp
    rw [e3]
    have hc : t % 5 < ts[t / 5].x.cells.size := by simp [Lk.cells]; omega
    have e4 : (cellsL (ts.map RL.x))[t]? = some ((cellsL (ts.map RL.x)).toArray[t]'h2) := by simp at h2 ⊢
    rw [e4, Array.getElem?_eq_getElem hc] at e2
    injection e2 with e2
    rw [e2]
    have : (encR ts[t / 5])[t % 5]! = (encR ts[t / 5])[t % 5]'(by simpa [encR] using hc) := getElem!_pos _ _ _
    rw [this]; simp [encR]
theorem sorted_is_lset (l : List Lk) (h : ∀ x ∈ l, x.right 8) (hn : l.Nodup) : ((mkR l h).mergeSort fun x y => !(ltOf cfR) y x).map RL.x = lset l := by
  have hp := List.mergeSort_perm (mkR l h) (fun x y => !(ltOf cfR) y x)
  have hw := List.pairwise_mergeSort (le := fun x y => !(ltOf cfR) y x) (fun a b c h1 h2 => by
      simp only [Bool.not_eq_true'] at *
      exact swoR.ntrans c b a h2 h1) (fun a b => by
      cases hh : ltOf cfR b a with
      | false => simp
      | true =>
        have : ltOf cfR a b = false := by
          cases h3 : ltOf cfR a b with
          | false => rfl
          | true => have := swoR.trans _ _ _ hh h3; rw [swoR.irrefl] at this; cases this
        simp [this]) (mkR l h)
  generalize (mkR l h).mergeSort (fun x y => !(ltOf cfR) y x) = m at *
  have hpm : (m.map RL.x).Perm l := by have := hp.map RL.x; rwa [mkR_map] at this
  have hnd : (m.map RL.x).Nodup := hpm.nodup_iff.2 hn
  have hnd2 : m.Pairwise (fun x y => x.x ≠ y.x) := List.pairwise_map.1 hnd
  refine lset_of h ?_ (fun z => hpm.mem_iff)
  unfold Asc
  rw [List.pairwise_map]
  refine (hw.and hnd2).imp fun {x y} hxy => ?_
  obtain ⟨h1, h2⟩ := hxy
  rw [ltR] at h1
  simp at h1
  rcases lcmp_vals x.x y.1 with g | g | g
  · exact g
  · exact absurd (lcmp_eq x.h y.h g) h2
  · rw [lcmp_anti] at h1; omega
theorem holds_ownL {w : World} {g cap base : Nat} {l : List Lk} {cur : Array Value} (hb : w.heap[g]? = some (.cells cur 45 (0, 0))) (ht : cur.toList.take (l.length * 5) = cellsL l) : Holds id w g 0 (cellsL l).toArray := by
  intro j hj
  have hj' : j < (cellsL l).length := by simpa using hj
  have hj2 : j < l.length * 5 := by rw [← cellsL_len]; exact hj'
  refine ⟨?_, by simp [World.frozen?, hb]⟩
  have h1 : (cur.toList.take (l.length * 5))[j]? = (cellsL l)[j]? := by rw [ht]
  rw [List.getElem?_take_of_lt hj2] at h1
  simp only [World.cell?, hb, Nat.zero_add]
  simp only [Option.isSome_none, Bool.false_eq_true, if_false]
  rw [← Array.getElem?_toList, h1]
  simp [hj']
theorem aggR : ∀ w, (isAgg 45).run Tryz.prog w = .ok true w := fun w => by first | exact Tryz.isAgg45 w | rfl
theorem sizeR : ∀ w, (Go.sizeOf 45).run Tryz.prog w = .ok 5 w := fun w => by first | exact Tryz.sizeOf45 w | rfl
theorem sortfunc_any (l : List Lk) (v : Value) (base : Nat) (w : World) (hr : ∀ x ∈ l, x.right 8) (hn : l.Nodup) (hlen : l.length ≤ 1000000) (ho : OwnL w base v l) :
    Calls Tryz.prog 291 #[v, .func (.func 300) #[] #[]] w fun e w' => e = .returned (.tuple #[]) ∧ OwnL w' base v (lset l) ∧ w.grownBy w' v.ownBlock ∧ (lset l).length = l.length := by
  have hll : (lset l).length = l.length := by
    rw [← sorted_is_lset l hr hn, List.length_map, List.length_mergeSort]
    have := congrArg List.length (mkR_map l hr)
    simpa using this
  rcases ho.2 with ⟨rfl, h0⟩ | ⟨g, cap, cur, rfl, hbase, hb, h1, h2, h3, h4⟩
  · have hl0 : l = [] := List.eq_nil_of_length_eq_zero h0
    subst hl0
    refine (AnyF.slices_SortFunc_none Tryz.sortL none 0 (.func (.func 300) #[] #[]) w).mono ?_
    rintro e w' ⟨rfl, rfl⟩
    exact ⟨rfl, ho, ⟨rfl, rfl, rfl, Nat.le_refl _, fun _ _ _ => rfl⟩, hll⟩
  · have hg : g < w.heap.size := (Array.getElem?_eq_some_iff.1 hb).1
    have hH : HoldsK encR 5 w g 0 (mkR l hr).toArray := by
      unfold HoldsK
      rw [flatR, mkR_map]
      exact holds_ownL (cap := cap) (base := base) hb h4
    have hms : (mkR l hr).length = l.length := by simpa using congrArg List.length (mkR_map l hr)
    have hcmp : CmpLays Tryz.prog 300 #[] encR 5 cfR g 0 (mkR l hr).toArray.size w := fun m os dk _ x y => setcmp_any x.x y.x _ x.h y.h
    have eg : ∀ args w, (callFunc 300 args).run Tryz.prog w = .ok (.enter 300 args) w := enters_of Tryz.func300 (by kernel_rfl) rfl
    have hcon := AnyQ.slices_SortFunc_total Tryz.sortL 5 aggR sizeR encR encR_len encR_one cfR swoR 300 #[] g 0 cap (mkR l hr).toArray w eg hcmp hH hg (by simp [hms]; omega) totR
    have hs : (mkR l hr).toArray.size = l.length := by simp [hms]
    rw [hs] at hcon
    refine Calls.mono hcon ?_
    rintro e w' ⟨rfl, n, os, rfl⟩
    have e1 : (mkR l hr).toArray.toList = mkR l hr := rfl
    have e2 : flatK encR 5 ((mkR l hr).mergeSort fun x y => !(ltOf cfR) y x).toArray = (cellsL (lset l)).toArray := by rw [flatR, sorted_is_lset l hr hn]
    unfold sortWorldK putRowK
    rw [e1, e2]
    have hlc : (cellsL (lset l)).length = l.length * 5 := by rw [cellsL_len, hll]
    refine ⟨rfl, ⟨by rw [hll]; exact hlc, .inr ⟨g, cap, putCells id 0 (cellsL (lset l)).toArray cur, by rw [hll], hbase, ?_, by omega, h2, by simp [putCells, h3], ?_⟩⟩, ⟨rfl, rfl, rfl, by simp, fun k hk hne => ?_⟩, hll⟩
    · rw [heap_grow_old _ _ (by simpa using hg)]
      simp [putRow, mapBlock, Sort.ahead, Array.getElem?_modify, hb, onCells]
    · rw [hll]
      apply List.ext_getElem?
      intro j
      by_cases hj : j < l.length * 5
      · have hjc : j < cur.size := by rw [h3]; have := Nat.mul_le_mul_right 5 h1; omega
        rw [List.getElem?_take_of_lt hj, Array.getElem?_toList]
        simp [putCells, hlc, hj, hjc]
      · rw [List.getElem?_take_eq_none (by omega), List.getElem?_eq_none (by omega)]
    · rw [heap_grow_old _ _ (by simpa using hk)]
      have : g ≠ k := fun e => hne (by rw [← e]; rfl)
      simp [putRow, mapBlock, Sort.ahead, Array.getElem?_modify, this]
end Go.Proofs.YtjnmkdahbcmfaaaGreat

/- (follow.set).sorted. -/
namespace Go.Proofs.YtjnmkdahbcmfaaaGreat
open Go.ChangeShapes Go.WideShapes Go.ChangeAt Go.RowKit
set_option linter.unusedVariables false
theorem IterL.step {w w' : World} {b r : Nat} {s out : List Lk} (h : IterL w b r s out) (hb : Below w.heap.size w w') : IterL w' b r s out := h.grown (grown_of_below hb) (by simp) (by simp)
theorem nodup_same {out s : List Lk} (h1 : out.Nodup) (h2 : ∀ x ∈ out, x ∈ s) (h3 : ∀ x ∈ s, x ∈ out) : ∀ z, z ∈ s ↔ z ∈ out := fun z => ⟨h3 z, h2 z⟩
theorem IterL.parts {w : World} {b r : Nat} {s out : List Lk} (h : IterL w b r s out) : out.Nodup ∧ (∀ x ∈ out, x ∈ s) ∧ s.Nodup := by
  obtain ⟨es, clock, since, seen, c0, h1, h2, h3, h4, h5, h6, h7, h8, h9⟩ := h
  exact ⟨h8, h9, h2.2.2.2.1⟩
theorem nodup_len {out s : List Lk} (h1 : out.Nodup) (h2 : ∀ x ∈ out, x ∈ s) : out.length ≤ s.length := by
  induction out generalizing s with
  | nil => simp
  | cons x out ih =>
    obtain ⟨hx, hn⟩ := List.nodup_cons.1 h1
    have hm := h2 x List.mem_cons_self
    have := ih (s := s.erase x) hn (fun y hy => (List.mem_erase_of_ne (by rintro rfl; exact hx hy)).2 (h2 y (List.mem_cons_of_mem _ hy)))
    rw [List.length_erase_of_mem hm] at this
    have : 0 < s.length := List.length_pos_of_mem hm
    simp; omega
set_option maxHeartbeats 2000000 in
theorem sorted_any (b : Nat) (s : List Lk) (w : World) (hm : MapK lookKey w b s) (hr : ∀ x ∈ s, x.right 8) (hlen : s.length ≤ 900000) : Calls Tryz.prog 272 #[.map (some b)] w (RetL w (lset s)) := by
  have hP := Lib.hid (fun (v : Value) (w' : World) (h1 : OwnL w' w.heap.size v (lset s)) (h2 : Below w.heap.size w w') => (show RetL w (lset s) (.returned v) w' from ⟨v, rfl, h1, h2⟩))
  have hS := Lib.hid sortfunc_any
  have hr' := Lib.hid hr
  have hb := hm.lt
  clear hr
  go_enter Tryz.func272, Tryz.ntmps272
  go_wp2_with (at_range; refine wpList_range_look _ under67 rfl _ rfl b s rfl hm ?_; intro w1 hit hb1; go_frame)
  have hsz : w.heap.size < w1.heap.size := by
    obtain ⟨es, clock, since, seen, c0, h1, _, h3, _⟩ := hit
    exact (Array.getElem?_eq_some_iff.1 h3).1
  go_loopg [3] s.length (fun gk s3 wr => ∃ out : List Lk, out.length + gk = s.length ∧ OwnL wr (w.heap.size + 1) s3 out ∧ IterL wr b w.heap.size s out ∧ Below w.heap.size w wr ∧ w.heap.size < wr.heap.size)
  case atStart => exact ⟨[], by simp, OwnL.nil _ _, hit, hb1, hsz⟩
  case round =>
    clear hit hb1 hsz
    obtain ⟨out, hlo, ho, hit, hbw, hsz⟩ := hrel
    replace hlo := Lib.hid hlo
    go_wp2_with (first
      | (at_next; refine wpList_next_look _ rfl _ rfl b w.heap.size s out rfl hit ?_ ?_)
      | go_in)
    · intro hall
      obtain ⟨hn, hsub, hns⟩ := hit.parts
      have hro : ∀ x ∈ out, x.right 8 := fun x hx => hr'.out x (hsub x hx)
      have hls : lset out = lset s := lset_same hr'.out (fun z => (nodup_same hn hsub hall z).symm)
      have hol : out.length ≤ 1000000 := by have := hlo.out; omega
      replace hls := Lib.hid hls
      go_wp2_with (go_at_call 291; refine (hS.out out u3 (w.heap.size + 1) wr hro hn hol ho).mono ?_; rintro e w3 ⟨rfl, ho3, hg3, hl3⟩)
      go_ret
      exact hP.out _ _ (hls.out ▸ ho3.mono (by omega)) (hbw.grown hg3 (by omega) (fun k hk => by have := (own_in ho k hk).1; omega))
    · intro x w2 hxs hxo hit2 hen hg2 hsz2
      have ho2 : OwnL w2 (w.heap.size + 1) u3 out := World.ownsRow.kept ho hg2 (.inr (fun e => by have := (own_in ho _ e).1; omega))
      have hb2 : Below w.heap.size w w2 := hbw.grown hg2 (by omega) (fun k hk => by cases hk; exact Nat.le_refl _)
      have hol : out.length < 1000000 := by have := hlo.out; omega
      have hlen2 := nodup_len hit2.parts.1 hit2.parts.2.1
      rw [List.length_append, List.length_singleton] at hlen2
      have hsz3 : w.heap.size < w2.heap.size := by omega
      unfold Lk.v at hen
      replace hsz2 := Lib.hid hsz2
      go_upto_region 5 with (fail)
      change Code.wp Tryz.prog _ _ _ (lay5 w2 x)
      have hbl := lay5_below w2 x
      have q4 := lay5_blk w2 x
      have ho3 := ho2.step hbl
      have hit3 := hit2.step hbl
      have hb3 := bStep hb2 hbl
      have hsz4 := Nat.lt_of_lt_of_le hsz3 hbl.size
      clear hen ho2 hit2 hb2 hbl hsz3
      generalize lay5 w2 x = W1 at *
      generalize w2.heap.size = B4 at *
      have d0 := q4.cell 0
      have d1 := q4.cell 1
      have d2 := q4.cell 2
      have d3 := q4.cell 3
      have d4 := q4.cell 4
      simp only [Lk.cells, List.getElem?_toArray, List.getElem?_cons_zero, List.getElem?_cons_succ] at d0 d1 d2 d3 d4
      go_wp2_with (at_builtin; refine wpList_pushL _ rfl _ _ rfl (w.heap.size + 1) _ out rfl (ho3.alloc _) _ x rfl (Blk.new _ _ _) hol (by simp; omega) ?_; intro v' w5 ho5 hg5 hat5 hb5)
      all_goals
        have hbo : ∀ k, u3.ownBlock = some k → w.heap.size + 1 ≤ k := fun k hk => (own_in ho3 k hk).1
        have hit5 : IterL w5 b w.heap.size s (out ++ [x]) := (hit3.step ((Below.refl _ _).alloc (Nat.le_refl _) _)).grown hg5 (fun e => by have := hbo _ e.symm; omega) (fun e => by have := hbo _ e.symm; omega)
        have hz5 := hg5.size
        simp only [World.size_alloc] at hz5
        go_roundg (s.length - (out.length + 1))
        case measure => have := hlo.out; omega
        case rel => exact ⟨out ++ [x], by rw [List.length_append, List.length_singleton]; omega, ho5, hit5, (bAlc hb3 _).grown hg5 (by simp; omega) (fun k hk => by have := hbo k hk; omega), by omega⟩
end Go.Proofs.YtjnmkdahbcmfaaaGreat

/- The looks there are; what tail computes. -/
namespace Go.Proofs.YtjnmkdahbcmfaaaGreat
open Go.ChangeShapes Go.WideShapes Go.ChangeAt Go.RowKit
set_option linter.unusedVariables false
def Fit (k : Nat) (x : Lk) : Prop := x.right 8 ∧ x.l.length ≤ k
def oneL (ss : List (List Lk)) (s : Int) : List Lk := if 16 ≤ s then lset (ss.getD (s - 16).toNat []) else [Lk.of [s]]
def stepL (k : Nat) (ss : List (List Lk)) (out : List Lk) (s : Int) : List Lk := lset (addAll [] (sumsJ k out (oneL ss s)))
def tailL (k : Nat) (ss : List (List Lk)) (l : List Int) : List Lk := l.foldl (stepL k ss) [Lk.of []]
def SetsFit (k : Nat) (ss : List (List Lk)) : Prop := ∀ s ∈ ss, ∀ x ∈ s, Fit k x
def SetsR (W : World) (B : Nat) (A : Option Addr) (n : Nat) (ss : List (List Lk)) : Prop :=
  ss.length = n ∧ (n = 0 ∨ ∃ b off, A = some ⟨b, off, none⟩ ∧ b < B ∧ ∀ (i : Nat) (s : List Lk), ss[i]? = some s → ∃ mb, mb < B ∧ W.cell? ⟨b, off + i, none⟩ = some (.map (some mb)) ∧ MapK lookKey W mb s)
theorem MapK.below {α : Type} {E : KeyEnc α} {w w' : World} {B b : Nat} {s : List α} (h : MapK E w b s) (hb : Below B w w') (hlt : b < B) : MapK E w' b s := by
  obtain ⟨es, clock, h1, h2⟩ := h
  exact ⟨es, clock, (hb.block b hlt).trans h1, h2⟩
theorem SetsR.below {W W' : World} {B : Nat} {A : Option Addr} {n : Nat} {ss : List (List Lk)} (h : SetsR W B A n ss) (hb : Below B W W') : SetsR W' B A n ss := by
  refine ⟨h.1, ?_⟩
  rcases h.2 with h0 | ⟨b, off, rfl, hlt, hc⟩
  · exact .inl h0
  · refine .inr ⟨b, off, rfl, hlt, fun i s hs => ?_⟩
    obtain ⟨mb, h1, h2, h3⟩ := hc i s hs
    exact ⟨mb, h1, (hb.cell (p := ⟨b, off + i, none⟩) hlt).trans h2, h3.below hb h1⟩
end Go.Proofs.YtjnmkdahbcmfaaaGreat

/- follow.tail. -/
namespace Go.Proofs.YtjnmkdahbcmfaaaGreat
open Go.ChangeShapes Go.WideShapes Go.ChangeAt Go.RowKit
set_option linter.unusedVariables false
theorem SetsR.get {W : World} {B : Nat} {A : Option Addr} {n : Nat} {ss : List (List Lk)} (h : SetsR W B A n ss) (i : Nat) (hi : i < n) :
    ∃ b off mb, A = some ⟨b, off, none⟩ ∧ b < B ∧ mb < B ∧ W.cell? ⟨b, off + i, none⟩ = some (.map (some mb)) ∧ MapK lookKey W mb (ss.getD i []) := by
  rcases h.2 with h0 | ⟨b, off, rfl, hlt, hc⟩
  · omega
  · have hil : i < ss.length := by rw [h.1]; exact hi
    obtain ⟨mb, h1, h2, h3⟩ := hc i ss[i] (List.getElem?_eq_getElem hil)
    refine ⟨b, off, mb, rfl, hlt, h1, h2, ?_⟩
    simpa [List.getD_eq_getElem?_getD, hil] using h3
end Go.Proofs.YtjnmkdahbcmfaaaGreat

/- Own sets; FIRST as a predicate. -/
namespace Go.Proofs.YtjnmkdahbcmfaaaGreat
open Go.ChangeShapes Go.WideShapes Go.ChangeAt Go.RowKit
set_option linter.unusedVariables false
def SetsO (W : World) (base bo n : Nat) (ss : List (List Lk)) : Prop :=
  ∃ (cs : Array Value) (mbs : List Nat), Blk W bo 287 cs ∧ cs.size = n ∧ mbs.length = ss.length ∧ mbs.Nodup ∧ (∀ m ∈ mbs, base ≤ m ∧ m < W.heap.size) ∧
    ∀ (i m : Nat) (s : List Lk), mbs[i]? = some m → ss[i]? = some s → cs[i]? = some (.map (some m)) ∧ MapK lookKey W m s
theorem SetsO.step {W W' : World} {base bo n : Nat} {ss : List (List Lk)} (h : SetsO W base bo n ss) (hb : Below W.heap.size W W') : SetsO W' base bo n ss := by
  obtain ⟨cs, mbs, h1, h2, h3, h4, h5, h6⟩ := h
  exact ⟨cs, mbs, h1.step hb, h2, h3, h4, fun m hm => ⟨(h5 m hm).1, Nat.lt_of_lt_of_le (h5 m hm).2 hb.size⟩, fun i m s a b => ⟨(h6 i m s a b).1, (h6 i m s a b).2.step hb⟩⟩
theorem grownBy_setC (w : World) (b i : Nat) (v : Value) : w.grownBy (w.setCell ⟨b, i, none⟩ v) (some b) :=
  ⟨rfl, rfl, rfl, by simp, fun k hk hne => Below.heap_setCell w ⟨b, i, none⟩ v k (fun e => hne (by rw [e]))⟩
theorem mapk_blk {α : Type} {E : KeyEnc α} {W : World} {m g : Nat} {s : List α} {t : TypeId} {cs : Array Value} (h : MapK E W m s) (q : Blk W g t cs) : m ≠ g := by
  rintro rfl
  obtain ⟨es, clock, hb, _⟩ := h
  unfold Blk at q
  rw [hb] at q; cases q
theorem SetsO.put {W : World} {base bo n : Nat} {ss : List (List Lk)} (h : SetsO W base bo n ss) {g : Nat} {t : TypeId} {cs' : Array Value} (q : Blk W g t cs') (hg : g ≠ bo) (i : Nat) (v : Value) : SetsO (W.setCell ⟨g, i, none⟩ v) base bo n ss := by
  obtain ⟨cs, mbs, h1, h2, h3, h4, h5, h6⟩ := h
  refine ⟨cs, mbs, h1.far (Ne.symm hg) v, h2, h3, h4, fun m hm => ?_, fun j m s a b => ⟨(h6 j m s a b).1, ?_⟩⟩
  · have := h5 m hm; simpa using this
  · have hm := (h6 j m s a b).2
    exact hm.grown (grownBy_setC W g i v) (by simpa using mapk_blk hm q)
theorem SetsO.push {W : World} {base bo n : Nat} {ss : List (List Lk)} (h : SetsO W base bo n ss) (hn : ss.length < n) (hb : base ≤ W.heap.size) :
    SetsO ((W.alloc (.map #[] 0)).setCell ⟨bo, ss.length, none⟩ (.map (some W.heap.size))) base bo n (ss ++ [[]]) := by
  obtain ⟨cs, mbs, h1, h2, h3, h4, h5, h6⟩ := h
  have hlt := h1.lt
  have hbo : W.heap.size ≠ bo := by omega
  refine ⟨cs.setIfInBounds ss.length (.map (some W.heap.size)), mbs ++ [W.heap.size], (h1.alloc _).put _ _, by simpa using h2, by simp [h3], ?_, ?_, ?_⟩
  · rw [List.nodup_append]
    refine ⟨h4, by simp, fun a ha b hb' => ?_⟩
    simp at hb'; subst hb'
    have := (h5 a ha).2
    omega
  · intro m hm
    rcases List.mem_append.1 hm with hm | hm
    · have := h5 m hm; simp; omega
    · simp at hm; subst hm; simp; omega
  · intro i m s hmi hsi
    by_cases hi : i < ss.length
    · rw [List.getElem?_append_left (by omega)] at hmi hsi
      obtain ⟨a, b⟩ := h6 i m s hmi hsi
      refine ⟨by rw [Array.getElem?_setIfInBounds_ne (by omega)]; exact a, ?_⟩
      have b2 := b.step (w' := W.alloc (.map #[] 0)) (bAlc (Below.refl _ _) _)
      exact b2.grown (grownBy_setC _ bo _ _) (by simpa using mapk_blk b h1)
    · have hi2 : i = ss.length := by have := (List.getElem?_eq_some_iff.1 hsi).1; simp at this; omega
      subst hi2
      rw [← h3] at hmi
      simp at hmi hsi
      subst hmi; subst hsi
      refine ⟨by rw [Array.getElem?_setIfInBounds_self]; simp [h2, hn], ?_⟩
      exact (mapk_new lookKey W W.heap.size rfl).grown (grownBy_setC _ bo _ _) (by simpa using hbo)
theorem SetsO.get {W : World} {base bo n : Nat} {ss : List (List Lk)} (h : SetsO W base bo n ss) (i : Nat) (hi : i < ss.length) :
    ∃ m, base ≤ m ∧ m < W.heap.size ∧ W.cell? ⟨bo, i, none⟩ = some (.map (some m)) ∧ MapK lookKey W m (ss.getD i []) ∧ ∀ (W1 W' : World) (cur : List Lk), Below W.heap.size W W1 → W1.grownBy W' (some m) → MapK lookKey W' m cur → SetsO W' base bo n (ss.set i cur) := by
  obtain ⟨cs, mbs, h1, h2, h3, h4, h5, h6⟩ := h
  have him : i < mbs.length := by omega
  obtain ⟨a, b⟩ := h6 i mbs[i] ss[i] (List.getElem?_eq_getElem him) (List.getElem?_eq_getElem hi)
  obtain ⟨c, d⟩ := h5 _ (List.getElem_mem him)
  refine ⟨mbs[i], c, d, by rw [h1.cell]; exact a, by simpa [List.getD_eq_getElem?_getD, hi] using b, ?_⟩
  intro W1 W' cur hb hg hm
  have hz := hb.size
  have hz2 := hg.size
  refine ⟨cs, mbs, (h1.step hb).grown hg (by simpa using Ne.symm (mapk_blk b h1)), h2, by simpa using h3, h4, fun m hm => ⟨(h5 m hm).1, by have := (h5 m hm).2; omega⟩, ?_⟩
  intro j m s hmj hsj
  by_cases hij : i = j
  · subst hij
    rw [List.getElem?_eq_getElem him] at hmj
    injection hmj with hmj
    subst hmj
    rw [List.getElem?_set_self hi] at hsj
    injection hsj with hsj
    subst hsj
    exact ⟨a, hm⟩
  · rw [List.getElem?_set_ne hij] at hsj
    obtain ⟨a2, b2⟩ := h6 j m s hmj hsj
    refine ⟨a2, (b2.step hb).grown hg ?_⟩
    intro e
    injection e with e
    have hjm := (List.getElem?_eq_some_iff.1 hmj).1
    have e2 : mbs[j] = m := by rw [List.getElem?_eq_getElem hjm] at hmj; injection hmj
    exact hij ((List.getElem_inj h4).1 (by rw [e2, e]))
theorem SetsO.reads {W : World} {base bo n : Nat} {ss : List (List Lk)} (h : SetsO W base bo n ss) (hn : ss.length = n) : SetsR W W.heap.size (some ⟨bo, 0, none⟩) n ss := by
  obtain ⟨cs, mbs, h1, h2, h3, h4, h5, h6⟩ := h
  refine ⟨hn, .inr ⟨bo, 0, rfl, h1.lt, fun i s hs => ?_⟩⟩
  have hi := (List.getElem?_eq_some_iff.1 hs).1
  have him : i < mbs.length := by omega
  obtain ⟨a, b⟩ := h6 i mbs[i] s (List.getElem?_eq_getElem him) hs
  exact ⟨mbs[i], (h5 _ (List.getElem_mem him)).2, by rw [Nat.zero_add, h1.cell]; exact a, b⟩
theorem SetsO.nodup {W : World} {base bo n : Nat} {ss : List (List Lk)} (h : SetsO W base bo n ss) : ∀ s ∈ ss, s.Nodup := by
  obtain ⟨cs, mbs, h1, h2, h3, h4, h5, h6⟩ := h
  intro s hs
  obtain ⟨i, hi, rfl⟩ := List.getElem_of_mem hs
  have him : i < mbs.length := by omega
  obtain ⟨a, es, clock, _, _, _, _, hn, _⟩ := h6 i mbs[i] ss[i] (List.getElem?_eq_getElem him) (List.getElem?_eq_getElem hi)
  exact hn
inductive FL (ps : List Pr) (k : Nat) : List Int → Lk → Prop
  | nil : FL ps k [] (Lk.of [])
  | term {l : List Int} {x : Lk} {s : Int} : FL ps k l x → s < 16 → FL ps k (l ++ [s]) (lplus k x (Lk.of [s]))
  | non {l : List Int} {x : Lk} {p : Pr} {y : Lk} : FL ps k l x → p ∈ ps → 16 ≤ p.left → FL ps k p.right y → FL ps k (l ++ [p.left]) (lplus k x y)
end Go.Proofs.YtjnmkdahbcmfaaaGreat

/- One round of begins, plainly. -/
namespace Go.Proofs.YtjnmkdahbcmfaaaGreat
open Go.ChangeShapes Go.WideShapes Go.ChangeAt Go.RowKit
set_option linter.unusedVariables false
def tot (ss : List (List Lk)) : Nat := (ss.map List.length).sum
def newS (k : Nat) (ss : List (List Lk)) (p : Pr) : List Lk := addAll (ss.getD (p.left - 16).toNat []) (sumsJ k (tailL k ss p.right) [Lk.of []])
end Go.Proofs.YtjnmkdahbcmfaaaGreat

/- follow.begins. -/
namespace Go.Proofs.YtjnmkdahbcmfaaaGreat
open Go.ChangeShapes Go.WideShapes Go.ChangeAt Go.RowKit
set_option linter.unusedVariables false
theorem SetsO.blk {W : World} {base bo n : Nat} {ss : List (List Lk)} (h : SetsO W base bo n ss) {i : Nat} (hi : i < n) : (∃ v, W.cell? ⟨bo, i, none⟩ = some v) ∧ W.frozen? ⟨bo, i, none⟩ = false ∧ bo < W.heap.size := by
  obtain ⟨cs, mbs, h1, h2, h3, h4, h5, h6⟩ := h
  refine ⟨⟨cs[i]'(by omega), ?_⟩, h1.frozen i, h1.lt⟩
  rw [h1.cell]; simp [h2, hi]
theorem SetsO.mono {W : World} {base b' bo n : Nat} {ss : List (List Lk)} (h : SetsO W base bo n ss) (hb : b' ≤ base) : SetsO W b' bo n ss := by
  obtain ⟨cs, mbs, h1, h2, h3, h4, h5, h6⟩ := h
  exact ⟨cs, mbs, h1, h2, h3, h4, fun m hm => ⟨by have := (h5 m hm).1; omega, (h5 m hm).2⟩, h6⟩
theorem SetsO.start {W : World} {base bo n : Nat} {cs : Array Value} (h : Blk W bo 287 cs) (hn : cs.size = n) : SetsO W base bo n [] :=
  ⟨cs, [], h, hn, rfl, List.nodup_nil, by simp, by simp⟩
def KW (W : World) (mb : Nat) (w' : World) : Prop := W.grownBy w' (some mb)
theorem KW.refl (W : World) (mb : Nat) : KW W mb W := ⟨rfl, rfl, rfl, Nat.le_refl _, fun _ _ _ => rfl⟩
theorem KW.drew {W w1 : World} {mb : Nat} (h : KW W mb w1) : KW W mb w1.drew := ⟨h.os, h.tape, h.output, h.size, h.block⟩
theorem KW.grown {W w1 w2 : World} {mb : Nat} (h : KW W mb w1) (hg : w1.grownBy w2 (some mb)) : KW W mb w2 := World.grownBy.andThen h hg (fun j hj => .inr hj)
theorem KW.step {W w1 w2 : World} {mb : Nat} (h : KW W mb w1) (hb : Below w1.heap.size w1 w2) : KW W mb w2 := World.grownBy.andThen h (grown_of_below hb) (fun j hj => by cases hj)
theorem KW.alloc {W w1 : World} {mb : Nat} (h : KW W mb w1) (o : Obj) : KW W mb (w1.alloc o) := h.step (bAlc (Below.refl _ _) _)
end Go.Proofs.YtjnmkdahbcmfaaaGreat

/- FOLLOW as a predicate; its laws. -/
namespace Go.Proofs.YtjnmkdahbcmfaaaGreat
set_option linter.unusedVariables false
inductive FO (ps : List Pr) (k : Nat) (start : Int) : Int → Lk → Prop
  | start : FO ps k start start (Lk.of [])
  | use {p : Pr} {d : Nat} {s : Int} {x y : Lk} : p ∈ ps → p.right[d]? = some s → 16 ≤ s → FL ps k (p.right.drop (d + 1)) x → FO ps k start p.left y → FO ps k start s (lplus k x y)
def SoundO (ps : List Pr) (k : Nat) (start : Int) (fs : List (List Lk)) : Prop := ∀ (i : Nat) (y : Lk), y ∈ fs.getD i [] → FO ps k start (16 + (i : Int)) y
def usesL (k : Nat) (ss fs : List (List Lk)) (p : Pr) (d : Nat) : List Lk := sumsJ k (tailL k ss (p.right.drop (d + 1))) (lset (fs.getD (p.left - 16).toNat []))
end Go.Proofs.YtjnmkdahbcmfaaaGreat

/- follow.uses: the places behind whose dot a wanted symbol stands. -/
namespace Go.Proofs.YtjnmkdahbcmfaaaGreat
open Go.RowKit Go.Shelf
set_option linter.unusedVariables false
attribute [local go_sem] Oper.semAt_some
def rowU (k d : Nat) : List Int → List (Nat × Nat × Int)
  | [] => []
  | s :: l => (k, d, s) :: rowU k (d + 1) l
def prsU (k : Nat) : List PV → List (Nat × Nat × Int)
  | [] => []
  | p :: ps => rowU k 0 p.p.right ++ prsU (k + 1) ps
def usF (q : Int → Bool) (l : List (Nat × Nat × Int)) : List (Nat × Nat × Int) := l.filter fun u => q u.2.2
def usAll (q : Int → Bool) (vs : List PV) : List (Nat × Nat × Int) := usF q (prsU 0 vs)
def UseT (q : Int → Bool) (vs : List PV) : Type := { u : Nat × Nat × Int // u ∈ usAll q vs }
def USt (n₀ B1 B2 : Nat) (A : Option Addr) (len cap : Nat) (vs : List PV) (fv : Value) (W : World) : Prop :=
  W.cell? ⟨B1, 5, none⟩ = some (.slice A len cap) ∧ W.cell? ⟨B2, 0, none⟩ = some fv ∧ RdV W n₀ A len vs ∧ (∀ x ∈ vs, PVok W n₀ x) ∧ n₀ ≤ W.heap.size
theorem USt.step {n₀ B1 B2 : Nat} {A : Option Addr} {len cap : Nat} {vs : List PV} {fv : Value} {W W' : World} (h : USt n₀ B1 B2 A len cap vs fv W) (hb : Below W.heap.size W W') : USt n₀ B1 B2 A len cap vs fv W' :=
  ⟨cell_later hb h.1, cell_later hb h.2.1, h.2.2.1.below (hb.mono h.2.2.2.2), fun x hx => (h.2.2.2.1 x hx).below (hb.mono h.2.2.2.2), Nat.le_trans h.2.2.2.2 hb.size⟩
end Go.Proofs.YtjnmkdahbcmfaaaGreat

/- follow.all: what stands in memory; the marks of the loops. -/
namespace Go.Proofs.YtjnmkdahbcmfaaaGreat
open Go.RowKit Go.Shelf
set_option linter.unusedVariables false
def MarksOk (W : World) (lo : Nat) (Ds : List Nat) : Prop := Ds.Nodup ∧ ∀ D ∈ Ds, lo ≤ D ∧ W.heap[D]? = some (.deferred (some []))
def SetsM (W : World) (bo n : Nat) (mbs : List Nat) (ss : List (List Lk)) : Prop :=
  ∃ cs : Array Value, Blk W bo 287 cs ∧ cs.size = n ∧ mbs.length = ss.length ∧ ∀ (i m : Nat) (s : List Lk), mbs[i]? = some m → ss[i]? = some s → cs[i]? = some (.map (some m)) ∧ MapK lookKey W m s
theorem SetsM.grown {W W' : World} {bo n : Nat} {mbs : List Nat} {ss : List (List Lk)} (h : SetsM W bo n mbs ss) {row : Option Nat} (hg : W.grownBy W' row) (h1 : row ≠ some bo) (h2 : ∀ m ∈ mbs, row ≠ some m) : SetsM W' bo n mbs ss := by
  obtain ⟨cs, a, b, c, d⟩ := h
  exact ⟨cs, a.grown hg (Ne.symm h1), b, c, fun i m s e f => ⟨(d i m s e f).1, (d i m s e f).2.grown hg (Ne.symm (h2 m (List.mem_of_getElem? e)))⟩⟩
theorem SetsM.step {W W' : World} {bo n : Nat} {mbs : List Nat} {ss : List (List Lk)} (h : SetsM W bo n mbs ss) (hb : Below W.heap.size W W') : SetsM W' bo n mbs ss := by
  obtain ⟨cs, a, b, c, d⟩ := h
  exact ⟨cs, a.step hb, b, c, fun i m s e f => ⟨(d i m s e f).1, (d i m s e f).2.step hb⟩⟩
theorem SetsM.get {W : World} {bo n : Nat} {mbs : List Nat} {ss : List (List Lk)} (h : SetsM W bo n mbs ss) {i : Nat} (hi : i < ss.length) : ∃ m, mbs[i]? = some m ∧ W.cell? ⟨bo, i, none⟩ = some (.map (some m)) ∧ MapK lookKey W m (ss.getD i []) ∧ m ≠ bo := by
  obtain ⟨cs, a, b, c, d⟩ := h
  have him : i < mbs.length := by omega
  obtain ⟨e, f⟩ := d i mbs[i] ss[i] (List.getElem?_eq_getElem him) (List.getElem?_eq_getElem hi)
  exact ⟨mbs[i], List.getElem?_eq_getElem him, by rw [a.cell]; exact e, by simpa [List.getD_eq_getElem?_getD, hi] using f, mapk_blk f a⟩
theorem SetsM.put {W W' : World} {bo n : Nat} {mbs : List Nat} {ss : List (List Lk)} (h : SetsM W bo n mbs ss) (hnd : mbs.Nodup) {i m : Nat} {c : List Lk} (hi : i < ss.length) (hm : mbs[i]? = some m)
    (hg : ∀ b, b < W.heap.size → b ≠ m → (b = bo ∨ b ∈ mbs) → W'.heap[b]? = W.heap[b]?) (hM : MapK lookKey W' m c) : SetsM W' bo n mbs (ss.set i c) := by
  obtain ⟨cs, a, b, e, d⟩ := h
  have him : i < mbs.length := by omega
  have hmv : mbs[i] = m := by rw [List.getElem?_eq_getElem him] at hm; injection hm
  have hmbo : m ≠ bo := by
    have := (d i mbs[i] ss[i] (List.getElem?_eq_getElem him) (List.getElem?_eq_getElem hi)).2
    rw [hmv] at this
    exact mapk_blk this a
  refine ⟨cs, (hg bo a.lt (Ne.symm hmbo) (.inl rfl)).trans a, b, by simpa using e, ?_⟩
  intro j m' s hmj hsj
  by_cases hij : i = j
  · subst hij
    rw [hm] at hmj
    injection hmj with hmj
    subst hmj
    rw [List.getElem?_set_self hi] at hsj
    injection hsj with hsj
    subst hsj
    exact ⟨(d i m ss[i] hm (List.getElem?_eq_getElem hi)).1, hM⟩
  · rw [List.getElem?_set_ne hij] at hsj
    obtain ⟨a2, es, clock, b2, b3⟩ := d j m' s hmj hsj
    refine ⟨a2, es, clock, (hg m' (Array.getElem?_eq_some_iff.1 b2).1 ?_ (.inr (List.mem_of_getElem? hmj))).trans b2, b3⟩
    rintro rfl
    have hjm := (List.getElem?_eq_some_iff.1 hmj).1
    have e2 : mbs[j] = m' := by rw [List.getElem?_eq_getElem hjm] at hmj; injection hmj
    exact hij ((List.getElem_inj hnd).1 (by rw [e2, hmv]))
theorem SetsM.reads {W : World} {bo n : Nat} {mbs : List Nat} {ss : List (List Lk)} (h : SetsM W bo n mbs ss) (hn : ss.length = n) : SetsR W W.heap.size (some ⟨bo, 0, none⟩) n ss := by
  obtain ⟨cs, a, b, c, d⟩ := h
  refine ⟨hn, .inr ⟨bo, 0, rfl, a.lt, fun i s hs => ?_⟩⟩
  have hi := (List.getElem?_eq_some_iff.1 hs).1
  have him : i < mbs.length := by omega
  obtain ⟨e, f⟩ := d i mbs[i] s (List.getElem?_eq_getElem him) hs
  exact ⟨mbs[i], f.lt, by rw [Nat.zero_add, a.cell]; exact e, f⟩
theorem SetsR.mono {W : World} {B B' : Nat} {A : Option Addr} {n : Nat} {ss : List (List Lk)} (h : SetsR W B A n ss) (hb : B ≤ B') : SetsR W B' A n ss := by
  refine ⟨h.1, ?_⟩
  rcases h.2 with h0 | ⟨b, off, rfl, hlt, hc⟩
  · exact .inl h0
  · refine .inr ⟨b, off, rfl, by omega, fun i s hs => ?_⟩
    obtain ⟨mb, h1, h2⟩ := hc i s hs
    exact ⟨mb, by omega, h2⟩
theorem GB.low {w : World} {g : Gr} {a : GA} {W W' : World} {lo : Nat} (h : GB w g a W) (hlo : w.heap.size < lo) (hb : Below lo W W') : GB w g a W' :=
  ⟨h.1.below hb hlo, h.2.1.below (hb.mono (by omega)), h.2.2.trans (hb.mono (by omega))⟩
def AF (w : World) (g : Gr) (a : GA) (n bo fo : Nat) (ss : List (List Lk)) (W : World) : Prop :=
  GB w g a W ∧ Blk W (w.heap.size + 1) 284 #[.slice (some ⟨fo, 0, none⟩) n n] ∧ Blk W (w.heap.size + 2) 284 #[.slice (some ⟨bo, 0, none⟩) n n] ∧ SetsR W fo (some ⟨bo, 0, none⟩) n ss ∧ w.heap.size + 2 < fo ∧ fo ≤ W.heap.size
theorem AF.low {w : World} {g : Gr} {a : GA} {n bo fo : Nat} {ss : List (List Lk)} {W W' : World} (h : AF w g a n bo fo ss W) (hb : Below fo W W') : AF w g a n bo fo ss W' := by
  obtain ⟨h1, h2, h3, h4, h5, h6⟩ := h
  exact ⟨h1.low (by omega) hb, h2.below hb (by omega), h3.below hb (by omega), h4.below hb, h5, Nat.le_trans h6 hb.size⟩
theorem AF.step {w : World} {g : Gr} {a : GA} {n bo fo : Nat} {ss : List (List Lk)} {W W' : World} (h : AF w g a n bo fo ss W) (hb : Below W.heap.size W W') : AF w g a n bo fo ss W' := h.low (hb.mono h.2.2.2.2.2)
theorem below_of_grown {X Y : World} {row : Option Nat} {lo : Nat} (hg : X.grownBy Y row) (hr : ∀ r, row = some r → lo ≤ r) (hlo : lo ≤ X.heap.size) : Below lo X Y :=
  ⟨hg.os, hg.tape, hg.output, hg.size, fun k hk => hg.block k (by omega) (fun e => by have := hr k e.symm; omega)⟩
structure KX (W : World) (mb b5 : Nat) (w' : World) : Prop where
  os : w'.os = W.os
  tape : w'.tape = W.tape
  output : w'.output = W.output
  size : W.heap.size ≤ w'.heap.size
  block : ∀ i, i < W.heap.size → i ≠ mb → i ≠ b5 → w'.heap[i]? = W.heap[i]?
theorem KX.refl (W : World) (mb b5 : Nat) : KX W mb b5 W := ⟨rfl, rfl, rfl, Nat.le_refl _, fun _ _ _ _ => rfl⟩
theorem KX.drew {W w1 : World} {mb b5 : Nat} (h : KX W mb b5 w1) : KX W mb b5 w1.drew := ⟨h.os, h.tape, h.output, h.size, h.block⟩
theorem KX.step {W w1 w2 : World} {mb b5 : Nat} (h : KX W mb b5 w1) (hb : Below w1.heap.size w1 w2) : KX W mb b5 w2 :=
  ⟨hb.os.trans h.os, hb.tape.trans h.tape, hb.output.trans h.output, Nat.le_trans h.size hb.size, fun i h1 h2 h3 => (hb.block i (Nat.lt_of_lt_of_le h1 h.size)).trans (h.block i h1 h2 h3)⟩
theorem KX.alloc {W w1 : World} {mb b5 : Nat} (h : KX W mb b5 w1) (o : Obj) : KX W mb b5 (w1.alloc o) := h.step (bAlc (Below.refl _ _) _)
theorem KX.grown {W w1 w2 : World} {mb b5 : Nat} (h : KX W mb b5 w1) (hg : w1.grownBy w2 (some mb)) : KX W mb b5 w2 :=
  ⟨hg.os.trans h.os, hg.tape.trans h.tape, hg.output.trans h.output, Nat.le_trans h.size hg.size, fun i h1 h2 h3 => (hg.block i (Nat.lt_of_lt_of_le h1 h.size) (fun e => h2 (by injection e))).trans (h.block i h1 h2 h3)⟩
theorem KX.put {W w1 : World} {mb b5 : Nat} (h : KX W mb b5 w1) (i : Nat) (v : Value) : KX W mb b5 (w1.setCell ⟨b5, i, none⟩ v) :=
  ⟨h.os, h.tape, h.output, Nat.le_trans h.size (by simp), fun j h1 h2 h3 => (Below.heap_setCell w1 ⟨b5, i, none⟩ v j h3).trans (h.block j h1 h2 h3)⟩
theorem KX.low {W w1 : World} {mb b5 lo : Nat} (h : KX W mb b5 w1) (h1 : lo ≤ mb) (h2 : lo ≤ b5) (h3 : lo ≤ W.heap.size) : Below lo W w1 := ⟨h.os, h.tape, h.output, h.size, fun k hk => h.block k (by omega) (by omega) (by omega)⟩
theorem KX.cell {W w1 : World} {mb b5 : Nat} (h : KX W mb b5 w1) {b o : Nat} {v : Value} (hc : W.cell? ⟨b, o, none⟩ = some v) (h1 : b ≠ mb) (h2 : b ≠ b5) : w1.cell? ⟨b, o, none⟩ = some v :=
  (World.cell?_of_block (a := ⟨b, o, none⟩) (h.block b (block_lt_of_cell hc) h1 h2)).trans hc
theorem KX.blk {W w1 : World} {mb b5 : Nat} (h : KX W mb b5 w1) {b : Nat} {t : TypeId} {cs : Array Value} (hc : Blk W b t cs) (h1 : b ≠ mb) (h2 : b ≠ b5) : Blk w1 b t cs := (h.block b hc.lt h1 h2).trans hc
def KpU (lo B1 B2 : Nat) (X Y : World) : Prop := Below lo X Y ∧ Y.heap[B1]? = X.heap[B1]? ∧ Y.heap[B2]? = X.heap[B2]?
theorem KpU.trans {lo B1 B2 : Nat} {X Y Z : World} (h : KpU lo B1 B2 X Y) (k : KpU lo B1 B2 Y Z) : KpU lo B1 B2 X Z := ⟨h.1.trans k.1, k.2.1.trans h.2.1, k.2.2.trans h.2.2⟩
theorem KpU.put {lo B1 B2 B : Nat} (W : World) (l : Nat) (o' : Obj) (hl : B ≤ l) (h0 : lo ≤ B) (h1 : B1 < B) (h2 : B2 < B) : KpU lo B1 B2 W (W.putObj l o') :=
  ⟨⟨rfl, rfl, rfl, by simp, fun k hk => World.putObj_heap_other (by omega)⟩, World.putObj_heap_other (by omega), World.putObj_heap_other (by omega)⟩
theorem USt.kept {n₀ B1 B2 : Nat} {A : Option Addr} {len cap : Nat} {vs : List PV} {fv : Value} {W W' : World} (h : USt n₀ B1 B2 A len cap vs fv W) (hb : KpU n₀ B1 B2 W W') : USt n₀ B1 B2 A len cap vs fv W' :=
  ⟨(World.cell?_of_block (a := ⟨B1, 5, none⟩) hb.2.1).trans h.1, (World.cell?_of_block (a := ⟨B2, 0, none⟩) hb.2.2).trans h.2.1, h.2.2.1.below hb.1, fun x hx => (h.2.2.2.1 x hx).below hb.1, Nat.le_trans h.2.2.2.2 hb.1.size⟩
end Go.Proofs.YtjnmkdahbcmfaaaGreat
