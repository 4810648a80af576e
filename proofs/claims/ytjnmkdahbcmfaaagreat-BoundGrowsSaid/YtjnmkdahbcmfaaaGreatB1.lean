/- Walks and plain laws, part 1 of 30: Plain functions of layer 3 (name) on byte strings: what is a word, a name, small, capital, and how two strings are ordered. No program in sight; Contracts of layer 3 (name): Make, Word, Language, Check, Small, Capital, Compare, of the program and of the reference; Contracts of slices.Index and slices.Contains at []string, and of layer 3's Language, Check, Small, Capital, Compare; Looks as values, their equality, and the law of the map keyed by them; A range over a map of looks; Equality of looks; Looks of the reference 13: what is a right look, and its contracts; Looks as lists of terminals: right looks, their order, their sum. Plain; What a call that makes memory keeps; what a slice reads; Contracts of the reference 13: both, Order, Plus, Join, Compare; of the reference 14: compare, join, range8, ranged; Contracts: the sum of two looks; Slices of looks: what reads as a list of looks, what is owned, how it is cut; The reference 14: merge; Ascending lists of looks. Plain; The reference 14: sorted, cut, Check, Cut; Grammars in memory; append, on slices of the call's own of one-cell values; The reference 09: prods, named; The reference 09: symbols, Check; Helpers that make walks short; The kit: Mod, At, OwnTexts, OwnInts; bound and its reference over a compiled grammar, at depths and bytes of whatever size: the walks; the reference of bound over a compiled grammar, at depths and bytes of whatever size: the walks; The kit's Grammar, over whatever the reader and the maker of grammars are known to give; BoundNumbers: the walk. (printed by tools/mkbn.py); slices.All over the productions of a grammar; grammar.prods; grammar.many; A map of keys to true, whatever the keys; grammar.named, grammar.different; grammar.different; grammar.symbols. Conditions: none beyond those that each theorem states. -/
import Derived.WalkKit
import Derived.ProofKit
import Derived.Lib.Hide
import Derived.Test.YtjnmkdahbcmfaaaGreatRows
import Derived.OpenShut
import Derived.ShutString
import Derived.WalkLawsBesides
import Derived.WalkSpells
import Derived.Below
import Derived.Outline
import Derived.Deep.QuietTactic
import Derived.BigQuiet
import Derived.IntWalk
import Derived.Deep.LoopGhost
import Derived.Lib.Strings
import Derived.DeepKeys5
import Derived.Maps.Keyed
import Derived.Maps.OwnSet
import Derived.Maps.Range
import Derived.LoopTactic
import Derived.RegionTactic
import Derived.ChangeAlike
import Derived.Laws.OwnMore
import Derived.Deep.Draws
import Derived.Laws.Rows
import Derived.OwnWalk
import Derived.Laws.NewBlocks
import Derived.Laws.AppendOwn
import Derived.Maps.AppendAt
import Derived.Deep.AppendLies
import Derived.Deep.RegionHeld3
import Derived.Deep.DeepCutAuto
import Derived.Deep.CutBlock
import Derived.RangeFuncNested
import Derived.RangeFuncBound
import Derived.RangeFuncCalls
import Derived.RangeFuncLeaves
import Derived.RangeFuncBox
import Derived.Shelf.Abstract
import Derived.Shelf.RegionOpen
import Derived.OwnWalkIn
import Derived.TacticsInMore
import Derived.LoopNIn
import Derived.LoopIn
import Derived.StringKeys
import Derived.Deep.RegionLawGrows
import Derived.Sort.QuietIn
/- Plain functions of layer 3 (name) on byte strings: what is a word, a name, small, capital, and how two strings are ordered. No program in sight. -/
namespace Go.Proofs.YtjnmkdahbcmfaaaGreat
set_option linter.unusedVariables false
def byteAt (s : ByteArray) (i : Nat) : Int := ((s.data.toList.getD i 0).toNat : Int)
theorem byteAt_get (s : ByteArray) (i : Nat) (h : i < s.size) : byteAt s i = ((s[i]'h).toNat : Int) := by
  have h' : i < s.data.toList.length := by simpa using h
  unfold byteAt
  rw [List.getD_eq_getElem?_getD, List.getElem?_eq_getElem h']
  rfl
end Go.Proofs.YtjnmkdahbcmfaaaGreat

/- Contracts of layer 3 (name): Make, Word, Language, Check, Small, Capital, Compare, of the program and of the reference. -/
namespace Go.Proofs.YtjnmkdahbcmfaaaGreat
open Go.ChangeShapes Go.WideShapes Go.ChangeAt Go.RowKit
set_option linter.unusedVariables false
theorem ret_int {k : IntKind} {a b : Int} (h : a = b) : Ending.returned (.int k a) = .returned (.int k b) := by rw [h]
end Go.Proofs.YtjnmkdahbcmfaaaGreat

/- Contracts of slices.Index and slices.Contains at []string, and of layer 3's Language, Check, Small, Capital, Compare. -/
namespace Go.Proofs.YtjnmkdahbcmfaaaGreat
open Go.ChangeShapes Go.WideShapes Go.ChangeAt Go.RowKit
set_option linter.unusedVariables false
def Strs (w : World) (b off : Nat) (l : List ByteArray) : Prop := ∀ i, i < l.length → w.cell? ⟨b, off + i, none⟩ = some (.string (l.getD i ByteArray.empty))
theorem eqF (a b : ByteArray) (h : ¬ a = b) : (a.toList == b.toList) = false := by
  rw [beq_eq_false_iff_ne]
  intro h2
  apply h
  rw [ByteArray.toList_eq, ByteArray.toList_eq] at h2
  exact ByteArray.ext (Array.toList_inj.1 h2)
end Go.Proofs.YtjnmkdahbcmfaaaGreat

/- Looks as values, their equality, and the law of the map keyed by them. -/
namespace Go.Proofs.YtjnmkdahbcmfaaaGreat
open Go.ChangeShapes Go.WideShapes Go.ChangeAt Go.RowKit
open Go.ChangeMaps (heap_setBlock_same setBlock)
open Go.MapKept (Stamped stamped_push)
set_option linter.unusedVariables false
structure Lk where
  n : Int
  a : Int
  b : Int
  c : Int
  d : Int
  deriving DecidableEq, Inhabited
def Lk.v (x : Lk) : Value := .agg #[.int .i64 x.n, .int .i64 x.a, .int .i64 x.b, .int .i64 x.c, .int .i64 x.d]
def Lk.wf (x : Lk) : Prop := (Lit.int .i64 x.n).wf = true ∧ (Lit.int .i64 x.a).wf = true ∧ (Lit.int .i64 x.b).wf = true ∧ (Lit.int .i64 x.c).wf = true ∧ (Lit.int .i64 x.d).wf = true
theorem Lk.v_inj {x y : Lk} (h : x.v = y.v) : x = y := by
  cases x; cases y; simp [Lk.v] at h; simp [h]
theorem under42 : Tryz.prog.underlying 45 = some (.struct (Tryz.prog.fieldsOf 45)) := by kernel_rfl
theorem under40 : Tryz.prog.underlying 43 = some (.array 4 3) := by kernel_rfl
theorem lookKeyed : Maps.Keyed Tryz.prog 45 := Maps.Keyed.of_law (deep_law_gate (P := Tryz.prog) (k := 45) (by kernel_rfl) (of_decide_eq_true (by kernel_rfl)) (of_decide_eq_true (by kernel_rfl)) (by kernel_rfl) (by kernel_rfl))
theorem under3 : Tryz.prog.underlying 3 = some (.int .i64) := by kernel_rfl
theorem fields42 : ∃ f0 f1 : Field, Tryz.prog.fieldsOf 45 = #[f0, f1] ∧ f0.name = "N" ∧ f0.type = 3 ∧ f0.offset = 0 ∧ f1.name = "S" ∧ f1.type = 43 ∧ f1.offset = 1 := by
  refine ⟨(Tryz.prog.fieldsOf 45)[0]!, (Tryz.prog.fieldsOf 45)[1]!, by kernel_rfl, by kernel_rfl, by kernel_rfl, by kernel_rfl, by kernel_rfl, by kernel_rfl, by kernel_rfl⟩
theorem cells42 : Tryz.prog.cellsOf 45 = 5 := by kernel_rfl
theorem cells40 : Tryz.prog.cellsOf 43 = 4 := by kernel_rfl
theorem cells3 : Tryz.prog.cellsOf 3 = 1 := by kernel_rfl
theorem size_types : ∃ d, Tryz.prog.types.size + 1 = d + 3 := ⟨Tryz.prog.types.size - 2, by have : 2 ≤ Tryz.prog.types.size := of_decide_eq_true (by kernel_rfl); omega⟩
theorem keyT42 : Tryz.prog.keyType 45 = true := by kernel_rfl
theorem lits_int (d : Nat) (n : Int) (h : (Lit.int .i64 n).wf = true) : Tryz.prog.keyLits (d + 1) 3 [.int .i64 n] = some [.int .i64 n] := by
  unfold Program.keyLits; rw [under3]; simp [h]
theorem lits_arr (d : Nat) (a b c e : Int) (ha : (Lit.int .i64 a).wf = true) (hb : (Lit.int .i64 b).wf = true) (hc : (Lit.int .i64 c).wf = true) (he : (Lit.int .i64 e).wf = true) :
    Tryz.prog.keyLits (d + 2) 43 [.int .i64 a, .int .i64 b, .int .i64 c, .int .i64 e] = some [.int .i64 a, .int .i64 b, .int .i64 c, .int .i64 e] := by
  unfold Program.keyLits; rw [under40]
  simp [cells40, cells3, List.range_succ, lits_int, ha, hb, hc, he]
theorem look_key (x : Lk) (h : x.wf) : ∃ l, keyOf Tryz.prog 45 x.v = some l := by
  obtain ⟨h0, h1, h2, h3, h4⟩ := h
  obtain ⟨d, hd⟩ := size_types
  obtain ⟨f0, f1, hf, n0, t0, o0, n1, t1, o1⟩ := fields42
  have hk : Tryz.prog.keyLits (Tryz.prog.types.size + 1) 45 x.v.cells.toList = some [.int .i64 x.n, .int .i64 x.a, .int .i64 x.b, .int .i64 x.c, .int .i64 x.d] := by
    rw [hd]; unfold Program.keyLits; rw [under42, hf]
    simp [Lk.v, Value.cells, cells42, cells40, cells3, n0, t0, o0, n1, t1, o1, lits_int, lits_arr, h0, h1, h2, h3, h4]
  have hfo : Value.formed Tryz.prog 45 x.v = true := by
    simp [Value.formed, Lk.v, cells42]
  unfold keyOf
  rw [under42]
  show ∃ l, (if (Tryz.prog.keyType 45 && Value.formed Tryz.prog 45 x.v) = true then (Tryz.prog.keyLits (Tryz.prog.types.size + 1) 45 x.v.cells.toList).map (fun ls => Lit.string (keyBytes ls)) else none) = some l
  rw [if_pos (by rw [keyT42, hfo]; rfl), hk]
  exact ⟨_, rfl⟩
theorem under67 : Tryz.prog.underlying 287 = some (.map 45 4) := by kernel_rfl
def MapL (w : World) (b : Nat) (s : List Lk) : Prop :=
  ∃ (es : Array MapEntry) (clock : Nat), w.heap[b]? = some (.map es clock) ∧ es.toList.map (·.key) = s.map Lk.v ∧ (∀ e ∈ es.toList, e.val = .bool true) ∧ (∀ x ∈ s, x.wf) ∧ s.Nodup ∧ Stamped es clock
theorem mapl_keys {es : Array MapEntry} {s : List Lk} (hk : es.toList.map (·.key) = s.map Lk.v) (hw : ∀ x ∈ s, x.wf) : ∀ e ∈ es.toList, ∃ l, keyOf Tryz.prog 45 e.key = some l := by
  intro e he
  have h1 : e.key ∈ es.toList.map (·.key) := List.mem_map_of_mem he
  rw [hk] at h1
  obtain ⟨x, hx, hxe⟩ := List.mem_map.mp h1
  rw [← hxe]
  exact look_key x (hw x hx)
theorem info4 : (Tryz.prog.info? 4).map (·.zero) = some (some (.bool false)) := by kernel_rfl
theorem zero_bool (w : World) : (zeroValue 4).run Tryz.prog w = .ok (.bool false) w := by
  have h := info4
  cases hi : Tryz.prog.info? 4 with
  | none => rw [hi] at h; cases h
  | some i =>
    rw [hi] at h
    simp at h
    simp [zeroValue, typeInfo, hi, h]
theorem mapl_look {t : TypeId} (ht : Tryz.prog.underlying t = some (.map 45 4)) {w : World} {b : Nat} {s : List Lk} (h : MapL w b s) (x : Lk) (hx : x.wf) :
    (Instr.lookup t (.map (some b)) x.v false).run Tryz.prog w = .ok (.bool (decide (x ∈ s))) w := by
  obtain ⟨es, clock, hb, hk, hv, hw, hn, hst⟩ := h
  obtain ⟨l, hl⟩ := look_key x hx
  have hz := zero_bool w
  rcases lookKeyed.find w hl es.toList (mapl_keys hk hw) with ⟨h1, h2⟩ | ⟨j, e, h1, h2, h3⟩
  · have hns : x ∉ s := by
      intro hm
      have : x.v ∈ es.toList.map (·.key) := by rw [hk]; exact List.mem_map_of_mem hm
      obtain ⟨e, he, hee⟩ := List.mem_map.mp this
      exact h2 e he hee
    simp [Instr.lookup, run_underlying ht, MapKept.run_getObj_map hb, lookKeyed.check w _ hl, h1, hz, Result.andThen, hns]
  · have he := List.mem_of_getElem? h2
    have hs : x ∈ s := by
      have : e.key ∈ es.toList.map (·.key) := List.mem_map_of_mem he
      rw [hk, h3] at this
      obtain ⟨y, hy, hyy⟩ := List.mem_map.mp this
      rw [← Lk.v_inj hyy]; exact hy
    simp [Instr.lookup, run_underlying ht, MapKept.run_getObj_map hb, lookKeyed.check w _ hl, h1, Result.andThen, hs, hv e he]
theorem mapl_put {t : TypeId} (ht : Tryz.prog.underlying t = some (.map 45 4)) {w : World} {b : Nat} {s : List Lk} (h : MapL w b s) (x : Lk) (hx : x.wf) :
    ∃ w', (Instr.mapUpdate t (.map (some b)) x.v (.bool true)).run Tryz.prog w = .ok () w' ∧ MapL w' b (if x ∈ s then s else s ++ [x]) ∧ w.mapTurned w' b := by
  obtain ⟨es, clock, hb, hk, hv, hw, hn, hst⟩ := h
  obtain ⟨l, hl⟩ := look_key x hx
  rcases lookKeyed.find w hl es.toList (mapl_keys hk hw) with ⟨h1, h2⟩ | ⟨j, e, h1, h2, h3⟩
  · have hns : x ∉ s := by
      intro hm
      have : x.v ∈ es.toList.map (·.key) := by rw [hk]; exact List.mem_map_of_mem hm
      obtain ⟨e, he, hee⟩ := List.mem_map.mp this
      exact h2 e he hee
    rw [if_neg hns]
    refine ⟨setBlock w b (.map (es.push { key := x.v, val := .bool true, born := clock }) (clock + 1)), ?_, ⟨_, _, heap_setBlock_same hb _, by simp [hk], ?_, ?_, ?_, stamped_push hst h2⟩, ⟨es, clock, _, _, hb, rfl⟩⟩
    · simp [Instr.mapUpdate, run_underlying ht, MapKept.run_getObj_map hb, lookKeyed.check w _ hl, h1, MapKept.run_setObj_map _ hb, Result.andThen, setBlock]
    · intro e he
      simp at he
      rcases he with he | rfl
      · exact hv e (by simpa using he)
      · rfl
    · intro y hy
      rcases List.mem_append.mp hy with hy | hy
      · exact hw y hy
      · have : y = x := by simpa using hy
        rw [this]; exact hx
    · rw [List.nodup_append]
      refine ⟨hn, by simp, ?_⟩
      intro a ha c hc
      have : c = x := by simpa using hc
      rw [this]; intro e; exact hns (e ▸ ha)
  · have he := List.mem_of_getElem? h2
    have hs : x ∈ s := by
      have : e.key ∈ es.toList.map (·.key) := List.mem_map_of_mem he
      rw [hk, h3] at this
      obtain ⟨y, hy, hyy⟩ := List.mem_map.mp this
      rw [← Lk.v_inj hyy]; exact hy
    rw [if_pos hs]
    have hj : es[j]? = some e := by simpa using h2
    have hee : ({ e with key := x.v, val := .bool true } : MapEntry) = e := by
      cases e; simp at h3; have := hv _ he; simp at this; simp [h3, this]
    have hmod : es.modify j (fun e => { e with key := x.v, val := .bool true }) = es := by
      apply Array.ext_getElem?
      intro i
      rw [Array.getElem?_modify]
      split
      · rename_i h; subst h; rw [hj]; simp [hee]
      · rfl
    refine ⟨setBlock w b (.map es clock), ?_, ⟨es, clock, heap_setBlock_same hb _, hk, hv, hw, hn, hst⟩, ⟨es, clock, _, _, hb, rfl⟩⟩
    have hst2 := lookKeyed.stays w hl
    have hkey : (((es[j]?).map (·.key)).getD x.v) = x.v := by rw [hj]; simp [h3]
    simp [Instr.mapUpdate, run_underlying ht, MapKept.run_getObj_map hb, lookKeyed.check w _ hl, h1, hj, h3, hst2, hmod, MapKept.run_setObj_map _ hb, Result.andThen, setBlock]
theorem mapl_len {t : TypeId} (ht : Tryz.prog.underlying t = some (.map 45 4)) {w : World} {b : Nat} {s : List Lk} (h : MapL w b s) (ty : TypeId) : (Builtin.len_ #[t] ty #[.map (some b)]).run Tryz.prog w = .ok (.int .i64 s.length) w := by
  obtain ⟨es, clock, hb, hk, hv, hw, hn, hst⟩ := h
  have e : es.size = s.length := by
    have := congrArg List.length hk
    simpa using this
  simp [Builtin.len_, run_underlying ht, MapKept.run_getObj_map hb, goInt, Result.andThen, e]
section
variable (w : World) {ops : Array Oper} {rest : List Oper} {o : Oper} {a : Act} {Q : Exit → Act → World → Prop}
theorem wpList_look {t : TypeId} (ht : Tryz.prog.underlying t = some (.map 45 4)) (hg : o.guard = none) (m x : Operand) (hop : o.op = Op.lookup t m x false) (b : Nat) (s : List Lk) (k : Lk) (hm : a.eval m = .map (some b)) (hx : a.eval x = k.v) (h : MapL w b s) (hk : k.wf)
    (hK : wpList Tryz.prog ops Q rest (a.put o.dst (.bool (decide (k ∈ s)))) w) : wpList Tryz.prog ops Q (o :: rest) a w := by
  refine wpList_plain hg fun K' hK' => ?_
  have hrun := mapl_look ht h k hk
  unfold Oper.wp
  simp [execOp, hop, hm, hx, hrun, Result.andThen]
  exact hK' _ _ hK
theorem wpList_lay {t : TypeId} (ht : Tryz.prog.underlying t = some (.map 45 4)) (hg : o.guard = none) (m x v : Operand) (hop : o.op = Op.mapUpdate t m x v) (b : Nat) (s : List Lk) (k : Lk) (hm : a.eval m = .map (some b)) (hx : a.eval x = k.v) (hv : a.eval v = .bool true) (h : MapL w b s) (hk : k.wf)
    (hK : ∀ w', MapL w' b (if k ∈ s then s else s ++ [k]) → w.mapTurned w' b → wpList Tryz.prog ops Q rest (a.put o.dst undef) w') : wpList Tryz.prog ops Q (o :: rest) a w := by
  refine wpList_plain hg fun K' hK' => ?_
  obtain ⟨w', hrun, h1, h2⟩ := mapl_put ht h k hk
  unfold Oper.wp
  simp [execOp, hop, hm, hx, hv, hrun, Result.andThen]
  exact hK' _ _ (hK w' h1 h2)
end
end Go.Proofs.YtjnmkdahbcmfaaaGreat

/- A range over a map of looks. -/
namespace Go.Proofs.YtjnmkdahbcmfaaaGreat
open Go.ChangeShapes Go.WideShapes Go.ChangeAt Go.RowKit
open Go.ChangeMaps (heap_setBlock_same setBlock)
open Go.MapKept
set_option linter.unusedVariables false
def IterL (w : World) (b r : Nat) (s out : List Lk) : Prop :=
  ∃ (es : Array MapEntry) (clock since : Nat) (seen : Array Nat) (c0 : Nat), w.heap[b]? = some (.map es clock) ∧ (es.toList.map (·.key) = s.map Lk.v ∧ (∀ e ∈ es.toList, e.val = .bool true) ∧ (∀ x ∈ s, x.wf) ∧ s.Nodup ∧ Stamped es clock) ∧
    w.heap[r]? = some (.mapIter (some b) since seen c0) ∧ (∀ x ∈ es.toList, x.born < since) ∧ since ≤ c0 ∧ since ≤ clock ∧ (∀ e ∈ es.toList, ∀ x : Lk, e.key = x.v → (seen.contains e.born = true ↔ x ∈ out)) ∧ out.Nodup ∧ (∀ x ∈ out, x ∈ s)
theorem IterL.map {w : World} {b r : Nat} {s out : List Lk} (h : IterL w b r s out) : MapL w b s := by
  obtain ⟨es, clock, since, seen, c0, hb, h1, _⟩ := h
  exact ⟨es, clock, hb, h1⟩
theorem mapl_range {t : TypeId} (ht : Tryz.prog.underlying t = some (.map 45 4)) {w : World} {b : Nat} {s : List Lk} (h : MapL w b s) :
    ∃ w', (Instr.range t (.map (some b))).run Tryz.prog w = .ok (.pointer (some ⟨w.heap.size, 0, none⟩)) w' ∧ IterL w' b w.heap.size s [] ∧ Below w.heap.size w w' := by
  obtain ⟨es, clock, hb, h1⟩ := h
  have hlt : b < w.heap.size := (Array.getElem?_eq_some_iff.1 hb).1
  refine ⟨_, run_range_map w t 45 4 b es clock ht hb, ⟨es, clock, clock, #[], clock, ((MapKept.heap_alloc w _).2 b hlt).trans hb, h1, (MapKept.heap_alloc w _).1, h1.2.2.2.2.1, Nat.le_refl _, Nat.le_refl _, ?_, by simp, by simp⟩, (Below.refl _ _).alloc (Nat.le_refl _) _⟩
  intro e he x hx
  simp
theorem iterl_next {w : World} {b r : Nat} {s out : List Lk} (h : IterL w b r s out) (ty : TypeId) :
    ((∀ x ∈ s, x ∈ out) ∧ (Instr.next (.pointer (some ⟨r, 0, none⟩)) false ty).run Tryz.prog w = .ok (.tuple #[.bool false]) w) ∨
    ∃ x ∈ s, x ∉ out ∧ ∃ w' : World, (Instr.next (.pointer (some ⟨r, 0, none⟩)) false ty).run Tryz.prog w = .ok (.tuple #[.bool true, x.v, .bool true]) w' ∧ IterL w' b r s (out ++ [x]) ∧
      (Instr.entry (.pointer (some ⟨r, 0, none⟩))).run Tryz.prog w' = .ok (.tuple #[x.v, .bool true]) w' ∧ w.grownBy w' (some r) ∧ w'.heap.size = w.heap.size := by
  obtain ⟨es, clock, since, seen, c0, hb, ⟨hk, hv, hw, hn, hst⟩, hr, hold, hsc, hsk, hin, hno, hsub⟩ := h
  rcases run_next_at (P := Tryz.prog) w ty r b since c0 seen es clock hr hb hold hsc with ⟨h0, hrun⟩ | ⟨e, he, w1, hal, hrun⟩
  · left
    refine ⟨fun x hx => ?_, hrun⟩
    have : x.v ∈ es.toList.map (·.key) := by rw [hk]; exact List.mem_map_of_mem hx
    obtain ⟨e, he, hee⟩ := List.mem_map.mp this
    exact (hin e he x hee).mp (all_seen es seen h0 e he)
  · right
    obtain ⟨hem, hes⟩ := mem_left he
    have : e.key ∈ s.map Lk.v := by rw [← hk]; exact List.mem_map_of_mem hem
    obtain ⟨x, hx, hxe⟩ := List.mem_map.mp this
    have hxo : x ∉ out := fun hm => by
      have := (hin e hem x hxe.symm).mpr hm
      rw [hes] at this; cases this
    have hr1 : w1.heap[r]? = some (.mapIter (some b) since seen c0) := by rcases hal with rfl | rfl <;> exact hr
    have hb1 : w1.heap[b]? = some (.map es clock) := by rcases hal with rfl | rfl <;> exact hb
    have hset := heap_set (o' := .mapIter (some b) since (seen.push e.born) clock) hr1
    have hne : b ≠ r := fun h => by rw [h, hr] at hb; cases hb
    have hb' := (hset.2 b hne).trans hb1
    have hS := (stamped_iff es clock).1 hst
    refine ⟨x, hx, hxo, _, by rw [hrun, ← hxe, hv e hem], ⟨es, clock, since, seen.push e.born, clock, hb', ⟨hk, hv, hw, hn, hst⟩, hset.1, hold, hsk, hsk, ?_, ?_, ?_⟩, ?_, ?_, ?_⟩
    · intro e' he' y hy
      rw [contains_push, Bool.or_eq_true, hin e' he' y hy, List.mem_append]
      constructor
      · rintro (h | h)
        · exact .inl h
        · right
          have hbe : e'.born = e.born := by simpa using h
          have := born_inj hS.2.1 he' hem hbe
          rw [this] at hy
          rw [hy] at hxe
          simp [Lk.v_inj hxe]
      · rintro (h | h)
        · exact .inl h
        · right
          have hyx : y = x := by simpa using h
          subst hyx
          have := entry_eq_of_key hS.2.2 he' hem (hy.trans hxe)
          simp [this]
    · rw [List.nodup_append]
      refine ⟨hno, by simp, ?_⟩
      intro a ha c hc
      have : c = x := by simpa using hc
      rw [this]; intro e; exact hxo (e ▸ ha)
    · intro y hy
      rcases List.mem_append.mp hy with hy | hy
      · exact hsub y hy
      · have : y = x := by simpa using hy
        rw [this]; exact hx
    · rw [run_entry_at _ r b since seen es clock e hset.1 hb' hem hS.2.1, ← hxe, hv e hem]
    · rcases hal with rfl | rfl <;> exact ⟨rfl, rfl, rfl, by simp [setBlock], fun i _ hi => hset.2 i (fun e1 => hi (by rw [e1]))⟩
    · rcases hal with rfl | rfl <;> simp [setBlock]
theorem MapL.grown {w w' : World} {b : Nat} {s : List Lk} {row : Option Nat} (h : MapL w b s) (hg : w.grownBy w' row) (hb : some b ≠ row) : MapL w' b s := by
  obtain ⟨es, clock, h1, h2⟩ := h
  exact ⟨es, clock, (hg.block b (Array.getElem?_eq_some_iff.1 h1).1 hb).trans h1, h2⟩
theorem IterL.grown {w w' : World} {b r : Nat} {s out : List Lk} {row : Option Nat} (h : IterL w b r s out) (hg : w.grownBy w' row) (hb : some b ≠ row) (hr : some r ≠ row) : IterL w' b r s out := by
  obtain ⟨es, clock, since, seen, c0, h1, h2, h3, h4⟩ := h
  exact ⟨es, clock, since, seen, c0, (hg.block b (Array.getElem?_eq_some_iff.1 h1).1 hb).trans h1, h2, (hg.block r (Array.getElem?_eq_some_iff.1 h3).1 hr).trans h3, h4⟩
section
variable (w : World) {ops : Array Oper} {rest : List Oper} {o : Oper} {a : Act} {Q : Exit → Act → World → Prop}
theorem wpList_range_look {t : TypeId} (ht : Tryz.prog.underlying t = some (.map 45 4)) (hg : o.guard = none) (m : Operand) (hop : o.op = Op.range t m) (b : Nat) (s : List Lk) (hm : a.eval m = .map (some b)) (h : MapL w b s)
    (hK : ∀ w', IterL w' b w.heap.size s [] → Below w.heap.size w w' → wpList Tryz.prog ops Q rest (a.put o.dst (.pointer (some ⟨w.heap.size, 0, none⟩))) w') : wpList Tryz.prog ops Q (o :: rest) a w := by
  refine wpList_plain hg fun K' hK' => ?_
  obtain ⟨w', hrun, r1, r2⟩ := mapl_range ht h
  unfold Oper.wp
  simp [execOp, hop, hm, hrun, Result.andThen]
  exact hK' _ _ (hK w' r1 r2)
theorem wpList_next_look (hg : o.guard = none) (it : Operand) (hop : o.op = Op.next it false) (b r : Nat) (s out : List Lk) (hit : a.eval it = .pointer (some ⟨r, 0, none⟩)) (h : IterL w b r s out)
    (hDone : (∀ x ∈ s, x ∈ out) → wpList Tryz.prog ops Q rest (a.put o.dst (.tuple #[.bool false])) w)
    (hMore : ∀ (x : Lk) (w' : World), x ∈ s → x ∉ out → IterL w' b r s (out ++ [x]) → (Instr.entry (.pointer (some ⟨r, 0, none⟩))).run Tryz.prog w' = .ok (.tuple #[x.v, .bool true]) w' → w.grownBy w' (some r) → w'.heap.size = w.heap.size →
      wpList Tryz.prog ops Q rest (a.put o.dst (.tuple #[.bool true, x.v, .bool true])) w') : wpList Tryz.prog ops Q (o :: rest) a w := by
  refine wpList_plain hg fun K' hK' => ?_
  unfold Oper.wp
  rcases iterl_next h o.type with ⟨h0, hrun⟩ | ⟨x, hx, hxo, w', hrun, r1, r2, r3, r4⟩
  · simp [execOp, hop, hit, hrun, Result.andThen]
    exact hK' _ _ (hDone h0)
  · simp [execOp, hop, hit, hrun, Result.andThen]
    exact hK' _ _ (hMore x w' hx hxo r1 r2 r3 r4)
end
end Go.Proofs.YtjnmkdahbcmfaaaGreat

/- Equality of looks. -/
namespace Go.Proofs.YtjnmkdahbcmfaaaGreat
open Go.ChangeShapes Go.WideShapes Go.ChangeAt Go.RowKit
set_option linter.unusedVariables false
theorem look_same (x y : Lk) (hx : x.wf) (hy : y.wf) (w : World) : (Op.equal 45 x.v y.v).run Tryz.prog w = .ok (decide (x = y)) w := by
  obtain ⟨lx, h1⟩ := look_key x hx
  obtain ⟨ly, h2⟩ := look_key y hy
  have hm : ∃ m, m ≤ 10000 ∧ Tryz.prog.keyTypeAt m 45 = true := ⟨3, by omega, by kernel_rfl⟩
  obtain ⟨m, hm1, hm2⟩ := hm
  obtain ⟨r, hr, hiff⟩ := run_equal_deep (P := Tryz.prog) w hm1 hm2 (by kernel_rfl) h1 h2
  rw [hr]
  have : r = decide (x = y) := by
    by_cases e : x = y
    · subst e
      rw [h1] at h2
      cases h2
      simp [hiff]
    · have : r ≠ true := fun h => e (by
        have hl := hiff.mp h
        rw [← hl] at h2
        exact Lk.v_inj (lookKeyed.inj h1 h2))
      cases r
      · simp [e]
      · exact absurd rfl this
  rw [this]
theorem look_eql (x y : Lk) (hx : x.wf) (hy : y.wf) (w : World) : (binOp .eql 45 x.v y.v).run Tryz.prog w = .ok (.bool (decide (x = y))) w := by
  have h := look_same x y hx hy w
  simp only [Lk.v] at h ⊢
  simp only [binOp]
  simp [h, Result.andThen]
theorem look_neq (x y : Lk) (hx : x.wf) (hy : y.wf) (w : World) : (binOp .neq 45 x.v y.v).run Tryz.prog w = .ok (.bool (!decide (x = y))) w := by
  have h := look_same x y hx hy w
  simp only [Lk.v] at h ⊢
  simp only [binOp]
  simp [h, Result.andThen]
end Go.Proofs.YtjnmkdahbcmfaaaGreat

/- Looks of the reference 13: what is a right look, and its contracts. -/
namespace Go.Proofs.YtjnmkdahbcmfaaaGreat
open Go.ChangeShapes Go.WideShapes Go.ChangeAt Go.RowKit
set_option linter.unusedVariables false
def Lk.s (x : Lk) (i : Nat) : Int := match i with | 0 => x.a | 1 => x.b | 2 => x.c | 3 => x.d | _ => 0
theorem Lk.cellAt (x : Lk) (i : Nat) (h : i < 4) : (#[Value.int .i64 x.n, Value.int .i64 x.a, Value.int .i64 x.b, Value.int .i64 x.c, Value.int .i64 x.d] : Array Value)[1 + i]? = some (.int .i64 (x.s i)) := by
  rcases i with _ | _ | _ | _ | i <;> first | rfl | omega
def padB (x : Lk) : Bool := (List.range 4).all fun i => decide ((i : Int) < x.n) || decide (x.s i = 0)
def inB (x : Lk) (m : Int) : Bool := (List.range 4).all fun i => decide (x.n ≤ i) || (decide (0 ≤ x.s i) && decide (x.s i < m))
def lchk (x : Lk) (m : Int) : Int := if m < 1 ∨ 8 < m then 2 else if x.n < 0 ∨ 4 < x.n then 3 else if padB x = false then 3 else if inB x m = false then 14 else 0
theorem padB_iff (x : Lk) : padB x = true ↔ ∀ i : Nat, i < 4 → x.n ≤ i → x.s i = 0 := by
  simp [padB, List.all_eq_true]
  constructor
  · intro h i h4 hn; rcases h i h4 with h | h
    · omega
    · exact h
  · intro h i h4
    by_cases hn : (i : Int) < x.n
    · exact .inl hn
    · exact .inr (h i h4 (by omega))
theorem inB_iff (x : Lk) (m : Int) : inB x m = true ↔ ∀ i : Nat, i < 4 → (i : Int) < x.n → 0 ≤ x.s i ∧ x.s i < m := by
  simp [inB, List.all_eq_true]
  constructor
  · intro h i h4 hn; rcases h i h4 with h | h
    · omega
    · exact h
  · intro h i h4
    by_cases hn : x.n ≤ (i : Int)
    · exact .inl hn
    · exact .inr (h i h4 (by omega))
end Go.Proofs.YtjnmkdahbcmfaaaGreat

/- Looks as lists of terminals: right looks, their order, their sum. Plain. -/
namespace Go.Proofs.YtjnmkdahbcmfaaaGreat
set_option linter.unusedVariables false
def Lk.l (x : Lk) : List Int := [x.a, x.b, x.c, x.d].take x.n.toNat
def Lk.of (t : List Int) : Lk := ⟨t.length, t.getD 0 0, t.getD 1 0, t.getD 2 0, t.getD 3 0⟩
def Lk.right (x : Lk) (m : Int) : Prop := lchk x m = 0
theorem of_s (t : List Int) (i : Nat) (h : t.length ≤ 4) : (Lk.of t).s i = t.getD i 0 := by
  rcases i with _ | _ | _ | _ | i <;> first | rfl | (simp [Lk.of, Lk.s]; rw [List.getElem?_eq_none (by omega)]; rfl)
theorem of_n (t : List Int) : (Lk.of t).n = t.length := rfl
theorem right_iff (x : Lk) (m : Int) : x.right m ↔ (1 ≤ m ∧ m ≤ 8) ∧ (0 ≤ x.n ∧ x.n ≤ 4) ∧ (∀ i : Nat, i < 4 → x.n ≤ i → x.s i = 0) ∧ (∀ i : Nat, i < 4 → (i : Int) < x.n → 0 ≤ x.s i ∧ x.s i < m) := by
  rw [← padB_iff, ← inB_iff]
  unfold Lk.right lchk
  constructor
  · intro h
    split at h
    · cases h
    · split at h
      · cases h
      · split at h
        · cases h
        · split at h
          · cases h
          · rename_i h1 h2 h3 h4
            exact ⟨by omega, by omega, by simpa using h3, by simpa using h4⟩
  · rintro ⟨h1, h2, h3, h4⟩
    rw [if_neg (by omega), if_neg (by omega), if_neg (by simp [h3]), if_neg (by simp [h4])]
theorem right_l {x : Lk} {m : Int} (h : x.right m) : (x.l.length : Int) = x.n ∧ x.l.length ≤ 4 ∧ Lk.of x.l = x ∧ (∀ v ∈ x.l, 0 ≤ v ∧ v < m) := by
  obtain ⟨hm, hn, hp, hi⟩ := (right_iff x m).1 h
  obtain ⟨n, a, b, c, d⟩ := x
  have hp0 := hp 0 (by omega)
  have hp1 := hp 1 (by omega)
  have hp2 := hp 2 (by omega)
  have hp3 := hp 3 (by omega)
  have hi0 := hi 0 (by omega)
  have hi1 := hi 1 (by omega)
  have hi2 := hi 2 (by omega)
  have hi3 := hi 3 (by omega)
  simp only [Lk.s] at *
  obtain ⟨k, rfl⟩ := Int.eq_ofNat_of_zero_le hn.1
  have : k = 0 ∨ k = 1 ∨ k = 2 ∨ k = 3 ∨ k = 4 := by omega
  rcases this with rfl | rfl | rfl | rfl | rfl
  · have h0 := hp0 (by omega); have h1 := hp1 (by omega); have h2 := hp2 (by omega); have h3 := hp3 (by omega)
    subst h0 h1 h2 h3; refine ⟨rfl, ?_, rfl, ?_⟩ <;> simp [Lk.l]
  · have h1 := hp1 (by omega); have h2 := hp2 (by omega); have h3 := hp3 (by omega)
    subst h1 h2 h3; simp [Lk.l, Lk.of]; exact hi0 (by omega)
  · have h2 := hp2 (by omega); have h3 := hp3 (by omega)
    subst h2 h3; simp [Lk.l, Lk.of]; exact ⟨hi0 (by omega), hi1 (by omega)⟩
  · have h3 := hp3 (by omega)
    subst h3; simp [Lk.l, Lk.of]; exact ⟨hi0 (by omega), hi1 (by omega), hi2 (by omega)⟩
  · simp [Lk.l, Lk.of]; exact ⟨hi0 (by omega), hi1 (by omega), hi2 (by omega), hi3 (by omega)⟩
theorem of_right {t : List Int} {m : Int} (hm : 1 ≤ m ∧ m ≤ 8) (h : t.length ≤ 4) (hv : ∀ v ∈ t, 0 ≤ v ∧ v < m) : (Lk.of t).right m := by
  rw [right_iff]
  refine ⟨hm, by rw [of_n]; omega, ?_, ?_⟩
  · intro i h4 hn
    rw [of_n] at hn
    rw [of_s t i h, List.getD_eq_getElem?_getD, List.getElem?_eq_none (by omega)]; rfl
  · intro i h4 hn
    rw [of_n] at hn
    have hlt : i < t.length := by omega
    rw [of_s t i h, List.getD_eq_getElem?_getD, List.getElem?_eq_getElem hlt]
    exact hv _ (List.getElem_mem hlt)
theorem s_getD {x : Lk} {m : Int} (h : x.right m) (i : Nat) : x.s i = x.l.getD i 0 := by
  obtain ⟨h1, h2, h3, h4⟩ := right_l h
  have h5 := of_s x.l i h2
  rw [h3] at h5
  exact h5
theorem right_ext {x y : Lk} {m k : Int} (hx : x.right m) (hy : y.right k) (h : x.l = y.l) : x = y := by
  rw [← (right_l hx).2.2.1, ← (right_l hy).2.2.1, h]
theorem right_mono {x : Lk} {m k : Int} (hx : x.right m) (h1 : m ≤ k) (h2 : k ≤ 8) : x.right k := by
  have hm := ((right_iff x m).1 hx).1
  obtain ⟨_, h4, h5, h6⟩ := right_l hx
  rw [← h5]
  exact of_right (by omega) h4 fun v hv => ⟨(h6 v hv).1, by have := (h6 v hv).2; omega⟩
theorem right_wf {x : Lk} {m : Int} (h : x.right m) : x.wf := by
  obtain ⟨⟨h1, h2⟩, ⟨h3, h4⟩, h5, h6⟩ := (right_iff x m).1 h
  have hs : ∀ i : Nat, i < 4 → 0 ≤ x.s i ∧ x.s i < 8 := by
    intro i hi
    by_cases hn : x.n ≤ i
    · rw [h5 i hi hn]; omega
    · have := h6 i hi (by omega); omega
  have w : ∀ n : Int, 0 ≤ n → n < 8 → (Lit.int .i64 n).wf = true := by
    intro n h0 h8
    have e1 : IntKind.i64.min = -9223372036854775808 := by decide
    have e2 : IntKind.i64.max = 9223372036854775807 := by decide
    simp [Lit.wf, e1, e2]
    omega
  exact ⟨w _ h3 (by omega), w _ (hs 0 (by omega)).1 (hs 0 (by omega)).2, w _ (hs 1 (by omega)).1 (hs 1 (by omega)).2, w _ (hs 2 (by omega)).1 (hs 2 (by omega)).2, w _ (hs 3 (by omega)).1 (hs 3 (by omega)).2⟩
def cmpI : List Int → List Int → Int
  | [], [] => 0
  | [], _ :: _ => -1
  | _ :: _, [] => 1
  | a :: l, b :: m => if a < b then -1 else if b < a then 1 else cmpI l m
def lcmp (x y : Lk) : Int := cmpI x.l y.l
theorem cmpI_refl : ∀ l, cmpI l l = 0
  | [] => rfl
  | a :: l => by simp [cmpI, cmpI_refl l]
theorem cmpI_eq : ∀ l m, cmpI l m = 0 → l = m
  | [], [], _ => rfl
  | [], _ :: _, h => by simp [cmpI] at h
  | _ :: _, [], h => by simp [cmpI] at h
  | a :: l, b :: m, h => by
    simp only [cmpI] at h
    split at h
    · cases h
    · split at h
      · cases h
      · rw [show a = b by omega, cmpI_eq l m h]
theorem cmpI_anti : ∀ l m, cmpI m l = - cmpI l m
  | [], [] => rfl
  | [], _ :: _ => rfl
  | _ :: _, [] => rfl
  | a :: l, b :: m => by
    simp only [cmpI]
    by_cases h1 : a < b
    · simp [h1, show ¬ b < a by omega]
    · by_cases h2 : b < a
      · simp [h1, h2]
      · simp [h1, h2, cmpI_anti l m]
theorem cmpI_vals : ∀ l m, cmpI l m = -1 ∨ cmpI l m = 0 ∨ cmpI l m = 1
  | [], [] => by simp [cmpI]
  | [], _ :: _ => by simp [cmpI]
  | _ :: _, [] => by simp [cmpI]
  | a :: l, b :: m => by
    simp only [cmpI]
    split
    · simp
    · split
      · simp
      · exact cmpI_vals l m
theorem cmpI_trans : ∀ l m n, cmpI l m = -1 → cmpI m n = -1 → cmpI l n = -1
  | [], _, [], h1, h2 => by
    rename_i m; cases m <;> simp [cmpI] at h1 h2
  | [], _, _ :: _, _, _ => rfl
  | _ :: _, [], _, h1, _ => by simp [cmpI] at h1
  | _ :: _, _ :: _, [], _, h2 => by simp [cmpI] at h2
  | a :: l, b :: m, c :: n, h1, h2 => by
    simp only [cmpI] at *
    by_cases ab : a < b
    · by_cases bc : b < c
      · simp [show a < c by omega]
      · by_cases cb : c < b
        · simp [bc, cb] at h2
        · have : b = c := by omega
          subst this; simp [ab]
    · by_cases ba : b < a
      · simp [ab, ba] at h1
      · have : a = b := by omega
        subst this
        simp only [ab, if_false] at h1
        by_cases bc : a < c
        · simp [bc]
        · by_cases cb : c < a
          · simp [bc, cb] at h2
          · simp only [bc, cb, if_false] at h2 ⊢
            exact cmpI_trans l m n h1 h2
theorem cmpI_part : ∀ (l m : List Int) (j : Nat), j < l.length → j < m.length → (∀ i, i < j → l.getD i 0 = m.getD i 0) → l.getD j 0 ≠ m.getD j 0 → cmpI l m = if l.getD j 0 < m.getD j 0 then -1 else 1
  | [], _, _, h, _, _, _ => by simp at h
  | _ :: _, [], _, _, h, _, _ => by simp at h
  | a :: l, b :: m, 0, _, _, _, h => by
    simp at h
    simp only [cmpI, List.getD_cons_zero]
    by_cases h1 : a < b
    · simp [h1]
    · simp [h1, show b < a by omega]
  | a :: l, b :: m, j + 1, h1, h2, h3, h4 => by
    have h0 := h3 0 (by omega)
    simp only [List.getD_cons_zero] at h0
    subst h0
    simp only [cmpI, List.getD_cons_succ, Int.lt_irrefl, if_false] at h4 ⊢
    exact cmpI_part l m j (by simpa using h1) (by simpa using h2) (fun i hi => by have := h3 (i + 1) (by omega); simpa using this) h4
theorem cmpI_all : ∀ (l m : List Int), (∀ i, i < l.length → i < m.length → l.getD i 0 = m.getD i 0) → cmpI l m = if l.length < m.length then -1 else if m.length < l.length then 1 else 0
  | [], [], _ => rfl
  | [], _ :: _, _ => by simp [cmpI]
  | _ :: _, [], _ => by simp [cmpI]
  | a :: l, b :: m, h => by
    have h0 := h 0 (by simp) (by simp)
    simp only [List.getD_cons_zero] at h0
    subst h0
    simp only [cmpI, Int.lt_irrefl, if_false, List.length_cons]
    rw [cmpI_all l m fun i h1 h2 => by have := h (i + 1) (by simpa using h1) (by simpa using h2); simpa using this]
    simp
def lplus (k : Nat) (x y : Lk) : Lk := Lk.of ((x.l ++ y.l).take k)
end Go.Proofs.YtjnmkdahbcmfaaaGreat

/- What a call that makes memory keeps; what a slice reads. -/
namespace Go.Proofs.YtjnmkdahbcmfaaaGreat
open Go.ChangeShapes Go.WideShapes Go.ChangeAt Go.RowKit
set_option linter.unusedVariables false
theorem bAlc {W0 W : World} (h : Below W0.heap.size W0 W) (o : Obj) : Below W0.heap.size W0 (W.alloc o) := h.alloc h.size o
theorem bStep {W0 W W1 : World} (h : Below W0.heap.size W0 W) (h1 : Below W.heap.size W W1) : Below W0.heap.size W0 W1 := h.trans (h1.mono h.size)
theorem bSet {W0 W : World} (h : Below W0.heap.size W0 W) (p : Addr) (v : Value) (hp : W0.heap.size ≤ p.block) : Below W0.heap.size W0 (W.setCell p v) := h.setCell hp v
theorem bDrw {W0 W : World} (h : Below W0.heap.size W0 W) : Below W0.heap.size W0 W.drew := h.drew
theorem bDrwN {W0 W : World} (h : Below W0.heap.size W0 W) (n : Nat) : Below W0.heap.size W0 (W.drewN n) := by
  induction n with
  | zero => exact h
  | succ n ih => exact ih.drew
theorem bDrwN' {B : Nat} (W : World) (n : Nat) : Below B W (W.drewN n) := by
  induction n with
  | zero => exact Below.refl _ _
  | succ n ih => exact ih.drew
def Blk (w : World) (g : Nat) (t : TypeId) (cs : Array Value) : Prop := w.heap[g]? = some (.cells cs t (0, 0))
section
variable {w w' : World} {g : Nat} {t : TypeId} {cs : Array Value}
theorem Blk.lt (h : Blk w g t cs) : g < w.heap.size := (Array.getElem?_eq_some_iff.1 h).1
theorem Blk.cell (h : Blk w g t cs) (i : Nat) : w.cell? ⟨g, i, none⟩ = cs[i]? := cell_of_row w g i cs t (0, 0) h
theorem Blk.frozen (h : Blk w g t cs) (i : Nat) : w.frozen? ⟨g, i, none⟩ = false := by
  unfold Blk at h
  simp [World.frozen?, h]
theorem Blk.new (w : World) (t : TypeId) (cs : Array Value) : Blk (w.alloc (.cells cs t)) w.heap.size t cs := heap_alloc_new w _
theorem Blk.newAt (w : World) (t : TypeId) (cs : Array Value) (g : Nat) (h : g = w.heap.size) : Blk (w.alloc (.cells cs t)) g t cs := by subst h; exact Blk.new w t cs
theorem Blk.drew (h : Blk w g t cs) : Blk w.drew g t cs := h
theorem Blk.drewN (h : Blk w g t cs) (n : Nat) : Blk (w.drewN n) g t cs := h
theorem Blk.alloc (h : Blk w g t cs) (o : Obj) : Blk (w.alloc o) g t cs := (Below.heap_alloc w o g h.lt).trans h
theorem Blk.put (h : Blk w g t cs) (i : Nat) (u : Value) : Blk (w.setCell ⟨g, i, none⟩ u) g t (cs.setIfInBounds i u) := by
  unfold Blk at h ⊢
  simp [World.setCell, Array.getElem?_modify, h]
theorem Blk.far (h : Blk w g t cs) {p : Addr} (hp : g ≠ p.block) (u : Value) : Blk (w.setCell p u) g t cs := (Below.heap_setCell w p u g hp).trans h
theorem Blk.below {B : Nat} (h : Blk w g t cs) (hb : Below B w w') (hg : g < B) : Blk w' g t cs := (hb.block g hg).trans h
theorem Blk.step (h : Blk w g t cs) (hb : Below w.heap.size w w') : Blk w' g t cs := h.below hb h.lt
theorem Blk.grown {row : Option Nat} (h : Blk w g t cs) (hb : w.grownBy w' row) (hg : some g ≠ row) : Blk w' g t cs := (hb.block g h.lt hg).trans h
end
theorem cell_later {w w' : World} (hb : Below w.heap.size w w') {a : Addr} {v : Value} (h : w.cell? a = some v) : w'.cell? a = some v :=
  (hb.cell (block_lt_of_cell h)).trans h
structure KeptBy (w : World) where
  world : World
  kept : Below w.heap.size w world
def KeptBy.self (w : World) : KeptBy w := ⟨w, Below.refl _ _⟩
instance (w : World) : Inhabited (KeptBy w) := ⟨KeptBy.self w⟩
def KeptBy.next {w : World} (p : KeptBy w) {w' : World} (h : Below p.world.heap.size p.world w') : KeptBy w := ⟨w', p.kept.trans (h.mono p.kept.size)⟩
theorem wp_region_kept {P : Program} {id : Nat} {Q : Exit → Act → World → Prop} {a : Act} {w : World} {l : List Oper} (hm : P.follows .mixedOrders = true) (hB : Region.lexB .any l.toArray = true)
    (h : wpQuiet P l.toArray (fun w' => ∃ p : KeptBy w, w' = p.world) (fun a' => ∀ w', (∃ p : KeptBy w, w' = p.world) → Q .normal a' w') l a) : (Code.region id l.toArray true).wp P Q a w :=
  wp_region_quiet (C := fun w' => ∃ p : KeptBy w, w' = p.world) hm hB ⟨⟨w.drew, (Below.refl _ _).drew⟩, rfl⟩ (by simpa using h)
theorem Calls.kept_by {P : Program} {f : FuncId} {args : Array Value} {w : World} {p : KeptBy w} {v : Value}
    (h : Calls P f args p.world fun e w' => e = .returned v ∧ Below p.world.heap.size p.world w') : Calls P f args p.world fun e w'' => e = .returned v ∧ ∃ q : KeptBy w, w'' = q.world :=
  h.mono fun _ _ ⟨he, hb⟩ => ⟨he, p.next hb, rfl⟩
theorem cell_kept {w : World} {a : Addr} {v : Value} (h : w.cell? a = some v) (p : KeptBy w) : p.world.cell? a = some v := cell_later p.kept h
end Go.Proofs.YtjnmkdahbcmfaaaGreat

/- Contracts of the reference 13: both, Order, Plus, Join, Compare; of the reference 14: compare, join, range8, ranged. -/
namespace Go.Proofs.YtjnmkdahbcmfaaaGreat
open Go.ChangeShapes Go.WideShapes Go.ChangeAt Go.RowKit
set_option linter.unusedVariables false
theorem lcmp_part {x y : Lk} (hx : x.right 8) (hy : y.right 8) (j : Nat) (h1 : (j : Int) < x.n) (h2 : (j : Int) < y.n) (h : ∀ i, i < j → x.s i = y.s i) (hd : x.s j ≠ y.s j) : lcmp x y = if x.s j < y.s j then -1 else 1 := by
  have e1 := (right_l hx).1
  have e2 := (right_l hy).1
  rw [s_getD hx, s_getD hy] at hd ⊢
  exact cmpI_part _ _ j (by omega) (by omega) (fun i hi => by rw [← s_getD hx, ← s_getD hy]; exact h i hi) hd
theorem lcmp_all {x y : Lk} (hx : x.right 8) (hy : y.right 8) (h : ∀ i : Nat, (i : Int) < x.n → (i : Int) < y.n → x.s i = y.s i) : lcmp x y = if x.n < y.n then -1 else if y.n < x.n then 1 else 0 := by
  have e1 := (right_l hx).1
  have e2 := (right_l hy).1
  have := cmpI_all x.l y.l fun i h1 h2 => by rw [← s_getD hx, ← s_getD hy]; exact h i (by omega) (by omega)
  unfold lcmp
  rw [this]
  by_cases h1 : x.n < y.n
  · rw [if_pos (by omega), if_pos h1]
  · rw [if_neg (by omega), if_neg h1]
    by_cases h2 : y.n < x.n
    · rw [if_pos (by omega), if_pos h2]
    · rw [if_neg (by omega), if_neg h2]
end Go.Proofs.YtjnmkdahbcmfaaaGreat

/- Contracts: the sum of two looks. -/
namespace Go.Proofs.YtjnmkdahbcmfaaaGreat
open Go.ChangeShapes Go.WideShapes Go.ChangeAt Go.RowKit
set_option linter.unusedVariables false
def Lk.cells (x : Lk) : Array Value := #[.int .i64 x.n, .int .i64 x.a, .int .i64 x.b, .int .i64 x.c, .int .i64 x.d]
theorem size42 : (Tryz.prog.info? 45).map (·.size) = some 5 := by kernel_rfl
theorem results_look {fn : Func} {p : Tmp} (h : fn.results = #[.cell p 45]) (tmps : Array Value) (w : World) (g : Nat) (x : Lk) (hp : tmps.getD p undef = .pointer (some ⟨g, 0, none⟩)) (hg : Blk w g 45 x.cells) :
    (results fn tmps).run Tryz.prog w = .ok x.v w :=
  results_cell_row h tmps w g 45 x.cells (0, 0) _ hp hg under42 rfl size42
theorem put5 {w : World} {g : Nat} {y : Lk} (h : Blk w g 45 y.cells) (x : Lk) :
    Blk (((((w.setCell ⟨g, 0, none⟩ (.int .i64 x.n)).setCell ⟨g, 1, none⟩ (.int .i64 x.a)).setCell ⟨g, 2, none⟩ (.int .i64 x.b)).setCell ⟨g, 3, none⟩ (.int .i64 x.c)).setCell ⟨g, 4, none⟩ (.int .i64 x.d)) g 45 x.cells :=
  ((((h.put 0 (.int .i64 x.n)).put 1 (.int .i64 x.a)).put 2 (.int .i64 x.b)).put 3 (.int .i64 x.c)).put 4 (.int .i64 x.d)
end Go.Proofs.YtjnmkdahbcmfaaaGreat

/- Slices of looks: what reads as a list of looks, what is owned, how it is cut. -/
namespace Go.Proofs.YtjnmkdahbcmfaaaGreat
open Go.ChangeShapes Go.WideShapes Go.ChangeAt Go.RowKit
set_option linter.unusedVariables false
def cellsL (l : List Lk) : List Value := l.flatMap fun x => x.cells.toList
theorem cellsL_cons (x : Lk) (l : List Lk) : cellsL (x :: l) = x.cells.toList ++ cellsL l := by simp [cellsL]
theorem cellsL_append (l m : List Lk) : cellsL (l ++ m) = cellsL l ++ cellsL m := by simp [cellsL]
theorem cellsL_len : ∀ l : List Lk, (cellsL l).length = l.length * 5
  | [] => rfl
  | x :: l => by
    rw [cellsL_cons, List.length_append, cellsL_len l]
    show 5 + _ = _
    rw [List.length_cons]; omega
theorem cellsL_get : ∀ (l : List Lk) (i : Nat) (x : Lk), l[i]? = some x → ∀ j, j < 5 → (cellsL l)[i * 5 + j]? = x.cells[j]?
  | [], i, x, h, _, _ => by simp at h
  | y :: l, 0, x, h, j, hj => by
    have : y = x := by simpa using h
    subst this
    rw [cellsL_cons, Nat.zero_mul, Nat.zero_add, List.getElem?_append_left (by show j < 5; omega)]
    simp
  | y :: l, i + 1, x, h, j, hj => by
    rw [cellsL_cons, List.getElem?_append_right (by show 5 ≤ _; omega)]
    have := cellsL_get l i x (by simpa using h) j hj
    rw [← this]
    congr 1
    show (i + 1) * 5 + j - 5 = _
    omega
def RdL (w : World) (B : Nat) (A : Option Addr) (n : Nat) (l : List Lk) : Prop :=
  l.length = n ∧ (n = 0 ∨ ∃ b off, A = some ⟨b, off, none⟩ ∧ b < B ∧ ∀ (i : Nat) (x : Lk), l[i]? = some x → ∀ j, j < 5 → w.cell? ⟨b, off + i * 5 + j, none⟩ = x.cells[j]?)
theorem RdL.below {w w' : World} {B : Nat} {A : Option Addr} {n : Nat} {l : List Lk} (h : RdL w B A n l) (hb : Below B w w') : RdL w' B A n l := by
  refine ⟨h.1, ?_⟩
  rcases h.2 with h0 | ⟨b, off, rfl, hlt, hc⟩
  · exact .inl h0
  · exact .inr ⟨b, off, rfl, hlt, fun i x hx j hj => by rw [hb.cell (p := ⟨b, off + i * 5 + j, none⟩) hlt]; exact hc i x hx j hj⟩
theorem RdL.mono {w : World} {B B' : Nat} {A : Option Addr} {n : Nat} {l : List Lk} (h : RdL w B A n l) (hb : B ≤ B') : RdL w B' A n l := by
  refine ⟨h.1, ?_⟩
  rcases h.2 with h0 | ⟨b, off, rfl, hlt, hc⟩
  · exact .inl h0
  · exact .inr ⟨b, off, rfl, by omega, hc⟩
theorem RdL.nil (w : World) (B : Nat) (A : Option Addr) : RdL w B A 0 [] := ⟨rfl, .inl rfl⟩
theorem RdL.get {w : World} {B : Nat} {A : Option Addr} {n : Nat} {l : List Lk} (h : RdL w B A n l) {i : Nat} {x : Lk} (hi : l[i]? = some x) :
    ∃ b off, A = some ⟨b, off, none⟩ ∧ b < B ∧ w.cell? ⟨b, off + i * 5, none⟩ = some (.int .i64 x.n) ∧ w.cell? ⟨b, off + i * 5 + 1, none⟩ = some (.int .i64 x.a) ∧ w.cell? ⟨b, off + i * 5 + 2, none⟩ = some (.int .i64 x.b) ∧
      w.cell? ⟨b, off + i * 5 + 3, none⟩ = some (.int .i64 x.c) ∧ w.cell? ⟨b, off + i * 5 + 4, none⟩ = some (.int .i64 x.d) := by
  have hlt := (List.getElem?_eq_some_iff.1 hi).1
  rcases h.2 with h0 | ⟨b, off, rfl, hb, hc⟩
  · have := h.1; omega
  · exact ⟨b, off, rfl, hb, hc i x hi 0 (by omega), hc i x hi 1 (by omega), hc i x hi 2 (by omega), hc i x hi 3 (by omega), hc i x hi 4 (by omega)⟩
theorem info42 : (Tryz.prog.info? 45).map (fun i => (i.zero, i.size, i.bytes)) = some (some (Lk.of []).v, 5, 40) := by kernel_rfl
theorem RdL.drop {w : World} {B : Nat} {A : Option Addr} {n : Nat} {l : List Lk} (h : RdL w B A n l) (k c : Nat) (hk : k ≤ n) (hc : n ≤ c) : RdL w B (if c = k then A else A.map (·.add (k * 5))) (n - k) (l.drop k) := by
  refine ⟨by rw [List.length_drop, h.1], ?_⟩
  rcases h.2 with h0 | ⟨b, off, rfl, hlt, hcell⟩
  · left; omega
  · by_cases e : n - k = 0
    · exact .inl e
    · right
      rw [if_neg (by omega)]
      refine ⟨b, off + k * 5, by simp [Addr.add], hlt, fun i x hx j hj => ?_⟩
      have := hcell (k + i) x (by rw [List.getElem?_drop] at hx; exact hx) j hj
      rw [← this]
      congr 2
      omega
theorem RdL.take {w : World} {B : Nat} {A : Option Addr} {n : Nat} {l : List Lk} (h : RdL w B A n l) (k : Nat) (hk : k ≤ n) : RdL w B A k (l.take k) := by
  refine ⟨by rw [List.length_take, h.1]; omega, ?_⟩
  rcases h.2 with h0 | ⟨b, off, rfl, hlt, hcell⟩
  · left; omega
  · refine .inr ⟨b, off, rfl, hlt, fun i x hx j hj => hcell i x ?_ j hj⟩
    rw [List.getElem?_take] at hx
    split at hx
    · exact hx
    · cases hx
def OwnL (w : World) (base : Nat) (v : Value) (l : List Lk) : Prop := w.ownsRow base 45 5 v l.length (cellsL l)
theorem OwnL.reads {w : World} {base : Nat} {v : Value} {l : List Lk} (h : OwnL w base v l) : ∃ A c, v = .slice A l.length c ∧ RdL w w.heap.size A l.length l ∧ l.length ≤ c ∧ c ≤ maxLen ∧ (∀ a, A = some a → base ≤ a.block) := by
  rcases h.2 with ⟨rfl, h0⟩ | ⟨g, cap, cur, rfl, hb, hg, hnc, hcm, hcs, ht⟩
  · refine ⟨none, 0, by rw [h0], ⟨rfl, .inl h0⟩, by omega, by simp [maxLen], by simp⟩
  · refine ⟨some ⟨g, 0, none⟩, cap, rfl, ⟨rfl, ?_⟩, hnc, hcm, by simp; exact hb⟩
    refine .inr ⟨g, 0, rfl, (Array.getElem?_eq_some_iff.1 hg).1, fun i x hx j hj => ?_⟩
    have hlt := (List.getElem?_eq_some_iff.1 hx).1
    rw [cell_of_row w g _ cur 45 (0, 0) hg, ← cellsL_get l i x hx j hj, ← ht, List.getElem?_take, if_pos (by omega), Nat.zero_add]
    simp
theorem OwnL.nil (w : World) (base : Nat) : OwnL w base (.slice none 0 0) [] := World.ownsRow_nil w base 45 5
theorem OwnL.alloc {w : World} {base : Nat} {v : Value} {l : List Lk} (h : OwnL w base v l) (o : Obj) : OwnL (w.alloc o) base v l := World.ownsRow.alloc h o
theorem OwnL.step {w w' : World} {base : Nat} {v : Value} {l : List Lk} (h : OwnL w base v l) (hb : Below w.heap.size w w') : OwnL w' base v l := by
  refine ⟨h.1, ?_⟩
  rcases h.2 with hn | ⟨g, cap, cur, rfl, hg0, hg, rest⟩
  · exact .inl hn
  · exact .inr ⟨g, cap, cur, rfl, hg0, (hb.block g (Array.getElem?_eq_some_iff.1 hg).1).trans hg, rest⟩
theorem OwnL.mono {w : World} {base b' : Nat} {v : Value} {l : List Lk} (h : OwnL w base v l) (hb : b' ≤ base) : OwnL w b' v l := by
  refine ⟨h.1, ?_⟩
  rcases h.2 with hn | ⟨g, cap, cur, rfl, hg0, hg, rest⟩
  · exact .inl hn
  · exact .inr ⟨g, cap, cur, rfl, by omega, hg, rest⟩
theorem own_in {w : World} {base : Nat} {e : TypeId} {size : Nat} {v : Value} {n : Nat} {xs : List Value} (h : w.ownsRow base e size v n xs) : ∀ k, v.ownBlock = some k → base ≤ k ∧ k < w.heap.size := h.lt
section
variable (w : World) {P : Program} {ops : Array Oper} {rest : List Oper} {o : Oper} {a : Act} {Q : Exit → Act → World → Prop}
theorem wpList_push (hgd : o.guard = none) (s x : Operand) (t : TypeId) (ho : o.op = .call { callee := .builtin .append, args := #[s, x], argTypes := #[t, t] })
    (base : Nat) (e : TypeId) (z : Value) (size bytes : Nat) (ht : P.underlying t = some (.slice e)) (hi : (P.info? e).map (fun i => (i.zero, i.size, i.bytes)) = some (some z, size, bytes)) (hzs : z.cells.size = size) (hsz : 0 < size)
    (v : Value) (n : Nat) (xs : List Value) (hs : a.eval s = v) (hown : w.ownsRow base e size v n xs) (g : Nat) (cs : Array Value) (hx : a.eval x = .slice (some ⟨g, 0, none⟩) 1 1) (hb : Blk w g e cs) (hc : cs.size = size)
    (h1 : ∀ u ∈ cs.toList, u.oneCell' = true) (h63 : n < 1000000) (hbytes : bytes ≤ 1000000) (hbase : base ≤ w.heap.size)
    (h : ∀ v' w', w'.ownsRow base e size v' (n + 1) (xs ++ cs.toList) → w.grownBy w' v.ownBlock → (v'.ownBlock = v.ownBlock ∨ v'.ownBlock = some w.heap.size) → (∀ W0, Below base W0 w → Below base W0 w') → wpList P ops Q rest (a.put o.dst v') w') : wpList P ops Q (o :: rest) a w := by
  obtain ⟨i0, hi0, hz0, hz1, hz2⟩ := info_parts hi
  refine wpList_append_own_at w hgd s x t ho base e i0 z size bytes ht hi0 hz0 hz1 hz2 hzs hsz v n xs hs hown ⟨g, 0, none⟩ 1 1 cs.toList hx (by simp [hc]) ?_ h1 (by unfold maxLen; omega) ?_ hbase ?_
  · intro j u hu
    have : (⟨g, 0, none⟩ : Addr).add j = ⟨g, j, none⟩ := by unfold Addr.add; split <;> simp_all
    rw [this, hb.cell]
    simpa using hu
  · have := Nat.mul_le_mul (show n + 1 ≤ 1000000 by omega) hbytes
    omega
  · intro v' w' h2 h3 h4 h5
    exact h v' w' h2 h3 h5 fun W0 hB => hB.grown h3 hbase (fun k hk => (own_in hown k hk).1)
theorem wpList_pushL (hgd : o.guard = none) (s x : Operand) (ho : o.op = .call { callee := .builtin .append, args := #[s, x], argTypes := #[147, 147] })
    (base : Nat) (v : Value) (l : List Lk) (hs : a.eval s = v) (hown : OwnL w base v l) (g : Nat) (k : Lk) (hx : a.eval x = .slice (some ⟨g, 0, none⟩) 1 1) (hb : Blk w g 45 k.cells) (h63 : l.length < 1000000) (hbase : base ≤ w.heap.size)
    (h : ∀ v' w', OwnL w' base v' (l ++ [k]) → w.grownBy w' v.ownBlock → (v'.ownBlock = v.ownBlock ∨ v'.ownBlock = some w.heap.size) → (∀ W0, Below base W0 w → Below base W0 w') → wpList Tryz.prog ops Q rest (a.put o.dst v') w') : wpList Tryz.prog ops Q (o :: rest) a w := by
  refine wpList_push w hgd s x 147 ho base 45 _ 5 40 (by kernel_rfl) info42 rfl (by omega) v l.length (cellsL l) hs hown g k.cells hx hb rfl (by simp [Lk.cells, Value.oneCell']) h63 (by omega) hbase ?_
  intro v' w' h2 h3 h4 h5
  refine h v' w' ?_ h3 h4 h5
  unfold OwnL
  rw [cellsL_append, List.length_append]
  have : cellsL [k] = k.cells.toList := by simp [cellsL]
  rw [this]
  exact h2
theorem OwnL.empty (w : World) (base : Nat) (h : base ≤ w.heap.size) : OwnL (w.alloc (.cells #[] 45)) base (.slice (some ⟨w.heap.size, 0, none⟩) 0 0) [] :=
  ⟨rfl, .inr ⟨w.heap.size, 0, #[], rfl, h, heap_alloc_new w _, Nat.le_refl _, by simp [maxLen], rfl, rfl⟩⟩
end
end Go.Proofs.YtjnmkdahbcmfaaaGreat

/- The reference 14: merge. -/
namespace Go.Proofs.YtjnmkdahbcmfaaaGreat
open Go.ChangeShapes Go.WideShapes Go.ChangeAt Go.RowKit
set_option linter.unusedVariables false
def mgo (x : Lk) (f : List Lk → List Lk) : List Lk → List Lk
  | [] => x :: f []
  | y :: b => if lcmp x y < 0 then x :: f (y :: b) else if 0 < lcmp x y then y :: mgo x f b else x :: f b
def lmerge : List Lk → List Lk → List Lk
  | [], b => b
  | x :: a, b => mgo x (lmerge a) b
theorem lmerge_nil (a : List Lk) : lmerge a [] = a := by
  induction a with
  | nil => rfl
  | cons x a ih => show x :: lmerge a [] = _; rw [ih]
theorem lmerge_cons (x y : Lk) (a b : List Lk) : lmerge (x :: a) (y :: b) = if lcmp x y < 0 then x :: lmerge a (y :: b) else if 0 < lcmp x y then y :: lmerge (x :: a) b else x :: lmerge a b := rfl
def RetL (w : World) (l : List Lk) (e : Ending) (w' : World) : Prop := ∃ v, e = .returned v ∧ OwnL w' w.heap.size v l ∧ Below w.heap.size w w'
theorem RdL.tail {w : World} {B b off n : Nat} {x : Lk} {l : List Lk} (h : RdL w B (some ⟨b, off, none⟩) n (x :: l)) : RdL w B (some ⟨b, off + 5, none⟩) (n - 1) l := by
  have h0 : 0 < n := by rw [← h.1]; simp
  have := h.drop 1 (n + 1) (by omega) (by omega)
  rw [if_neg (by omega)] at this
  simpa [Addr.add] using this
end Go.Proofs.YtjnmkdahbcmfaaaGreat

/- Ascending lists of looks. Plain. -/
namespace Go.Proofs.YtjnmkdahbcmfaaaGreat
set_option linter.unusedVariables false
def Asc (l : List Lk) : Prop := l.Pairwise fun x y => lcmp x y = -1
theorem lcmp_refl (x : Lk) : lcmp x x = 0 := cmpI_refl _
theorem lcmp_anti (x y : Lk) : lcmp y x = - lcmp x y := cmpI_anti _ _
theorem lcmp_vals (x y : Lk) : lcmp x y = -1 ∨ lcmp x y = 0 ∨ lcmp x y = 1 := cmpI_vals _ _
theorem lcmp_trans {x y z : Lk} (h1 : lcmp x y = -1) (h2 : lcmp y z = -1) : lcmp x z = -1 := cmpI_trans _ _ _ h1 h2
theorem lcmp_eq {x y : Lk} {m k : Int} (hx : x.right m) (hy : y.right k) (h : lcmp x y = 0) : x = y := right_ext hx hy (cmpI_eq _ _ h)
theorem asc_nil : Asc [] := List.Pairwise.nil
theorem asc_one (x : Lk) : Asc [x] := List.pairwise_singleton _ _
theorem asc_cons {x : Lk} {l : List Lk} : Asc (x :: l) ↔ (∀ y ∈ l, lcmp x y = -1) ∧ Asc l := List.pairwise_cons
theorem asc_uniq : ∀ {a b : List Lk}, Asc a → Asc b → (∀ x, x ∈ a ↔ x ∈ b) → a = b
  | [], [], _, _, _ => rfl
  | [], y :: b, _, _, h => absurd ((h y).2 (by simp)) (by simp)
  | x :: a, [], _, _, h => absurd ((h x).1 (by simp)) (by simp)
  | x :: a, y :: b, ha, hb, h => by
    obtain ⟨a1, a2⟩ := asc_cons.1 ha
    obtain ⟨b1, b2⟩ := asc_cons.1 hb
    have hxy : x = y := by
      have h1 := (h x).1 (by simp)
      have h2 := (h y).2 (by simp)
      rcases List.mem_cons.1 h1 with e | h1
      · exact e
      · rcases List.mem_cons.1 h2 with e | h2
        · exact e.symm
        · have e1 := a1 y h2
          have e2 := b1 x h1
          rw [lcmp_anti, e1] at e2
          omega
    subst hxy
    have hn : ∀ {l : List Lk}, (∀ y ∈ l, lcmp x y = -1) → x ∉ l := fun hl hm => by
      have := hl x hm
      rw [lcmp_refl] at this
      omega
    congr 1
    refine asc_uniq a2 b2 fun z => ?_
    constructor
    · intro hz
      rcases List.mem_cons.1 ((h z).1 (by simp [hz])) with e | h'
      · subst e; exact absurd hz (hn a1)
      · exact h'
    · intro hz
      rcases List.mem_cons.1 ((h z).2 (by simp [hz])) with e | h'
      · subst e; exact absurd hz (hn b1)
      · exact h'
theorem merge_mem {k : Int} : ∀ (a b : List Lk), (∀ x ∈ a, x.right k) → (∀ x ∈ b, x.right k) → ∀ z, z ∈ lmerge a b ↔ z ∈ a ∨ z ∈ b
  | [], b, _, _, z => by simp [lmerge]
  | x :: a, [], _, _, z => by rw [lmerge_nil]; simp
  | x :: a, y :: b, ha, hb, z => by
    have h1 := merge_mem a (y :: b) (fun z hz => ha z (by simp [hz])) hb z
    have h2 := merge_mem (x :: a) b ha (fun z hz => hb z (by simp [hz])) z
    have h3 := merge_mem a b (fun z hz => ha z (by simp [hz])) (fun z hz => hb z (by simp [hz])) z
    rw [lmerge_cons]
    split
    · rw [List.mem_cons, h1]; simp [or_assoc]
    · split
      · rw [List.mem_cons, h2]; simp [or_assoc, or_left_comm]
      · have e : x = y := lcmp_eq (ha x (by simp)) (hb y (by simp)) (by rcases lcmp_vals x y with h | h | h <;> omega)
        subst e
        rw [List.mem_cons, h3]; simp [or_assoc]
        constructor
        · rintro (h | h | h) <;> simp [h]
        · rintro (h | h | h | h) <;> simp [h]
termination_by a b => a.length + b.length
theorem merge_asc {k : Int} : ∀ (a b : List Lk), (∀ x ∈ a, x.right k) → (∀ x ∈ b, x.right k) → Asc a → Asc b → Asc (lmerge a b)
  | [], b, _, _, _, hb => hb
  | x :: a, [], _, _, ha, _ => by rw [lmerge_nil]; exact ha
  | x :: a, y :: b, ra, rb, ha, hb => by
    obtain ⟨a1, a2⟩ := asc_cons.1 ha
    obtain ⟨b1, b2⟩ := asc_cons.1 hb
    have ra' : ∀ x ∈ a, x.right k := fun z hz => ra z (by simp [hz])
    have rb' : ∀ x ∈ b, x.right k := fun z hz => rb z (by simp [hz])
    have h1 := merge_asc a (y :: b) ra' rb a2 hb
    have h2 := merge_asc (x :: a) b ra rb' ha b2
    have h3 := merge_asc a b ra' rb' a2 b2
    rw [lmerge_cons]
    split
    · rename_i hc
      have hc : lcmp x y = -1 := by rcases lcmp_vals x y with h | h | h <;> omega
      refine asc_cons.2 ⟨fun z hz => ?_, h1⟩
      rcases (merge_mem a (y :: b) ra' rb z).1 hz with h | h
      · exact a1 z h
      · rcases List.mem_cons.1 h with e | h
        · rw [e]; exact hc
        · exact lcmp_trans hc (b1 z h)
    · split
      · rename_i _ hc
        have hc : lcmp y x = -1 := by rw [lcmp_anti]; rcases lcmp_vals x y with h | h | h <;> omega
        refine asc_cons.2 ⟨fun z hz => ?_, h2⟩
        rcases (merge_mem (x :: a) b ra rb' z).1 hz with h | h
        · rcases List.mem_cons.1 h with e | h
          · rw [e]; exact hc
          · exact lcmp_trans hc (a1 z h)
        · exact b1 z h
      · have e : x = y := lcmp_eq (ra x (by simp)) (rb y (by simp)) (by rcases lcmp_vals x y with h | h | h <;> omega)
        subst e
        refine asc_cons.2 ⟨fun z hz => ?_, h3⟩
        rcases (merge_mem a b ra' rb' z).1 hz with h | h
        · exact a1 z h
        · exact b1 z h
termination_by a b => a.length + b.length
theorem merge_len : ∀ (a b : List Lk), (lmerge a b).length ≤ a.length + b.length
  | [], b => by simp [lmerge]
  | x :: a, [] => by rw [lmerge_nil]; simp
  | x :: a, y :: b => by
    have h1 := merge_len a (y :: b)
    have h2 := merge_len (x :: a) b
    have h3 := merge_len a b
    simp only [List.length_cons] at *
    rw [lmerge_cons]
    split
    · simp only [List.length_cons]; omega
    · split <;> (simp only [List.length_cons]; omega)
termination_by a b => a.length + b.length
def lset (l : List Lk) : List Lk := l.foldr (fun x s => lmerge [x] s) []
theorem lset_cons (x : Lk) (l : List Lk) : lset (x :: l) = lmerge [x] (lset l) := rfl
theorem lset_facts {k : Int} : ∀ l : List Lk, (∀ x ∈ l, x.right k) → Asc (lset l) ∧ (∀ z, z ∈ lset l ↔ z ∈ l) ∧ (lset l).length ≤ l.length
  | [], _ => ⟨asc_nil, fun z => Iff.rfl, Nat.le_refl _⟩
  | x :: l, h => by
    obtain ⟨h1, h2, h3⟩ := lset_facts l fun z hz => h z (by simp [hz])
    have r1 : ∀ z ∈ [x], z.right k := fun z hz => by simp at hz; rw [hz]; exact h x (by simp)
    have r2 : ∀ z ∈ lset l, z.right k := fun z hz => h z (by simp [(h2 z).1 hz])
    rw [lset_cons]
    refine ⟨merge_asc _ _ r1 r2 (asc_one x) h1, fun z => ?_, ?_⟩
    · rw [merge_mem _ _ r1 r2, h2]; simp
    · have := merge_len [x] (lset l)
      simp only [List.length_cons, List.length_nil] at *
      omega
theorem lset_asc {k : Int} {l : List Lk} (h : ∀ x ∈ l, x.right k) : Asc (lset l) := (lset_facts l h).1
theorem lset_mem {k : Int} {l : List Lk} (h : ∀ x ∈ l, x.right k) (z : Lk) : z ∈ lset l ↔ z ∈ l := (lset_facts l h).2.1 z
theorem lset_len {k : Int} {l : List Lk} (h : ∀ x ∈ l, x.right k) : (lset l).length ≤ l.length := (lset_facts l h).2.2
theorem lset_of {k : Int} {l s : List Lk} (h : ∀ x ∈ l, x.right k) (hs : Asc s) (hm : ∀ z, z ∈ s ↔ z ∈ l) : s = lset l :=
  asc_uniq hs (lset_asc h) fun z => by rw [hm, lset_mem h]
theorem lset_same {k : Int} {l m : List Lk} (h : ∀ x ∈ l, x.right k) (hm : ∀ z, z ∈ m ↔ z ∈ l) : lset m = lset l :=
  lset_of h (lset_asc fun x hx => h x ((hm x).1 hx)) fun z => by rw [lset_mem fun x hx => h x ((hm x).1 hx)]; exact hm z
end Go.Proofs.YtjnmkdahbcmfaaaGreat

/- The reference 14: sorted, cut, Check, Cut. -/
namespace Go.Proofs.YtjnmkdahbcmfaaaGreat
open Go.ChangeShapes Go.WideShapes Go.ChangeAt Go.RowKit
set_option linter.unusedVariables false
theorem nil_right (m : Int) (h : 1 ≤ m ∧ m ≤ 8) : (Lk.of []).right m := of_right h (by simp) (by simp)
end Go.Proofs.YtjnmkdahbcmfaaaGreat

/- Grammars in memory. -/
namespace Go.Proofs.YtjnmkdahbcmfaaaGreat
open Go.ChangeShapes Go.WideShapes Go.ChangeAt Go.RowKit
set_option linter.unusedVariables false
def Rd1 (w : World) (B : Nat) (A : Option Addr) (n : Nat) (vs : List Value) : Prop :=
  vs.length = n ∧ (n = 0 ∨ ∃ b off, A = some ⟨b, off, none⟩ ∧ b < B ∧ ∀ (i : Nat) (v : Value), vs[i]? = some v → w.cell? ⟨b, off + i, none⟩ = some v)
theorem Rd1.below {w w' : World} {B : Nat} {A : Option Addr} {n : Nat} {l : List Value} (h : Rd1 w B A n l) (hb : Below B w w') : Rd1 w' B A n l := by
  refine ⟨h.1, ?_⟩
  rcases h.2 with h0 | ⟨b, off, rfl, hlt, hc⟩
  · exact .inl h0
  · exact .inr ⟨b, off, rfl, hlt, fun i x hx => by rw [hb.cell (p := ⟨b, off + i, none⟩) hlt]; exact hc i x hx⟩
theorem Rd1.mono {w : World} {B B' : Nat} {A : Option Addr} {n : Nat} {l : List Value} (h : Rd1 w B A n l) (hb : B ≤ B') : Rd1 w B' A n l := by
  refine ⟨h.1, ?_⟩
  rcases h.2 with h0 | ⟨b, off, rfl, hlt, hc⟩
  · exact .inl h0
  · exact .inr ⟨b, off, rfl, by omega, hc⟩
theorem Rd1.get {w : World} {B : Nat} {A : Option Addr} {n : Nat} {l : List Value} (h : Rd1 w B A n l) {i : Nat} {v : Value} (hi : l[i]? = some v) :
    ∃ b off, A = some ⟨b, off, none⟩ ∧ b < B ∧ w.cell? ⟨b, off + i, none⟩ = some v := by
  have hlt := (List.getElem?_eq_some_iff.1 hi).1
  rcases h.2 with h0 | ⟨b, off, rfl, hb, hc⟩
  · have := h.1; omega
  · exact ⟨b, off, rfl, hb, hc i v hi⟩
theorem Rd1.nil (w : World) (B : Nat) (A : Option Addr) : Rd1 w B A 0 [] := ⟨rfl, .inl rfl⟩
theorem Rd1.drop {w : World} {B : Nat} {A : Option Addr} {n : Nat} {l : List Value} (h : Rd1 w B A n l) (k c : Nat) (hk : k ≤ n) (hc : n ≤ c) : Rd1 w B (if c = k then A else A.map (·.add k)) (n - k) (l.drop k) := by
  refine ⟨by rw [List.length_drop, h.1], ?_⟩
  rcases h.2 with h0 | ⟨b, off, rfl, hlt, hcell⟩
  · left; omega
  · by_cases e : n - k = 0
    · exact .inl e
    · right
      rw [if_neg (by omega)]
      refine ⟨b, off + k, by simp [Addr.add], hlt, fun i x hx => ?_⟩
      have := hcell (k + i) x (by rw [List.getElem?_drop] at hx; exact hx)
      rw [← this]
      congr 2
      omega
def ints (l : List Int) : List Value := l.map (Value.int .i64)
def strs (l : List ByteArray) : List Value := l.map Value.string
structure Pr where
  left : Int
  right : List Int
  deriving DecidableEq, Inhabited
structure Gr where
  k : Int
  toks : List ByteArray
  sep : ByteArray
  names : List ByteArray
  start : Int
  prods : List Pr
  deriving Inhabited
def RdP (w : World) (B : Nat) (A : Option Addr) (n : Nat) (ps : List Pr) : Prop :=
  ps.length = n ∧ (n = 0 ∨ ∃ b off, A = some ⟨b, off, none⟩ ∧ b < B ∧ ∀ (i : Nat) (p : Pr), ps[i]? = some p → w.cell? ⟨b, off + i * 2, none⟩ = some (.int .i64 p.left) ∧
    ∃ RA c, w.cell? ⟨b, off + i * 2 + 1, none⟩ = some (.slice RA p.right.length c) ∧ Rd1 w B RA p.right.length (ints p.right) ∧ p.right.length ≤ c ∧ c ≤ maxLen)
theorem RdP.below {w w' : World} {B : Nat} {A : Option Addr} {n : Nat} {l : List Pr} (h : RdP w B A n l) (hb : Below B w w') : RdP w' B A n l := by
  refine ⟨h.1, ?_⟩
  rcases h.2 with h0 | ⟨b, off, rfl, hlt, hc⟩
  · exact .inl h0
  · refine .inr ⟨b, off, rfl, hlt, fun i x hx => ?_⟩
    obtain ⟨h1, RA, c, h2, h3, h4⟩ := hc i x hx
    exact ⟨by rw [hb.cell (p := ⟨b, off + i * 2, none⟩) hlt]; exact h1, RA, c, by rw [hb.cell (p := ⟨b, off + i * 2 + 1, none⟩) hlt]; exact h2, h3.below hb, h4⟩
theorem RdP.mono {w : World} {B B' : Nat} {A : Option Addr} {n : Nat} {l : List Pr} (h : RdP w B A n l) (hb : B ≤ B') : RdP w B' A n l := by
  refine ⟨h.1, ?_⟩
  rcases h.2 with h0 | ⟨b, off, rfl, hlt, hc⟩
  · exact .inl h0
  · refine .inr ⟨b, off, rfl, by omega, fun i x hx => ?_⟩
    obtain ⟨h1, RA, c, h2, h3, h4⟩ := hc i x hx
    exact ⟨h1, RA, c, h2, h3.mono hb, h4⟩
theorem RdP.get {w : World} {B : Nat} {A : Option Addr} {n : Nat} {l : List Pr} (h : RdP w B A n l) {i : Nat} {p : Pr} (hi : l[i]? = some p) :
    ∃ b off, A = some ⟨b, off, none⟩ ∧ b < B ∧ w.cell? ⟨b, off + i * 2, none⟩ = some (.int .i64 p.left) ∧
      ∃ RA c, w.cell? ⟨b, off + i * 2 + 1, none⟩ = some (.slice RA p.right.length c) ∧ Rd1 w B RA p.right.length (ints p.right) ∧ p.right.length ≤ c ∧ c ≤ maxLen := by
  have hlt := (List.getElem?_eq_some_iff.1 hi).1
  rcases h.2 with h0 | ⟨b, off, rfl, hb, hc⟩
  · have := h.1; omega
  · exact ⟨b, off, rfl, hb, hc i p hi⟩
structure GA where
  ta : Option Addr
  tc : Nat
  na : Option Addr
  nc : Nat
  pa : Option Addr
  pc : Nat
abbrev gcells (g : Gr) (a : GA) : Array Value := #[.int .i64 g.k, .slice a.ta g.toks.length a.tc, .string g.sep, .slice a.na g.names.length a.nc, .int .i64 g.start, .slice a.pa g.prods.length a.pc]
abbrev gval (g : Gr) (a : GA) : Value := .agg (gcells g a)
structure GrAt (w : World) (B : Nat) (g : Gr) (a : GA) : Prop where
  toks : Rd1 w B a.ta g.toks.length (strs g.toks)
  tc : g.toks.length ≤ a.tc
  tm : a.tc ≤ maxLen
  names : Rd1 w B a.na g.names.length (strs g.names)
  nc : g.names.length ≤ a.nc
  nm : a.nc ≤ maxLen
  prods : RdP w B a.pa g.prods.length g.prods
  pc : g.prods.length ≤ a.pc
  pm : a.pc ≤ maxLen
  sep : g.sep.size ≤ maxLen
  ts : ∀ s ∈ g.toks, s.size ≤ maxLen
  ns : ∀ s ∈ g.names, s.size ≤ maxLen
theorem GrAt.below {w w' : World} {B : Nat} {g : Gr} {a : GA} (h : GrAt w B g a) (hb : Below B w w') : GrAt w' B g a :=
  ⟨h.toks.below hb, h.tc, h.tm, h.names.below hb, h.nc, h.nm, h.prods.below hb, h.pc, h.pm, h.sep, h.ts, h.ns⟩
theorem GrAt.mono {w : World} {B B' : Nat} {g : Gr} {a : GA} (h : GrAt w B g a) (hb : B ≤ B') : GrAt w B' g a :=
  ⟨h.toks.mono hb, h.tc, h.tm, h.names.mono hb, h.nc, h.nm, h.prods.mono hb, h.pc, h.pm, h.sep, h.ts, h.ns⟩
theorem GrAt.step {w w' : World} {g : Gr} {a : GA} (h : GrAt w w.heap.size g a) (hb : Below w.heap.size w w') : GrAt w' w'.heap.size g a := (h.below hb).mono hb.size
end Go.Proofs.YtjnmkdahbcmfaaaGreat

/- append, on slices of the call's own of one-cell values. -/
namespace Go.Proofs.YtjnmkdahbcmfaaaGreat
open Go.ChangeShapes Go.WideShapes Go.ChangeAt Go.RowKit
set_option linter.unusedVariables false
def Own1 (w : World) (base : Nat) (e : TypeId) (v : Value) (vs : List Value) : Prop := w.ownsRow base e 1 v vs.length vs
theorem Own1.nil (w : World) (base : Nat) (e : TypeId) : Own1 w base e (.slice none 0 0) [] := World.ownsRow_nil w base e 1
theorem Own1.alloc {w : World} {base : Nat} {e : TypeId} {v : Value} {l : List Value} (h : Own1 w base e v l) (o : Obj) : Own1 (w.alloc o) base e v l := World.ownsRow.alloc h o
theorem Own1.empty (w : World) (base : Nat) (e : TypeId) (h : base ≤ w.heap.size) : Own1 (w.alloc (.cells #[] e)) base e (.slice (some ⟨w.heap.size, 0, none⟩) 0 0) [] :=
  ⟨rfl, .inr ⟨w.heap.size, 0, #[], rfl, h, heap_alloc_new w _, Nat.le_refl _, by simp [maxLen], rfl, rfl⟩⟩
theorem Own1.step {w w' : World} {base : Nat} {e : TypeId} {v : Value} {l : List Value} (h : Own1 w base e v l) (hb : Below w.heap.size w w') : Own1 w' base e v l := by
  refine ⟨h.1, ?_⟩
  rcases h.2 with hn | ⟨g, cap, cur, rfl, hg0, hg, rest⟩
  · exact .inl hn
  · exact .inr ⟨g, cap, cur, rfl, hg0, (hb.block g (Array.getElem?_eq_some_iff.1 hg).1).trans hg, rest⟩
theorem Own1.mono {w : World} {base b' : Nat} {e : TypeId} {v : Value} {l : List Value} (h : Own1 w base e v l) (hb : b' ≤ base) : Own1 w b' e v l := by
  refine ⟨h.1, ?_⟩
  rcases h.2 with hn | ⟨g, cap, cur, rfl, hg0, hg, rest⟩
  · exact .inl hn
  · exact .inr ⟨g, cap, cur, rfl, by omega, hg, rest⟩
theorem Own1.reads {w : World} {base : Nat} {e : TypeId} {v : Value} {l : List Value} (h : Own1 w base e v l) : ∃ A c, v = .slice A l.length c ∧ Rd1 w w.heap.size A l.length l ∧ l.length ≤ c ∧ c ≤ maxLen ∧ (∀ a, A = some a → base ≤ a.block) := by
  rcases h.2 with ⟨rfl, h0⟩ | ⟨g, cap, cur, rfl, hb, hg, hnc, hcm, hcs, ht⟩
  · refine ⟨none, 0, by rw [h0], ⟨rfl, .inl h0⟩, by omega, by simp [maxLen], by simp⟩
  · refine ⟨some ⟨g, 0, none⟩, cap, rfl, ⟨rfl, ?_⟩, hnc, hcm, by simp; exact hb⟩
    refine .inr ⟨g, 0, rfl, (Array.getElem?_eq_some_iff.1 hg).1, fun i x hx => ?_⟩
    have hlt := (List.getElem?_eq_some_iff.1 hx).1
    rw [← ht, List.getElem?_take, if_pos (by omega)] at hx
    rw [cell_of_row w g _ cur e (0, 0) hg, Nat.zero_add]
    simpa using hx
section
variable (w : World) {P : Program} {ops : Array Oper} {rest : List Oper} {o : Oper} {a : Act} {K : Act → World → Prop} {Q : Exit → Act → World → Prop} {E : Prop}
theorem step_of_wp (hgd : o.guard = none) (h : Oper.wp P o a w K Q) : if Region.wanted o (yielded ops a.tmps) = true then Oper.wp P o a w K Q else E := by
  have hw : Region.wanted o (yielded ops a.tmps) = true := by simp [Region.wanted, hgd]
  rw [if_pos hw]
  exact h
theorem wp_join1 (s x : Operand) (t : TypeId) (ho : o.op = .call { callee := .builtin .append, args := #[s, x], argTypes := #[t, t] })
    (base : Nat) (e : TypeId) (z : Value) (bytes : Nat) (ht : P.underlying t = some (.slice e)) (hi : (P.info? e).map (fun i => (i.zero, i.size, i.bytes)) = some (some z, 1, bytes)) (hzs : z.cells.size = 1)
    (v : Value) (l : List Value) (hs : a.eval s = v) (hown : Own1 w base e v l) (B : Nat) (A : Option Addr) (m c : Nat) (k : List Value) (hx : a.eval x = .slice A m c) (hr : Rd1 w B A m k) (h1 : ∀ u ∈ k, u.oneCell' = true)
    (h63 : l.length + m ≤ 1000000) (hbytes : bytes ≤ 1000000) (hbase : base ≤ w.heap.size)
    (h : ∀ v' w', Own1 w' base e v' (l ++ k) → w.grownBy w' v.ownBlock → (v'.ownBlock = v.ownBlock ∨ v'.ownBlock = some w.heap.size) → (∀ W0, Below base W0 w → Below base W0 w') → K (a.put o.dst v') w') : Oper.wp P o a w K Q := by
  obtain ⟨i0, hi0, hz0, hz1, hz2⟩ := info_parts hi
  rcases A with _ | ad
  · have hm : m = 0 := by
      rcases hr.2 with h0 | ⟨_, _, h0, _⟩
      · exact h0
      · cases h0
    subst hm
    have hk : k = [] := List.eq_nil_of_length_eq_zero hr.1
    subst hk
    have hrun : (Builtin.append_ #[t, t] o.type #[v, .slice none 0 c]).run P w = .ok v w := by
      rcases hown.2 with ⟨rfl, _⟩ | ⟨g, cap, cur, rfl, _, _, hnc, _⟩
      · simp [Builtin.append_, run_underlying ht, sizeOf, typeInfo, hi0, Builtin.lenOf, Builtin.firstCells]
      · simp [Builtin.append_, run_underlying ht, sizeOf, typeInfo, hi0, Builtin.lenOf, Builtin.firstCells, hnc, storeCells]
    unfold Oper.wp execOp
    simp only [ho, resolve, invoke, builtin, Sem.run_bind, Sem.run_pure, Result.andThen_ok, List.map_toArray, List.map_cons, List.map_nil, hs, hx, hrun]
    exact h v w (by simpa using hown) (World.grownBy.refl w _) (.inl rfl) fun _ h => h
  · have hnews : ∀ j u, k[j]? = some u → w.cell? (ad.add j) = some u := by
      intro j u hu
      have hlt := (List.getElem?_eq_some_iff.1 hu).1
      rcases hr.2 with h0 | ⟨b, off, h0, _, hc⟩
      · have := hr.1; omega
      · cases h0
        have hadd : (⟨b, off, none⟩ : Addr).add j = ⟨b, off + j, none⟩ := by unfold Addr.add; split <;> simp_all
        rw [hadd]
        exact hc j u hu
    have hb2 := Nat.mul_le_mul h63 hbytes
    obtain ⟨v', w', hrun, h2, h3, h4, h5⟩ := run_append_own_at (P := P) w base t o.type e i0 z 1 bytes ht hi0 hz0 hz1 hz2 hzs (by omega) v l.length l hown ad m c k (by rw [hr.1]; omega) hnews h1 (by unfold maxLen; omega) (by omega) hbase
    unfold Oper.wp execOp
    simp only [ho, resolve, invoke, builtin, Sem.run_bind, Sem.run_pure, Result.andThen_ok, List.map_toArray, List.map_cons, List.map_nil, hs, hx, hrun]
    refine h v' w' ?_ h3 h5 fun W0 hB => hB.grown h3 hbase (fun k hk => (own_in hown k hk).1)
    unfold Own1
    rw [List.length_append, hr.1]
    exact h2
theorem wpList_join1 (hgd : o.guard = none) (s x : Operand) (t : TypeId) (ho : o.op = .call { callee := .builtin .append, args := #[s, x], argTypes := #[t, t] })
    (base : Nat) (e : TypeId) (z : Value) (bytes : Nat) (ht : P.underlying t = some (.slice e)) (hi : (P.info? e).map (fun i => (i.zero, i.size, i.bytes)) = some (some z, 1, bytes)) (hzs : z.cells.size = 1)
    (v : Value) (l : List Value) (hs : a.eval s = v) (hown : Own1 w base e v l) (B : Nat) (A : Option Addr) (m c : Nat) (k : List Value) (hx : a.eval x = .slice A m c) (hr : Rd1 w B A m k) (h1 : ∀ u ∈ k, u.oneCell' = true)
    (h63 : l.length + m ≤ 1000000) (hbytes : bytes ≤ 1000000) (hbase : base ≤ w.heap.size)
    (h : ∀ v' w', Own1 w' base e v' (l ++ k) → w.grownBy w' v.ownBlock → (v'.ownBlock = v.ownBlock ∨ v'.ownBlock = some w.heap.size) → (∀ W0, Below base W0 w → Below base W0 w') → wpList P ops Q rest (a.put o.dst v') w') : wpList P ops Q (o :: rest) a w :=
  wpList_plain hgd fun _ hK => wp_join1 w s x t ho base e z bytes ht hi hzs v l hs hown B A m c k hx hr h1 h63 hbytes hbase fun v' w' a b c d => hK _ _ (h v' w' a b c d)
theorem rd_blk {w : World} {g : Nat} {e : TypeId} {k : Value} (hb : Blk w g e #[k]) : Rd1 w w.heap.size (some ⟨g, 0, none⟩) 1 [k] := by
  refine ⟨rfl, .inr ⟨g, 0, rfl, hb.lt, fun i x hx => ?_⟩⟩
  have : i = 0 := by have := (List.getElem?_eq_some_iff.1 hx).1; simp at this; omega
  subst this
  rw [hb.cell]
  simpa using hx
end
theorem under22 : Tryz.prog.underlying 54 = some (.slice 3) := by kernel_rfl
end Go.Proofs.YtjnmkdahbcmfaaaGreat

/- The reference 09: prods, named. -/
namespace Go.Proofs.YtjnmkdahbcmfaaaGreat
open Go.ChangeShapes Go.WideShapes Go.ChangeAt Go.RowKit
set_option linter.unusedVariables false
theorem Own1.drew {w : World} {base : Nat} {e : TypeId} {v : Value} {l : List Value} (h : Own1 w base e v l) : Own1 w.drew base e v l := h
def SN (w w0 : World) (g : Gr) (a : GA) (w' : World) : Prop := Blk w' w.heap.size 25 (gcells g a) ∧ GrAt w' w.heap.size g a ∧ Below w.heap.size w w' ∧ Below w.heap.size w0 w'
theorem SN.drew {w w0 : World} {g : Gr} {a : GA} {w' : World} (h : SN w w0 g a w') : SN w w0 g a w'.drew := ⟨h.1, h.2.1.below (Below.refl _ _).drew, h.2.2.1.drew, h.2.2.2.drew⟩
theorem SN.alloc {w w0 : World} {g : Gr} {a : GA} {w' : World} (h : SN w w0 g a w') (o : Obj) : SN w w0 g a (w'.alloc o) :=
  ⟨h.1.alloc o, h.2.1.below ((Below.refl _ _).alloc h.2.2.1.size o), bAlc h.2.2.1 o, h.2.2.2.alloc h.2.2.1.size o⟩
theorem SN.grown {w w0 : World} {g : Gr} {a : GA} {w' w1 : World} {v : Value} (h : SN w w0 g a w') (hg : w'.grownBy w1 v.ownBlock) (hv : ∀ k, v.ownBlock = some k → w.heap.size < k) : SN w w0 g a w1 := by
  have hr : ∀ k, v.ownBlock = some k → w.heap.size ≤ k := fun k hk => by have := hv k hk; omega
  exact ⟨h.1.grown hg (fun e => by have := hv _ e.symm; omega), h.2.1.below ((Below.refl _ _).grown hg h.2.2.1.size hr), h.2.2.1.grown hg h.2.2.1.size hr, h.2.2.2.grown hg h.2.2.1.size hr⟩
theorem SN.all {w w0 : World} {g : Gr} {a : GA} {w' : World} (h : SN w w0 g a w') : w'.cell? ⟨w.heap.size, 1, none⟩ = some (.slice a.ta g.toks.length a.tc) ∧ w'.cell? ⟨w.heap.size, 2, none⟩ = some (.string g.sep) ∧ SN w w0 g a w' :=
  ⟨h.1.cell 1, h.1.cell 2, h⟩
theorem SN.size {w w0 : World} {g : Gr} {a : GA} {w' : World} (h : SN w w0 g a w') : w.heap.size < w'.heap.size := h.1.lt
end Go.Proofs.YtjnmkdahbcmfaaaGreat

/- The reference 09: symbols, Check. -/
namespace Go.Proofs.YtjnmkdahbcmfaaaGreat
open Go.ChangeShapes Go.WideShapes Go.ChangeAt Go.RowKit
set_option linter.unusedVariables false
def GB (w : World) (g : Gr) (a : GA) (W : World) : Prop := Blk W w.heap.size 25 (gcells g a) ∧ GrAt W w.heap.size g a ∧ Below w.heap.size w W
theorem GB.start {w : World} {g : Gr} {a : GA} (h : GrAt w w.heap.size g a) : GB w g a (w.alloc (.cells (gcells g a) 25)) :=
  ⟨Blk.new w 25 _, h.below (bAlc (Below.refl w.heap.size w) _), bAlc (Below.refl w.heap.size w) _⟩
theorem GB.step {w : World} {g : Gr} {a : GA} {W W1 : World} (h : GB w g a W) (hb : Below W.heap.size W W1) : GB w g a W1 :=
  ⟨h.1.step hb, h.2.1.below (hb.mono h.2.2.size), bStep h.2.2 hb⟩
theorem GB.alloc {w : World} {g : Gr} {a : GA} {W : World} (h : GB w g a W) (o : Obj) : GB w g a (W.alloc o) := h.step ((Below.refl _ _).alloc (Nat.le_refl _) o)
theorem GB.drewN {w : World} {g : Gr} {a : GA} {W : World} (h : GB w g a W) (n : Nat) : GB w g a (W.drewN n) := h.step (bDrwN' W n)
theorem GB.lt {w : World} {g : Gr} {a : GA} {W : World} (h : GB w g a W) : w.heap.size < W.heap.size := h.1.lt
theorem GB.far {w : World} {g : Gr} {a : GA} {W : World} (h : GB w g a W) (p : Addr) (v : Value) (hp : w.heap.size < p.block) : GB w g a (W.setCell p v) :=
  ⟨h.1.far (by omega) v, h.2.1.below ((Below.refl _ _).setCell (by omega) v), bSet h.2.2 p v (by omega)⟩
theorem GB.cells {w : World} {g : Gr} {a : GA} {W : World} (h : GB w g a W) : W.cell? ⟨w.heap.size, 0, none⟩ = some (.int .i64 g.k) ∧ W.cell? ⟨w.heap.size, 1, none⟩ = some (.slice a.ta g.toks.length a.tc) ∧ W.cell? ⟨w.heap.size, 2, none⟩ = some (.string g.sep) ∧
    W.cell? ⟨w.heap.size, 3, none⟩ = some (.slice a.na g.names.length a.nc) ∧ W.cell? ⟨w.heap.size, 4, none⟩ = some (.int .i64 g.start) ∧ W.cell? ⟨w.heap.size, 5, none⟩ = some (.slice a.pa g.prods.length a.pc) :=
  ⟨h.1.cell 0, h.1.cell 1, h.1.cell 2, h.1.cell 3, h.1.cell 4, h.1.cell 5⟩
end Go.Proofs.YtjnmkdahbcmfaaaGreat

/- Helpers that make walks short. -/
namespace Go.Proofs.YtjnmkdahbcmfaaaGreat
open Go.ChangeShapes Go.WideShapes Go.ChangeAt Go.RowKit
set_option linter.unusedVariables false
theorem opq {P : Program} {f : FuncId} {args : Array Value} {w : World} {Q : Ending → World → Prop} (h : ∀ RR : Ending → World → Prop, Hid (∀ e w', Q e w' → RR e w') → Calls P f args w RR) : Calls P f args w Q := h Q (Lib.hid fun _ _ h => h)
theorem bel {p : Prop} (h : p := by repeat (first | assumption | exact Below.refl _ _ | (refine bStep ?_ (by assumption)) | (with_reducible refine bAlc ?_ _) | (with_reducible refine bDrw ?_))) : p := h
theorem Blk.c {W : World} {g : Nat} {t : TypeId} {cs : Array Value} (q : Blk W g t cs) (i : Nat) {v : Value} (h : cs[i]? = some v := by rfl) : W.cell? ⟨g, i, none⟩ = some v := (q.cell i).trans h
theorem GB.fr {w : World} {g : Gr} {a : GA} (h : GrAt w w.heap.size g a) : Hid (∀ X, Below (w.alloc (.cells (gcells g a) 25)).heap.size (w.alloc (.cells (gcells g a) 25)) X → GB w g a X) := Lib.hid fun X hb => (GB.start h).step hb
theorem GB.at {w : World} {g : Gr} {a : GA} {W : World} (h : GB w g a W) : GrAt W W.heap.size g a := h.2.1.mono h.2.2.size
end Go.Proofs.YtjnmkdahbcmfaaaGreat

/- The kit: Mod, At, OwnTexts, OwnInts. -/
namespace Go.Proofs.YtjnmkdahbcmfaaaGreat
open Go.ChangeShapes Go.WideShapes Go.ChangeAt Go.RowKit
set_option linter.unusedVariables false
theorem mod_lo (a m : Int) (hm : 0 < m) (h : a.tmod m < 0) : a.tmod m + m = a % m := by
  have h1 := (Int.tmod_eq_emod : a.tmod m = _)
  have h2 := Int.emod_nonneg a (by omega : m ≠ 0)
  have h3 := Int.emod_lt_of_pos a hm
  split at h1 <;> omega
theorem mod_hi (a m : Int) (hm : 0 < m) (h : ¬ a.tmod m < 0) : a.tmod m = a % m := by
  have h1 := (Int.tmod_eq_emod : a.tmod m = _)
  have h2 := Int.emod_nonneg a (by omega : m ≠ 0)
  have h3 := Int.emod_lt_of_pos a hm
  split at h1 <;> omega
theorem mod_bd (a m : Int) (hm : 0 < m) : -m < a.tmod m ∧ a.tmod m < m := by
  have h1 := (Int.tmod_eq_emod : a.tmod m = _)
  have h2 := Int.emod_nonneg a (by omega : m ≠ 0)
  have h3 := Int.emod_lt_of_pos a hm
  split at h1 <;> omega
set_option maxHeartbeats 400000 in
theorem mod_any (a m : Int) (w : World) (wa : (Lit.int .i64 a).wf = true) (h1 : 1 ≤ m) (h2 : m ≤ 1099511627776) :
    Calls Tryz.prog 7 #[.int .i64 a, .int .i64 m] w fun e w' => e = .returned (.int .i64 (a % m)) ∧ w = w' := by
  have hb := mod_bd a m (by omega)
  have hne : ¬ m = 0 := by omega
  have hnb : (m == 0) = false := by simpa using hne
  by_cases h : a.tmod m < 0
  · have hL := Lib.hid (mod_lo a m (by omega) h)
    go_enter Tryz.func7, Tryz.ntmps7
    go_wp2_with fail
    go_ret
    exact ⟨ret_int hL.out, rfl⟩
  · have hL := Lib.hid (mod_hi a m (by omega) h)
    go_enter Tryz.func7, Tryz.ntmps7
    go_wp2_with fail
    go_ret
    exact ⟨ret_int hL.out, rfl⟩
end Go.Proofs.YtjnmkdahbcmfaaaGreat

/- bound and its reference over a compiled grammar, at depths and bytes of whatever size: the walks. -/
namespace Go.Proofs.YtjnmkdahbcmfaaaGreat
open Go.ChangeShapes Go.WideShapes Go.ChangeAt Go.RowKit
set_option linter.unusedVariables false
def xv (k : Int) (a1 a2 : Value) (A : Option Addr) (n c : Nat) (a4 a5 a6 : Value) (s : ByteArray) : Value := .agg #[.int .i64 k, a1, a2, .slice A n c, a4, a5, a6, .string s]
def Ret1 (w : World) (e0 : Int) (e : Ending) (w' : World) : Prop := e = .returned (.int .i64 e0) ∧ Below w.heap.size w w'
def Ret2 (w : World) (a b : Int) (e : Ending) (w' : World) : Prop := e = .returned (.tuple #[.int .i64 a, .int .i64 b]) ∧ Below w.heap.size w w'
def dOK (d : Int) : Int := if d < 1 ∨ 64 < d then 21 else 0
section
variable (k : Int) (a1 a2 : Value) (A : Option Addr) (n c : Nat) (a4 a5 a6 : Value) (s : ByteArray)
set_option maxHeartbeats 2000000 in
theorem checked_err (e0 d : Int) (he : e0 ≠ 0) (w : World) (hC : ∀ W, Below w.heap.size w W → Calls Tryz.prog 23 #[xv k a1 a2 A n c a4 a5 a6 s] W (Ret1 W e0)) :
    Calls Tryz.prog 31 #[xv k a1 a2 A n c a4 a5 a6 s, .int .i64 d] w (Ret1 w e0) := by
  refine opq fun RR hR => ?_
  have hC' := Lib.hid (hC _ (bAlc (Below.refl w.heap.size w) (.cells #[.int .i64 k, a1, a2, .slice A n c, a4, a5, a6, .string s] 28)))
  have hb0 : Below w.heap.size w (w.alloc (.cells #[.int .i64 k, a1, a2, .slice A n c, a4, a5, a6, .string s] 28)) := bAlc (Below.refl _ _) _
  have hz : (e0 != 0) = true := by simp [he]
  clear hC
  unfold xv at *
  go_enter Tryz.func31, Tryz.ntmps31
  go_wp2_with (go_at_call 23; refine hC'.out.mono ?_; rintro e w2 ⟨rfl, hb2⟩)
  exact hR.out _ _ ⟨rfl, bStep hb0 hb2⟩
set_option maxHeartbeats 2000000 in
theorem checked_ok (d : Int) (w : World) (hC : ∀ W, Below w.heap.size w W → Calls Tryz.prog 23 #[xv k a1 a2 A n c a4 a5 a6 s] W (Ret1 W 0)) :
    Calls Tryz.prog 31 #[xv k a1 a2 A n c a4 a5 a6 s, .int .i64 d] w (Ret1 w (dOK d)) := by
  refine opq fun RR hR => ?_
  have hC' := Lib.hid (hC _ (bAlc (Below.refl w.heap.size w) (.cells #[.int .i64 k, a1, a2, .slice A n c, a4, a5, a6, .string s] 28)))
  have hb0 : Below w.heap.size w (w.alloc (.cells #[.int .i64 k, a1, a2, .slice A n c, a4, a5, a6, .string s] 28)) := bAlc (Below.refl _ _) _
  clear hC
  unfold xv at *
  by_cases h1 : d < 1
  · have hd : dOK d = 21 := by unfold dOK; rw [if_pos (.inl h1)]
    rw [hd] at hR
    clear hd
    go_enter Tryz.func31, Tryz.ntmps31
    go_wp2_with (go_at_call 23; refine hC'.out.mono ?_; rintro e w2 ⟨rfl, hb2⟩)
    exact hR.out _ _ ⟨rfl, bStep hb0 hb2⟩
  by_cases h2 : 64 < d
  · have hd : dOK d = 21 := by unfold dOK; rw [if_pos (.inr h2)]
    rw [hd] at hR
    clear hd
    go_enter Tryz.func31, Tryz.ntmps31
    go_wp2_with (go_at_call 23; refine hC'.out.mono ?_; rintro e w2 ⟨rfl, hb2⟩)
    exact hR.out _ _ ⟨rfl, bStep hb0 hb2⟩
  · have hd : dOK d = 0 := by unfold dOK; rw [if_neg (by omega)]
    rw [hd] at hR
    clear hd
    go_enter Tryz.func31, Tryz.ntmps31
    go_wp2_with (go_at_call 23; refine hC'.out.mono ?_; rintro e w2 ⟨rfl, hb2⟩)
    exact hR.out _ _ ⟨rfl, bStep hb0 hb2⟩
set_option maxHeartbeats 2000000 in
theorem work_err (e0 d : Int) (he : e0 ≠ 0) (w : World) (hC : ∀ W, Below w.heap.size w W → Calls Tryz.prog 31 #[xv k a1 a2 A n c a4 a5 a6 s, .int .i64 d] W (Ret1 W e0)) :
    Calls Tryz.prog 12 #[xv k a1 a2 A n c a4 a5 a6 s, .int .i64 d] w (Ret2 w 0 e0) := by
  refine opq fun RR hR => ?_
  have hC' := Lib.hid (hC _ (bAlc (Below.refl w.heap.size w) (.cells #[.int .i64 k, a1, a2, .slice A n c, a4, a5, a6, .string s] 28)))
  have hb0 : Below w.heap.size w (w.alloc (.cells #[.int .i64 k, a1, a2, .slice A n c, a4, a5, a6, .string s] 28)) := bAlc (Below.refl _ _) _
  have hz : (e0 != 0) = true := by simp [he]
  clear hC
  unfold xv at *
  go_enter Tryz.func12, Tryz.ntmps12
  go_wp2_with (go_at_call 31; refine hC'.out.mono ?_; rintro e w2 ⟨rfl, hb2⟩)
  exact hR.out _ _ ⟨rfl, bStep hb0 hb2⟩
set_option maxHeartbeats 2000000 in
theorem image_err (e0 d : Int) (he : e0 ≠ 0) (w : World) (hC : ∀ W, Below w.heap.size w W → Calls Tryz.prog 31 #[xv k a1 a2 A n c a4 a5 a6 s, .int .i64 d] W (Ret1 W e0)) :
    Calls Tryz.prog 16 #[xv k a1 a2 A n c a4 a5 a6 s, .int .i64 d] w (Ret2 w 0 e0) := by
  refine opq fun RR hR => ?_
  have hb0 : Below w.heap.size w ((w.alloc (.cells #[.int .i64 k, a1, a2, .slice A n c, a4, a5, a6, .string s] 28)).alloc (.cells #[.int .i64 d] 3)) := bAlc (bAlc (Below.refl _ _) _) _
  have hC' := Lib.hid (hC _ hb0)
  have hz : (e0 != 0) = true := by simp [he]
  clear hC
  unfold xv at *
  go_enter Tryz.func16, Tryz.ntmps16
  go_wp2_with (go_at_call 31; refine hC'.out.mono ?_; rintro e w2 ⟨rfl, hb2⟩)
  exact hR.out _ _ ⟨rfl, bStep hb0 hb2⟩
def feedA (w0 e0 b : Int) : Int := if e0 ≠ 0 then 0 else if b < 0 ∨ 20000 < b then 0 else (b + 1) * w0
def feedE (e0 b : Int) : Int := if e0 ≠ 0 then e0 else if b < 0 ∨ 20000 < b then 2 else 0
set_option maxHeartbeats 2000000 in
theorem feed_any (w0 e0 d b : Int) (hw0 : 0 ≤ w0) (hw1 : w0 ≤ 1000000) (w : World) (hC : ∀ W, Below w.heap.size w W → Calls Tryz.prog 12 #[xv k a1 a2 A n c a4 a5 a6 s, .int .i64 d] W (Ret2 W w0 e0)) :
    Calls Tryz.prog 14 #[xv k a1 a2 A n c a4 a5 a6 s, .int .i64 d, .int .i64 b] w (Ret2 w (feedA w0 e0 b) (feedE e0 b)) := by
  refine opq fun RR hR => ?_
  have hb0 : Below w.heap.size w (w.alloc (.cells #[.int .i64 k, a1, a2, .slice A n c, a4, a5, a6, .string s] 28)) := bAlc (Below.refl _ _) _
  have hC' := Lib.hid (hC _ hb0)
  clear hC
  unfold xv at *
  by_cases he : e0 = 0
  · subst he
    by_cases h1 : b < 0
    · rw [show feedA w0 0 b = 0 by unfold feedA; simp [h1], show feedE 0 b = 2 by unfold feedE; simp [h1]] at hR
      go_enter Tryz.func14, Tryz.ntmps14
      go_wp2_with (go_at_call 12; refine hC'.out.mono ?_; rintro e w2 ⟨rfl, hb2⟩)
      exact hR.out _ _ ⟨rfl, bStep hb0 hb2⟩
    by_cases h2 : 20000 < b
    · rw [show feedA w0 0 b = 0 by unfold feedA; simp [h2], show feedE 0 b = 2 by unfold feedE; simp [h2]] at hR
      go_enter Tryz.func14, Tryz.ntmps14
      go_wp2_with (go_at_call 12; refine hC'.out.mono ?_; rintro e w2 ⟨rfl, hb2⟩)
      exact hR.out _ _ ⟨rfl, bStep hb0 hb2⟩
    · rw [show feedA w0 0 b = (b + 1) * w0 by unfold feedA; simp [h1, h2], show feedE 0 b = 0 by unfold feedE; simp [h1, h2]] at hR
      have hm1 : 0 ≤ (b + 1) * w0 := Int.mul_nonneg (by omega) hw0
      have hm2 : (b + 1) * w0 ≤ 20001 * 1000000 := Int.mul_le_mul (by omega) hw1 hw0 (by omega)
      have hwr1 : IntKind.i64.wrap (b + 1) = b + 1 := IntWalk.i64_in _ (by omega)
      have hwr2 : IntKind.i64.wrap ((b + 1) * w0) = (b + 1) * w0 := IntWalk.i64_in _ (by omega)
      go_enter Tryz.func14, Tryz.ntmps14
      go_wp2_with (go_at_call 12; refine hC'.out.mono ?_; rintro e w2 ⟨rfl, hb2⟩)
      exact hR.out _ _ ⟨rfl, bStep hb0 hb2⟩
  · have hz : (e0 != 0) = true := by simp [he]
    rw [show feedA w0 e0 b = 0 by unfold feedA; simp [he], show feedE e0 b = e0 by unfold feedE; simp [he]] at hR
    go_enter Tryz.func14, Tryz.ntmps14
    go_wp2_with (go_at_call 12; refine hC'.out.mono ?_; rintro e w2 ⟨rfl, hb2⟩)
    exact hR.out _ _ ⟨rfl, bStep hb0 hb2⟩
end
end Go.Proofs.YtjnmkdahbcmfaaaGreat

/- the reference of bound over a compiled grammar, at depths and bytes of whatever size: the walks. -/
namespace Go.Proofs.YtjnmkdahbcmfaaaGreat
open Go.ChangeShapes Go.WideShapes Go.ChangeAt Go.RowKit
set_option linter.unusedVariables false
section
variable (k : Int) (a1 a2 : Value) (A : Option Addr) (n c : Nat) (a4 a5 a6 : Value) (s : ByteArray)
set_option maxHeartbeats 2000000 in
theorem rwork_err (ea e1 d : Int) (he : e1 ≠ 0 ∨ dOK d ≠ 0) (w : World) (hC : ∀ W, Below w.heap.size w W → Calls Tryz.prog 9 #[xv k a1 a2 A n c a4 a5 a6 s] W (Ret2 W ea e1)) :
    Calls Tryz.prog 13 #[xv k a1 a2 A n c a4 a5 a6 s, .int .i64 d] w (Ret2 w 0 (if e1 ≠ 0 then e1 else 21)) := by
  refine opq fun RR hR => ?_
  have hC' := Lib.hid (hC _ (bAlc (Below.refl w.heap.size w) (.cells #[.int .i64 k, a1, a2, .slice A n c, a4, a5, a6, .string s] 28)))
  have hb0 : Below w.heap.size w (w.alloc (.cells #[.int .i64 k, a1, a2, .slice A n c, a4, a5, a6, .string s] 28)) := bAlc (Below.refl _ _) _
  clear hC
  unfold xv at *
  by_cases h0 : e1 = 0
  · subst h0
    have hd : d < 1 ∨ 64 < d := by
      rcases he with he | he
      · exact absurd rfl he
      · unfold dOK at he
        by_cases h : d < 1 ∨ 64 < d
        · exact h
        · rw [if_neg h] at he; exact absurd rfl he
    rw [if_neg (by simp)] at hR
    clear he
    by_cases h1 : d < 1
    · go_enter Tryz.func13, Tryz.ntmps13
      go_wp2_with (go_at_call 9; refine hC'.out.mono ?_; rintro e w2 ⟨rfl, hb2⟩)
      exact hR.out _ _ ⟨rfl, bStep hb0 hb2⟩
    · have h2 : 64 < d := hd.resolve_left h1
      clear hd
      go_enter Tryz.func13, Tryz.ntmps13
      go_wp2_with (go_at_call 9; refine hC'.out.mono ?_; rintro e w2 ⟨rfl, hb2⟩)
      exact hR.out _ _ ⟨rfl, bStep hb0 hb2⟩
  · rw [if_pos h0] at hR
    have hz : (e1 == 0) = false := by simp [h0]
    have hz2 : (e1 != 0) = true := by simp [h0]
    clear he h0
    go_enter Tryz.func13, Tryz.ntmps13
    go_wp2_with (go_at_call 9; refine hC'.out.mono ?_; rintro e w2 ⟨rfl, hb2⟩)
    exact hR.out _ _ ⟨rfl, bStep hb0 hb2⟩
set_option maxHeartbeats 2000000 in
theorem rimage_err (w0 e0 d : Int) (he : e0 ≠ 0) (w : World) (hC : ∀ W, Below w.heap.size w W → Calls Tryz.prog 13 #[xv k a1 a2 A n c a4 a5 a6 s, .int .i64 d] W (Ret2 W w0 e0)) :
    Calls Tryz.prog 17 #[xv k a1 a2 A n c a4 a5 a6 s, .int .i64 d] w (Ret2 w 0 e0) := by
  refine opq fun RR hR => ?_
  have hC' := Lib.hid (hC _ (bAlc (Below.refl w.heap.size w) (.cells #[.int .i64 k, a1, a2, .slice A n c, a4, a5, a6, .string s] 28)))
  have hb0 : Below w.heap.size w (w.alloc (.cells #[.int .i64 k, a1, a2, .slice A n c, a4, a5, a6, .string s] 28)) := bAlc (Below.refl _ _) _
  have hz : (e0 != 0) = true := by simp [he]
  clear hC
  unfold xv at *
  go_enter Tryz.func17, Tryz.ntmps17
  go_wp2_with (go_at_call 13; refine hC'.out.mono ?_; rintro e w2 ⟨rfl, hb2⟩)
  exact hR.out _ _ ⟨rfl, bStep hb0 hb2⟩
set_option maxHeartbeats 2000000 in
theorem rfeed_any (w0 e0 d b : Int) (hw0 : 0 ≤ w0) (hw1 : w0 ≤ 1000000) (w : World) (hC : ∀ W, Below w.heap.size w W → Calls Tryz.prog 13 #[xv k a1 a2 A n c a4 a5 a6 s, .int .i64 d] W (Ret2 W w0 e0)) :
    Calls Tryz.prog 15 #[xv k a1 a2 A n c a4 a5 a6 s, .int .i64 d, .int .i64 b] w (Ret2 w (feedA w0 e0 b) (feedE e0 b)) := by
  refine opq fun RR hR => ?_
  have hb0 : Below w.heap.size w (w.alloc (.cells #[.int .i64 k, a1, a2, .slice A n c, a4, a5, a6, .string s] 28)) := bAlc (Below.refl _ _) _
  have hC' := Lib.hid (hC _ hb0)
  clear hC
  unfold xv at *
  by_cases he : e0 = 0
  · subst he
    by_cases h1 : b < 0
    · rw [show feedA w0 0 b = 0 by unfold feedA; simp [h1], show feedE 0 b = 2 by unfold feedE; simp [h1]] at hR
      go_enter Tryz.func15, Tryz.ntmps15
      go_wp2_with (go_at_call 13; refine hC'.out.mono ?_; rintro e w2 ⟨rfl, hb2⟩)
      exact hR.out _ _ ⟨rfl, bStep hb0 hb2⟩
    by_cases h2 : 20000 < b
    · rw [show feedA w0 0 b = 0 by unfold feedA; simp [h2], show feedE 0 b = 2 by unfold feedE; simp [h2]] at hR
      go_enter Tryz.func15, Tryz.ntmps15
      go_wp2_with (go_at_call 13; refine hC'.out.mono ?_; rintro e w2 ⟨rfl, hb2⟩)
      exact hR.out _ _ ⟨rfl, bStep hb0 hb2⟩
    · rw [show feedA w0 0 b = (b + 1) * w0 by unfold feedA; simp [h1, h2], show feedE 0 b = 0 by unfold feedE; simp [h1, h2]] at hR
      have hm1 : 0 ≤ (b + 1) * w0 := Int.mul_nonneg (by omega) hw0
      have hm2 : (b + 1) * w0 ≤ 20001 * 1000000 := Int.mul_le_mul (by omega) hw1 hw0 (by omega)
      have hwr1 : IntKind.i64.wrap (b + 1) = b + 1 := IntWalk.i64_in _ (by omega)
      have hwr2 : IntKind.i64.wrap ((b + 1) * w0) = (b + 1) * w0 := IntWalk.i64_in _ (by omega)
      go_enter Tryz.func15, Tryz.ntmps15
      go_wp2_with (go_at_call 13; refine hC'.out.mono ?_; rintro e w2 ⟨rfl, hb2⟩)
      exact hR.out _ _ ⟨rfl, bStep hb0 hb2⟩
  · have hz : (e0 != 0) = true := by simp [he]
    have hz2 : (e0 == 0) = false := by simp [he]
    rw [show feedA w0 e0 b = 0 by unfold feedA; simp [he], show feedE e0 b = e0 by unfold feedE; simp [he]] at hR
    go_enter Tryz.func15, Tryz.ntmps15
    go_wp2_with (go_at_call 13; refine hC'.out.mono ?_; rintro e w2 ⟨rfl, hb2⟩)
    exact hR.out _ _ ⟨rfl, bStep hb0 hb2⟩
end
end Go.Proofs.YtjnmkdahbcmfaaaGreat

/- The kit's Grammar, over whatever the reader and the maker of grammars are known to give. -/
namespace Go.Proofs.YtjnmkdahbcmfaaaGreat
open Go.ChangeShapes Go.WideShapes Go.ChangeAt Go.RowKit
set_option linter.unusedVariables false
def Later (D : World → Value → Prop) : Prop := ∀ W W' v, Below W.heap.size W W' → D W v → D W' v
theorem under25k : Tryz.prog.underlying 25 = some (.struct (Tryz.prog.fieldsOf 25)) := by kernel_rfl
theorem size25k : (Tryz.prog.info? 25).map (·.size) = some 6 := by kernel_rfl
theorem under28k : Tryz.prog.underlying 28 = some (.struct (Tryz.prog.fieldsOf 28)) := by kernel_rfl
theorem size28k : (Tryz.prog.info? 28).map (·.size) = some 8 := by kernel_rfl
theorem results_gk {fn : Func} {p : Tmp} (h : fn.results = #[.cell p 25]) (tmps : Array Value) (w : World) (g : Nat) (cs : Array Value) (hp : tmps.getD p undef = .pointer (some ⟨g, 0, none⟩)) (h1 : Blk w g 25 cs) (s1 : cs.size = 6) :
    (results fn tmps).run Tryz.prog w = .ok (.agg cs) w := results_cell_row h tmps w g 25 cs (0, 0) _ hp h1 under25k rfl (by rw [size25k, s1])
theorem results_ck {fn : Func} {p : Tmp} (h : fn.results = #[.cell p 28]) (tmps : Array Value) (w : World) (g : Nat) (cs : Array Value) (hp : tmps.getD p undef = .pointer (some ⟨g, 0, none⟩)) (h1 : Blk w g 28 cs) (s1 : cs.size = 8) :
    (results fn tmps).run Tryz.prog w = .ok (.agg cs) w := results_cell_row h tmps w g 28 cs (0, 0) _ hp h1 under28k rfl (by rw [size28k, s1])
structure Owned (D : Nat → World → Value → Prop) : Prop where
  later : ∀ B W W' v, Below W.heap.size W W' → D B W v → D B W' v
  far : ∀ B W p u v, Addr.block p < B → D B W v → D B (W.setCell p u) v
  mono : ∀ B B' W v, B' ≤ B → D B W v → D B' W v
def RetKG (w : World) (D : Nat → World → Value → Prop) (e : Ending) (w' : World) : Prop := ∃ (g0 : Int) (g1A : Option Addr) (g1n g1c : Nat) (g2 : ByteArray) (g3A : Option Addr) (g3n g3c : Nat) (g4 : Int) (g5A : Option Addr) (g5n g5c : Nat), e = .returned (.agg #[.int .i64 g0, .slice g1A g1n g1c, .string g2, .slice g3A g3n g3c, .int .i64 g4, .slice g5A g5n g5c]) ∧ D w.heap.size w' (.agg #[.int .i64 g0, .slice g1A g1n g1c, .string g2, .slice g3A g3n g3c, .int .i64 g4, .slice g5A g5n g5c]) ∧ Below w.heap.size w w'
set_option maxRecDepth 100000 in
set_option maxHeartbeats 4000000 in
theorem kgram_any (n : Int) (s : ByteArray) (w : World) (DS : World → Value → Prop) (DG : Nat → World → Value → Prop) (lS : Later DS) (lG : Owned DG)
    (hT : ∀ W, Below w.heap.size w W → Calls Tryz.prog 47 #[.int .i64 n] W fun e w' => e = .returned (.string s) ∧ Below W.heap.size W w')
    (hP : ∀ W, Below w.heap.size w W → Calls Tryz.prog 46 #[.string s] W fun e w' => ∃ (b0 : Int) (b1A : Option Addr) (b1n b1c : Nat) (b2 : ByteArray) (b3 : ByteArray) (b4A : Option Addr) (b4n b4c : Nat) (f0 f1 : Int), e = .returned (.tuple #[.agg #[.int .i64 b0, .slice b1A b1n b1c, .string b2, .string b3, .slice b4A b4n b4c], .agg #[.int .i64 f0, .int .i64 f1]]) ∧ DS w' (.agg #[.int .i64 b0, .slice b1A b1n b1c, .string b2, .string b3, .slice b4A b4n b4c]) ∧ Below W.heap.size W w')
    (hO : ∀ W v, DS W v → Calls Tryz.prog 48 #[v] W fun e w' => ∃ (g0 : Int) (g1A : Option Addr) (g1n g1c : Nat) (g2 : ByteArray) (g3A : Option Addr) (g3n g3c : Nat) (g4 : Int) (g5A : Option Addr) (g5n g5c : Nat) (t : Int), e = .returned (.tuple #[.agg #[.int .i64 g0, .slice g1A g1n g1c, .string g2, .slice g3A g3n g3c, .int .i64 g4, .slice g5A g5n g5c], .int .i64 t]) ∧ DG W.heap.size w' (.agg #[.int .i64 g0, .slice g1A g1n g1c, .string g2, .slice g3A g3n g3c, .int .i64 g4, .slice g5A g5n g5c]) ∧ Below W.heap.size W w') :
    Calls Tryz.prog 22 #[.int .i64 n] w (RetKG w DG) := by
  refine opq fun RR hR => ?_
  have hb0 : Below w.heap.size w (w.alloc (.cells #[.int .i64 0, .slice none 0 0, .string ⟨#[]⟩, .slice none 0 0, .int .i64 0, .slice none 0 0] 25)) := bAlc (Below.refl _ _) _
  have z0 : Blk (w.alloc (.cells #[.int .i64 0, .slice none 0 0, .string ⟨#[]⟩, .slice none 0 0, .int .i64 0, .slice none 0 0] 25)) w.heap.size 25 #[.int .i64 0, .slice none 0 0, .string ⟨#[]⟩, .slice none 0 0, .int .i64 0, .slice none 0 0] := Blk.new _ _ _
  have hT' := Lib.hid hT
  have hP' := Lib.hid hP
  have hO' := Lib.hid hO
  have lS' := Lib.hid lS
  have lG' := Lib.hid lG
  clear hT hP hO lS lG
  go_enter Tryz.func22, Tryz.ntmps22
  go_upto_region 1 with (fail)
  generalize w.alloc (.cells #[.int .i64 0, .slice none 0 0, .string ⟨#[]⟩, .slice none 0 0, .int .i64 0, .slice none 0 0] 25) = W1 at *
  go_upto_region 2 with (first
    | (go_at_call 47; refine (hT'.out _ hb0).mono ?_; clear hT'; rintro e w2 ⟨rfl, hb2⟩)
    | (go_at_call 46; refine (hP'.out _ (bStep hb0 hb2)).mono ?_; clear hP'; rintro e w3 ⟨b0, b1A, b1n, b1c, b2, b3, b4A, b4n, b4c, f0, f1, rfl, hS3, hb3⟩))
  have hb4 : Below w.heap.size w w3 := bStep (bStep hb0 hb2) hb3
  have q3 : Blk ((w3.alloc (.cells #[.int .i64 b0, .slice b1A b1n b1c, .string b2, .string b3, .slice b4A b4n b4c] 77)).alloc (.cells #[.int .i64 f0, .int .i64 f1] 42)) w3.heap.size 77 #[.int .i64 b0, .slice b1A b1n b1c, .string b2, .string b3, .slice b4A b4n b4c] := (Blk.new _ _ _).alloc _
  have hb5 : Below w3.heap.size w3 ((w3.alloc (.cells #[.int .i64 b0, .slice b1A b1n b1c, .string b2, .string b3, .slice b4A b4n b4c] 77)).alloc (.cells #[.int .i64 f0, .int .i64 f1] 42)) := bAlc (bAlc (Below.refl _ _) _) _
  have hS5 := lS'.out _ _ _ hb5 hS3
  have hO5 := Lib.hid (hO'.out _ _ hS5)
  have hb6 := bStep hb4 hb5
  have zq := ((z0.step hb2).step hb3).step hb5
  clear hO' hS5 hS3 hb3 hb4 hb5 hb2 hb0 z0
  generalize (w3.alloc (.cells #[.int .i64 b0, .slice b1A b1n b1c, .string b2, .string b3, .slice b4A b4n b4c] 77)).alloc (.cells #[.int .i64 f0, .int .i64 f1] 42) = W4 at *
  generalize w3.heap.size = gs at *
  have d0 := q3.cell 0
  have d1 := q3.cell 1
  have d2 := q3.cell 2
  have d3 := q3.cell 3
  have d4 := q3.cell 4
  simp only [List.getElem?_toArray, List.getElem?_cons_zero, List.getElem?_cons_succ] at d0 d1 d2 d3 d4
  go_upto_region 3 with (go_at_call 48; refine hO5.out.mono ?_; clear hO5; rintro e w5 ⟨g0, g1A, g1n, g1c, g2, g3A, g3n, g3c, g4, g5A, g5n, g5c, t5, rfl, hG5, hb5⟩)
  clear d0 d1 d2 d3 d4 q3
  have hb8 : Below w5.heap.size w5 (w5.alloc (.cells #[.int .i64 g0, .slice g1A g1n g1c, .string g2, .slice g3A g3n g3c, .int .i64 g4, .slice g5A g5n g5c] 25)) := bAlc (Below.refl _ _) _
  have hb9 := bStep (bStep hb6 hb5) hb8
  have q5 : Blk (w5.alloc (.cells #[.int .i64 g0, .slice g1A g1n g1c, .string g2, .slice g3A g3n g3c, .int .i64 g4, .slice g5A g5n g5c] 25)) w5.heap.size 25 #[.int .i64 g0, .slice g1A g1n g1c, .string g2, .slice g3A g3n g3c, .int .i64 g4, .slice g5A g5n g5c] := Blk.new _ _ _
  have zq2 := (zq.step hb5).step hb8
  have hG8 := lG'.out.later _ _ _ _ hb8 hG5
  have hlt : w.heap.size < W4.heap.size := by have := zq.lt; omega
  clear zq hb6 hb5 hb8 hG5
  generalize w5.alloc (.cells #[.int .i64 g0, .slice g1A g1n g1c, .string g2, .slice g3A g3n g3c, .int .i64 g4, .slice g5A g5n g5c] 25) = W5 at *
  generalize w5.heap.size = gb at *
  have d0 := q5.cell 0
  have d1 := q5.cell 1
  have d2 := q5.cell 2
  have d3 := q5.cell 3
  have d4 := q5.cell 4
  have d5 := q5.cell 5
  have n0 := zq2.frozen 0
  have n1 := zq2.frozen 1
  have n2 := zq2.frozen 2
  have n3 := zq2.frozen 3
  have n4 := zq2.frozen 4
  have n5 := zq2.frozen 5
  have m0 := zq2.cell 0
  have m1 := zq2.cell 1
  have m2 := zq2.cell 2
  have m3 := zq2.cell 3
  have m4 := zq2.cell 4
  have m5 := zq2.cell 5
  simp only [List.getElem?_toArray, List.getElem?_cons_zero, List.getElem?_cons_succ] at d0 d1 d2 d3 d4 d5 m0 m1 m2 m3 m4 m5
  have hPE : Blk ((((((W5.setCell ⟨w.heap.size, 0, none⟩ (.int .i64 g0)).setCell ⟨w.heap.size, 1, none⟩ (.slice g1A g1n g1c)).setCell ⟨w.heap.size, 2, none⟩ (.string g2)).setCell ⟨w.heap.size, 3, none⟩ (.slice g3A g3n g3c)).setCell ⟨w.heap.size, 4, none⟩ (.int .i64 g4)).setCell ⟨w.heap.size, 5, none⟩ (.slice g5A g5n g5c)) w.heap.size 25 #[.int .i64 g0, .slice g1A g1n g1c, .string g2, .slice g3A g3n g3c, .int .i64 g4, .slice g5A g5n g5c] := (((((zq2.put 0 (.int .i64 g0)).put 1 (.slice g1A g1n g1c)).put 2 (.string g2)).put 3 (.slice g3A g3n g3c)).put 4 (.int .i64 g4)).put 5 (.slice g5A g5n g5c)
  have hBE : Below w.heap.size w ((((((W5.setCell ⟨w.heap.size, 0, none⟩ (.int .i64 g0)).setCell ⟨w.heap.size, 1, none⟩ (.slice g1A g1n g1c)).setCell ⟨w.heap.size, 2, none⟩ (.string g2)).setCell ⟨w.heap.size, 3, none⟩ (.slice g3A g3n g3c)).setCell ⟨w.heap.size, 4, none⟩ (.int .i64 g4)).setCell ⟨w.heap.size, 5, none⟩ (.slice g5A g5n g5c)) := bSet (bSet (bSet (bSet (bSet (bSet hb9 _ _ (Nat.le_refl _)) _ _ (Nat.le_refl _)) _ _ (Nat.le_refl _)) _ _ (Nat.le_refl _)) _ _ (Nat.le_refl _)) _ _ (Nat.le_refl _)
  have hGE := lG'.out.mono _ w.heap.size _ _ (Nat.le_of_lt hlt) (lG'.out.far _ _ ⟨w.heap.size, 5, none⟩ (.slice g5A g5n g5c) _ hlt (lG'.out.far _ _ ⟨w.heap.size, 4, none⟩ (.int .i64 g4) _ hlt (lG'.out.far _ _ ⟨w.heap.size, 3, none⟩ (.slice g3A g3n g3c) _ hlt (lG'.out.far _ _ ⟨w.heap.size, 2, none⟩ (.string g2) _ hlt (lG'.out.far _ _ ⟨w.heap.size, 1, none⟩ (.slice g1A g1n g1c) _ hlt (lG'.out.far _ _ ⟨w.heap.size, 0, none⟩ (.int .i64 g0) _ hlt hG8))))))
  have hfin := Lib.hid (hR.out _ _ ⟨g0, g1A, g1n, g1c, g2, g3A, g3n, g3c, g4, g5A, g5n, g5c, rfl, hGE, hBE⟩)
  clear hG8 hGE hBE hb9 lG' hR
  go_wp2_with fail
  refine bodyPost_ret (results_gk rfl _ _ w.heap.size #[.int .i64 g0, .slice g1A g1n g1c, .string g2, .slice g3A g3n g3c, .int .i64 g4, .slice g5A g5n g5c] rfl hPE rfl) rfl ?_
  exact hfin.out
def RetKX (w : World) (D : Nat → World → Value → Prop) (e : Ending) (w' : World) : Prop := ∃ (x0 : Int) (x1A : Option Addr) (x1n x1c : Nat) (x2 : ByteArray) (x3A : Option Addr) (x3n x3c : Nat) (x4 : Int) (x5A : Option Addr) (x5n x5c : Nat) (x6A : Option Addr) (x6n x6c : Nat) (x7 : ByteArray), e = .returned (.agg #[.int .i64 x0, .slice x1A x1n x1c, .string x2, .slice x3A x3n x3c, .int .i64 x4, .slice x5A x5n x5c, .slice x6A x6n x6c, .string x7]) ∧ D w.heap.size w' (.agg #[.int .i64 x0, .slice x1A x1n x1c, .string x2, .slice x3A x3n x3c, .int .i64 x4, .slice x5A x5n x5c, .slice x6A x6n x6c, .string x7]) ∧ Below w.heap.size w w'
set_option maxRecDepth 100000 in
set_option maxHeartbeats 4000000 in
theorem compiled_any (n : Int) (w : World) (DG DX : Nat → World → Value → Prop) (lX : Owned DX)
    (hK : ∀ W, Below w.heap.size w W → Calls Tryz.prog 22 #[.int .i64 n] W (RetKG W DG))
    (hM : ∀ B W v, DG B W v → Calls Tryz.prog 21 #[v] W fun e w' => ∃ (x0 : Int) (x1A : Option Addr) (x1n x1c : Nat) (x2 : ByteArray) (x3A : Option Addr) (x3n x3c : Nat) (x4 : Int) (x5A : Option Addr) (x5n x5c : Nat) (x6A : Option Addr) (x6n x6c : Nat) (x7 : ByteArray) (f0 f1 f2 f3 f4 f5 f6 f7 f8 f9 f10 : Int), e = .returned (.tuple #[.agg #[.int .i64 x0, .slice x1A x1n x1c, .string x2, .slice x3A x3n x3c, .int .i64 x4, .slice x5A x5n x5c, .slice x6A x6n x6c, .string x7], .agg #[.int .i64 f0, .int .i64 f1, .int .i64 f2, .int .i64 f3, .int .i64 f4, .int .i64 f5, .int .i64 f6, .int .i64 f7, .int .i64 f8, .int .i64 f9, .int .i64 f10]]) ∧ DX W.heap.size w' (.agg #[.int .i64 x0, .slice x1A x1n x1c, .string x2, .slice x3A x3n x3c, .int .i64 x4, .slice x5A x5n x5c, .slice x6A x6n x6c, .string x7]) ∧ Below W.heap.size W w') :
    Calls Tryz.prog 6 #[.int .i64 n] w (RetKX w DX) := by
  refine opq fun RR hR => ?_
  have hb0 : Below w.heap.size w (w.alloc (.cells #[.int .i64 0, .slice none 0 0, .string ⟨#[]⟩, .slice none 0 0, .int .i64 0, .slice none 0 0, .slice none 0 0, .string ⟨#[]⟩] 28)) := bAlc (Below.refl _ _) _
  have z0 : Blk (w.alloc (.cells #[.int .i64 0, .slice none 0 0, .string ⟨#[]⟩, .slice none 0 0, .int .i64 0, .slice none 0 0, .slice none 0 0, .string ⟨#[]⟩] 28)) w.heap.size 28 #[.int .i64 0, .slice none 0 0, .string ⟨#[]⟩, .slice none 0 0, .int .i64 0, .slice none 0 0, .slice none 0 0, .string ⟨#[]⟩] := Blk.new _ _ _
  have hK' := Lib.hid hK
  have hM' := Lib.hid hM
  have lX' := Lib.hid lX
  clear hK hM lX
  go_enter Tryz.func6, Tryz.ntmps6
  go_upto_region 1 with (fail)
  generalize w.alloc (.cells #[.int .i64 0, .slice none 0 0, .string ⟨#[]⟩, .slice none 0 0, .int .i64 0, .slice none 0 0, .slice none 0 0, .string ⟨#[]⟩] 28) = W1 at *
  go_upto_region 2 with (first
    | (go_at_call 22; refine (hK'.out _ hb0).mono ?_; clear hK'; rintro e w2 ⟨g0, g1A, g1n, g1c, g2, g3A, g3n, g3c, g4, g5A, g5n, g5c, rfl, hG2, hb2⟩; have hM2 := Lib.hid (hM'.out _ _ _ hG2); clear hG2 hM')
    | (go_at_call 21; refine hM2.out.mono ?_; clear hM2; rintro e w3 ⟨x0, x1A, x1n, x1c, x2, x3A, x3n, x3c, x4, x5A, x5n, x5c, x6A, x6n, x6c, x7, f0, f1, f2, f3, f4, f5, f6, f7, f8, f9, f10, rfl, hX3, hb3⟩))
  have hb5 : Below w3.heap.size w3 ((w3.alloc (.cells #[.int .i64 x0, .slice x1A x1n x1c, .string x2, .slice x3A x3n x3c, .int .i64 x4, .slice x5A x5n x5c, .slice x6A x6n x6c, .string x7] 28)).alloc (.cells #[.int .i64 f0, .int .i64 f1, .int .i64 f2, .int .i64 f3, .int .i64 f4, .int .i64 f5, .int .i64 f6, .int .i64 f7, .int .i64 f8, .int .i64 f9, .int .i64 f10] 49)) := bAlc (bAlc (Below.refl _ _) _) _
  have q3 : Blk ((w3.alloc (.cells #[.int .i64 x0, .slice x1A x1n x1c, .string x2, .slice x3A x3n x3c, .int .i64 x4, .slice x5A x5n x5c, .slice x6A x6n x6c, .string x7] 28)).alloc (.cells #[.int .i64 f0, .int .i64 f1, .int .i64 f2, .int .i64 f3, .int .i64 f4, .int .i64 f5, .int .i64 f6, .int .i64 f7, .int .i64 f8, .int .i64 f9, .int .i64 f10] 49)) w3.heap.size 28 #[.int .i64 x0, .slice x1A x1n x1c, .string x2, .slice x3A x3n x3c, .int .i64 x4, .slice x5A x5n x5c, .slice x6A x6n x6c, .string x7] := (Blk.new _ _ _).alloc _
  have hlt : w.heap.size < w2.heap.size := by have := z0.lt; have := hb2.size; omega
  have zq2 := ((z0.step hb2).step hb3).step hb5
  have hb9 := bStep (bStep (bStep hb0 hb2) hb3) hb5
  have hX8 := lX'.out.later _ _ _ _ hb5 hX3
  clear hX3 hb5 hb3 hb2 hb0 z0
  generalize (w3.alloc (.cells #[.int .i64 x0, .slice x1A x1n x1c, .string x2, .slice x3A x3n x3c, .int .i64 x4, .slice x5A x5n x5c, .slice x6A x6n x6c, .string x7] 28)).alloc (.cells #[.int .i64 f0, .int .i64 f1, .int .i64 f2, .int .i64 f3, .int .i64 f4, .int .i64 f5, .int .i64 f6, .int .i64 f7, .int .i64 f8, .int .i64 f9, .int .i64 f10] 49) = W5 at *
  generalize w3.heap.size = gs at *
  have d0 := q3.cell 0
  have d1 := q3.cell 1
  have d2 := q3.cell 2
  have d3 := q3.cell 3
  have d4 := q3.cell 4
  have d5 := q3.cell 5
  have d6 := q3.cell 6
  have d7 := q3.cell 7
  have n0 := zq2.frozen 0
  have n1 := zq2.frozen 1
  have n2 := zq2.frozen 2
  have n3 := zq2.frozen 3
  have n4 := zq2.frozen 4
  have n5 := zq2.frozen 5
  have n6 := zq2.frozen 6
  have n7 := zq2.frozen 7
  have m0 := zq2.cell 0
  have m1 := zq2.cell 1
  have m2 := zq2.cell 2
  have m3 := zq2.cell 3
  have m4 := zq2.cell 4
  have m5 := zq2.cell 5
  have m6 := zq2.cell 6
  have m7 := zq2.cell 7
  simp only [List.getElem?_toArray, List.getElem?_cons_zero, List.getElem?_cons_succ] at d0 d1 d2 d3 d4 d5 d6 d7 m0 m1 m2 m3 m4 m5 m6 m7
  have hPE : Blk ((((((((W5.setCell ⟨w.heap.size, 0, none⟩ (.int .i64 x0)).setCell ⟨w.heap.size, 1, none⟩ (.slice x1A x1n x1c)).setCell ⟨w.heap.size, 2, none⟩ (.string x2)).setCell ⟨w.heap.size, 3, none⟩ (.slice x3A x3n x3c)).setCell ⟨w.heap.size, 4, none⟩ (.int .i64 x4)).setCell ⟨w.heap.size, 5, none⟩ (.slice x5A x5n x5c)).setCell ⟨w.heap.size, 6, none⟩ (.slice x6A x6n x6c)).setCell ⟨w.heap.size, 7, none⟩ (.string x7)) w.heap.size 28 #[.int .i64 x0, .slice x1A x1n x1c, .string x2, .slice x3A x3n x3c, .int .i64 x4, .slice x5A x5n x5c, .slice x6A x6n x6c, .string x7] := (((((((zq2.put 0 (.int .i64 x0)).put 1 (.slice x1A x1n x1c)).put 2 (.string x2)).put 3 (.slice x3A x3n x3c)).put 4 (.int .i64 x4)).put 5 (.slice x5A x5n x5c)).put 6 (.slice x6A x6n x6c)).put 7 (.string x7)
  have hBE : Below w.heap.size w ((((((((W5.setCell ⟨w.heap.size, 0, none⟩ (.int .i64 x0)).setCell ⟨w.heap.size, 1, none⟩ (.slice x1A x1n x1c)).setCell ⟨w.heap.size, 2, none⟩ (.string x2)).setCell ⟨w.heap.size, 3, none⟩ (.slice x3A x3n x3c)).setCell ⟨w.heap.size, 4, none⟩ (.int .i64 x4)).setCell ⟨w.heap.size, 5, none⟩ (.slice x5A x5n x5c)).setCell ⟨w.heap.size, 6, none⟩ (.slice x6A x6n x6c)).setCell ⟨w.heap.size, 7, none⟩ (.string x7)) := bSet (bSet (bSet (bSet (bSet (bSet (bSet (bSet hb9 _ _ (Nat.le_refl _)) _ _ (Nat.le_refl _)) _ _ (Nat.le_refl _)) _ _ (Nat.le_refl _)) _ _ (Nat.le_refl _)) _ _ (Nat.le_refl _)) _ _ (Nat.le_refl _)) _ _ (Nat.le_refl _)
  have hGE := lX'.out.mono _ w.heap.size _ _ (Nat.le_of_lt hlt) (lX'.out.far _ _ ⟨w.heap.size, 7, none⟩ (.string x7) _ hlt (lX'.out.far _ _ ⟨w.heap.size, 6, none⟩ (.slice x6A x6n x6c) _ hlt (lX'.out.far _ _ ⟨w.heap.size, 5, none⟩ (.slice x5A x5n x5c) _ hlt (lX'.out.far _ _ ⟨w.heap.size, 4, none⟩ (.int .i64 x4) _ hlt (lX'.out.far _ _ ⟨w.heap.size, 3, none⟩ (.slice x3A x3n x3c) _ hlt (lX'.out.far _ _ ⟨w.heap.size, 2, none⟩ (.string x2) _ hlt (lX'.out.far _ _ ⟨w.heap.size, 1, none⟩ (.slice x1A x1n x1c) _ hlt (lX'.out.far _ _ ⟨w.heap.size, 0, none⟩ (.int .i64 x0) _ hlt hX8))))))))
  have hfin := Lib.hid (hR.out _ _ ⟨x0, x1A, x1n, x1c, x2, x3A, x3n, x3c, x4, x5A, x5n, x5c, x6A, x6n, x6c, x7, rfl, hGE, hBE⟩)
  clear hX8 hGE hBE hb9 lX' hR
  go_wp2_with fail
  refine bodyPost_ret (results_ck rfl _ _ w.heap.size #[.int .i64 x0, .slice x1A x1n x1c, .string x2, .slice x3A x3n x3c, .int .i64 x4, .slice x5A x5n x5c, .slice x6A x6n x6c, .string x7] rfl hPE rfl) rfl ?_
  exact hfin.out
end Go.Proofs.YtjnmkdahbcmfaaaGreat

/- BoundNumbers: the walk. (printed by tools/mkbn.py) -/
namespace Go.Proofs.YtjnmkdahbcmfaaaGreat
open Go.ChangeShapes Go.WideShapes Go.ChangeAt Go.RowKit
set_option linter.unusedVariables false
set_option maxRecDepth 100000 in
set_option maxHeartbeats 8000000 in
theorem numbers_plain (n d b : Int) (ea ee la le wa we fa fe ia ie : Int) (s : ByteArray) (w : World) (wn : (Lit.int .i64 n).wf = true) (hm : n % 16 ≠ 5) (DX DY : World → Value → Prop) (lX : Later DX) (lY : Later DY)
    (hX : ∀ W, Below w.heap.size w W → Calls Tryz.prog 6 #[.int .i64 n] W fun e w' => ∃ (x0 : Int) (x1A : Option Addr) (x1n x1c : Nat) (x2 : ByteArray) (x3A : Option Addr) (x3n x3c : Nat) (x4 : Int) (x5A : Option Addr) (x5n x5c : Nat) (x6A : Option Addr) (x6n x6c : Nat), e = .returned (.agg #[.int .i64 x0, .slice x1A x1n x1c, .string x2, .slice x3A x3n x3c, .int .i64 x4, .slice x5A x5n x5c, .slice x6A x6n x6c, .string s]) ∧ DX w' (.agg #[.int .i64 x0, .slice x1A x1n x1c, .string x2, .slice x3A x3n x3c, .int .i64 x4, .slice x5A x5n x5c, .slice x6A x6n x6c, .string s]) ∧ Below W.heap.size W w')
    (hY : ∀ (W : World) (x0 : Int) (x1A : Option Addr) (x1n x1c : Nat) (x2 : ByteArray) (x3A : Option Addr) (x3n x3c : Nat) (x4 : Int) (x5A : Option Addr) (x5n x5c : Nat) (x6A : Option Addr) (x6n x6c : Nat), DX W (.agg #[.int .i64 x0, .slice x1A x1n x1c, .string x2, .slice x3A x3n x3c, .int .i64 x4, .slice x5A x5n x5c, .slice x6A x6n x6c, .string s]) → DY W (.agg #[.int .i64 x0, .slice x1A x1n x1c, .string x2, .slice x3A x3n x3c, .int .i64 x4, .slice x5A x5n x5c, .slice x6A x6n x6c, .string s]))
    (h0 : ∀ W v, DY W v → Calls Tryz.prog 8 #[v] W (Ret2 W ea ee))
    (h1 : ∀ W v, DY W v → Calls Tryz.prog 9 #[v] W (Ret2 W ea ee))
    (h2 : ∀ W v, DY W v → Calls Tryz.prog 10 #[v] W (Ret2 W la le))
    (h3 : ∀ W v, DY W v → Calls Tryz.prog 11 #[v] W (Ret2 W la le))
    (h4 : ∀ W v, DY W v → Calls Tryz.prog 12 #[v, .int .i64 d] W (Ret2 W wa we))
    (h5 : ∀ W v, DY W v → Calls Tryz.prog 13 #[v, .int .i64 d] W (Ret2 W wa we))
    (h6 : ∀ W v, DY W v → Calls Tryz.prog 14 #[v, .int .i64 d, .int .i64 b] W (Ret2 W fa fe))
    (h7 : ∀ W v, DY W v → Calls Tryz.prog 15 #[v, .int .i64 d, .int .i64 b] W (Ret2 W fa fe))
    (h8 : ∀ W v, DY W v → Calls Tryz.prog 16 #[v, .int .i64 d] W (Ret2 W ia ie))
    (h9 : ∀ W v, DY W v → Calls Tryz.prog 17 #[v, .int .i64 d] W (Ret2 W ia ie))
    (h10 : ∀ W, Calls Tryz.prog 18 #[] W fun e w' => e = .returned (.bool true) ∧ Below W.heap.size W w') (hs : s.size ≤ 100000) :
    Calls Tryz.prog 3 #[.int .i64 n, .int .i64 d, .int .i64 b] w fun e w' => e = .returned (.bool true) ∧ Below w.heap.size w w' := by
  refine opq fun RR hR => ?_
  have c0 := Lib.hid h0
  have c1 := Lib.hid h1
  have c2 := Lib.hid h2
  have c3 := Lib.hid h3
  have c4 := Lib.hid h4
  have c5 := Lib.hid h5
  have c6 := Lib.hid h6
  have c7 := Lib.hid h7
  have c8 := Lib.hid h8
  have c9 := Lib.hid h9
  have c10 := Lib.hid h10
  have lY' := Lib.hid lY
  have hX' := Lib.hid (hX w (Below.refl _ _))
  have hY' := Lib.hid hY
  have hM := Lib.hid (fun W => mod_any n 16 W wn (by omega) (by omega))
  have hmz : (n % 16 == 5) = false := by simp [hm]
  clear h0 h1 h2 h3 h4 h5 h6 h7 h8 h9 h10 lX lY hX hY
  go_enter Tryz.func3, Tryz.ntmps3
  go_upto_region 2 with (go_at_call 6; refine hX'.out.mono ?_; clear hX'; rintro e w2 ⟨x0, x1A, x1n, x1c, x2, x3A, x3n, x3c, x4, x5A, x5n, x5c, x6A, x6n, x6c, rfl, hD2, hb2⟩)
  have hYY := Lib.hid (hY'.out _ _ _ _ _ _ _ _ _ _ _ _ _ _ _ _ hD2)
  clear hY' hD2
  have q : Blk (w2.alloc (.cells #[.int .i64 x0, .slice x1A x1n x1c, .string x2, .slice x3A x3n x3c, .int .i64 x4, .slice x5A x5n x5c, .slice x6A x6n x6c, .string s] 28)) w2.heap.size 28 #[.int .i64 x0, .slice x1A x1n x1c, .string x2, .slice x3A x3n x3c, .int .i64 x4, .slice x5A x5n x5c, .slice x6A x6n x6c, .string s] := Blk.new _ _ _
  have hg : Below w2.heap.size w2 (w2.alloc (.cells #[.int .i64 x0, .slice x1A x1n x1c, .string x2, .slice x3A x3n x3c, .int .i64 x4, .slice x5A x5n x5c, .slice x6A x6n x6c, .string s] 28)) := bAlc (Below.refl _ _) _
  generalize w2.alloc (.cells #[.int .i64 x0, .slice x1A x1n x1c, .string x2, .slice x3A x3n x3c, .int .i64 x4, .slice x5A x5n x5c, .slice x6A x6n x6c, .string s] 28) = W3 at *
  have d0 := q.cell 0
  have d1 := q.cell 1
  have d2 := q.cell 2
  have d3 := q.cell 3
  have d4 := q.cell 4
  have d5 := q.cell 5
  have d6 := q.cell 6
  have d7 := q.cell 7
  simp only [List.getElem?_toArray, List.getElem?_cons_zero, List.getElem?_cons_succ] at d0 d1 d2 d3 d4 d5 d6 d7
  go_wp2_with (go_at_call 7; refine (hM.out _).mono ?_; clear hM; rintro e w9 ⟨rfl, rfl⟩)
  refine (c0.out _ _ (lY'.out _ _ _ hg hYY.out)).mono ?_
  rintro e V0 ⟨rfl, hb20⟩
  have q0 := q.step hb20
  have g0 := bStep hg hb20
  clear d0 d1 d2 d3 d4 d5 d6 d7 q hg hb20 c0
  have d0 := q0.cell 0
  have d1 := q0.cell 1
  have d2 := q0.cell 2
  have d3 := q0.cell 3
  have d4 := q0.cell 4
  have d5 := q0.cell 5
  have d6 := q0.cell 6
  have d7 := q0.cell 7
  simp only [List.getElem?_toArray, List.getElem?_cons_zero, List.getElem?_cons_succ] at d0 d1 d2 d3 d4 d5 d6 d7
  go_wp2_with fail
  refine (c1.out _ _ (lY'.out _ _ _ g0 hYY.out)).mono ?_
  rintro e V1 ⟨rfl, hb21⟩
  have q1 := q0.step hb21
  have g1 := bStep g0 hb21
  clear d0 d1 d2 d3 d4 d5 d6 d7 q0 g0 hb21 c1
  have d0 := q1.cell 0
  have d1 := q1.cell 1
  have d2 := q1.cell 2
  have d3 := q1.cell 3
  have d4 := q1.cell 4
  have d5 := q1.cell 5
  have d6 := q1.cell 6
  have d7 := q1.cell 7
  simp only [List.getElem?_toArray, List.getElem?_cons_zero, List.getElem?_cons_succ] at d0 d1 d2 d3 d4 d5 d6 d7
  go_wp2_with fail
  refine (c2.out _ _ (lY'.out _ _ _ g1 hYY.out)).mono ?_
  rintro e V2 ⟨rfl, hb22⟩
  have q2 := q1.step hb22
  have g2 := bStep g1 hb22
  clear d0 d1 d2 d3 d4 d5 d6 d7 q1 g1 hb22 c2
  have d0 := q2.cell 0
  have d1 := q2.cell 1
  have d2 := q2.cell 2
  have d3 := q2.cell 3
  have d4 := q2.cell 4
  have d5 := q2.cell 5
  have d6 := q2.cell 6
  have d7 := q2.cell 7
  simp only [List.getElem?_toArray, List.getElem?_cons_zero, List.getElem?_cons_succ] at d0 d1 d2 d3 d4 d5 d6 d7
  go_wp2_with fail
  refine (c3.out _ _ (lY'.out _ _ _ g2 hYY.out)).mono ?_
  rintro e V3 ⟨rfl, hb23⟩
  have q3 := q2.step hb23
  have g3 := bStep g2 hb23
  clear d0 d1 d2 d3 d4 d5 d6 d7 q2 g2 hb23 c3
  have d0 := q3.cell 0
  have d1 := q3.cell 1
  have d2 := q3.cell 2
  have d3 := q3.cell 3
  have d4 := q3.cell 4
  have d5 := q3.cell 5
  have d6 := q3.cell 6
  have d7 := q3.cell 7
  simp only [List.getElem?_toArray, List.getElem?_cons_zero, List.getElem?_cons_succ] at d0 d1 d2 d3 d4 d5 d6 d7
  go_wp2_with fail
  refine (c4.out _ _ (lY'.out _ _ _ g3 hYY.out)).mono ?_
  rintro e V4 ⟨rfl, hb24⟩
  have q4 := q3.step hb24
  have g4 := bStep g3 hb24
  clear d0 d1 d2 d3 d4 d5 d6 d7 q3 g3 hb24 c4
  have d0 := q4.cell 0
  have d1 := q4.cell 1
  have d2 := q4.cell 2
  have d3 := q4.cell 3
  have d4 := q4.cell 4
  have d5 := q4.cell 5
  have d6 := q4.cell 6
  have d7 := q4.cell 7
  simp only [List.getElem?_toArray, List.getElem?_cons_zero, List.getElem?_cons_succ] at d0 d1 d2 d3 d4 d5 d6 d7
  go_wp2_with fail
  refine (c5.out _ _ (lY'.out _ _ _ g4 hYY.out)).mono ?_
  rintro e V5 ⟨rfl, hb25⟩
  have q5 := q4.step hb25
  have g5 := bStep g4 hb25
  clear d0 d1 d2 d3 d4 d5 d6 d7 q4 g4 hb25 c5
  have d0 := q5.cell 0
  have d1 := q5.cell 1
  have d2 := q5.cell 2
  have d3 := q5.cell 3
  have d4 := q5.cell 4
  have d5 := q5.cell 5
  have d6 := q5.cell 6
  have d7 := q5.cell 7
  simp only [List.getElem?_toArray, List.getElem?_cons_zero, List.getElem?_cons_succ] at d0 d1 d2 d3 d4 d5 d6 d7
  go_wp2_with fail
  refine (c6.out _ _ (lY'.out _ _ _ g5 hYY.out)).mono ?_
  rintro e V6 ⟨rfl, hb26⟩
  have q6 := q5.step hb26
  have g6 := bStep g5 hb26
  clear d0 d1 d2 d3 d4 d5 d6 d7 q5 g5 hb26 c6
  have d0 := q6.cell 0
  have d1 := q6.cell 1
  have d2 := q6.cell 2
  have d3 := q6.cell 3
  have d4 := q6.cell 4
  have d5 := q6.cell 5
  have d6 := q6.cell 6
  have d7 := q6.cell 7
  simp only [List.getElem?_toArray, List.getElem?_cons_zero, List.getElem?_cons_succ] at d0 d1 d2 d3 d4 d5 d6 d7
  go_wp2_with fail
  refine (c7.out _ _ (lY'.out _ _ _ g6 hYY.out)).mono ?_
  rintro e V7 ⟨rfl, hb27⟩
  have q7 := q6.step hb27
  have g7 := bStep g6 hb27
  clear d0 d1 d2 d3 d4 d5 d6 d7 q6 g6 hb27 c7
  have d0 := q7.cell 0
  have d1 := q7.cell 1
  have d2 := q7.cell 2
  have d3 := q7.cell 3
  have d4 := q7.cell 4
  have d5 := q7.cell 5
  have d6 := q7.cell 6
  have d7 := q7.cell 7
  simp only [List.getElem?_toArray, List.getElem?_cons_zero, List.getElem?_cons_succ] at d0 d1 d2 d3 d4 d5 d6 d7
  go_wp2_with fail
  refine (c8.out _ _ (lY'.out _ _ _ g7 hYY.out)).mono ?_
  rintro e V8 ⟨rfl, hb28⟩
  have q8 := q7.step hb28
  have g8 := bStep g7 hb28
  clear d0 d1 d2 d3 d4 d5 d6 d7 q7 g7 hb28 c8
  have d0 := q8.cell 0
  have d1 := q8.cell 1
  have d2 := q8.cell 2
  have d3 := q8.cell 3
  have d4 := q8.cell 4
  have d5 := q8.cell 5
  have d6 := q8.cell 6
  have d7 := q8.cell 7
  simp only [List.getElem?_toArray, List.getElem?_cons_zero, List.getElem?_cons_succ] at d0 d1 d2 d3 d4 d5 d6 d7
  go_wp2_with fail
  refine (c9.out _ _ (lY'.out _ _ _ g8 hYY.out)).mono ?_
  rintro e V9 ⟨rfl, hb29⟩
  have q9 := q8.step hb29
  have g9 := bStep g8 hb29
  clear d0 d1 d2 d3 d4 d5 d6 d7 q8 g8 hb29 c9
  have d0 := q9.cell 0
  have d1 := q9.cell 1
  have d2 := q9.cell 2
  have d3 := q9.cell 3
  have d4 := q9.cell 4
  have d5 := q9.cell 5
  have d6 := q9.cell 6
  have d7 := q9.cell 7
  simp only [List.getElem?_toArray, List.getElem?_cons_zero, List.getElem?_cons_succ] at d0 d1 d2 d3 d4 d5 d6 d7
  go_wp2_with fail
  refine (c10.out _).mono ?_
  rintro e V10 ⟨rfl, hb30⟩
  have gF := Lib.hid (bStep hb2 (bStep g9 hb30))
  go_wp2_with fail
  exact hR.out _ _ ⟨rfl, gF.out⟩
set_option maxRecDepth 100000 in
set_option maxHeartbeats 8000000 in
theorem numbers_spoilt (n d b : Int) (ea ee la le wa we fa fe ia ie : Int) (s : ByteArray) (w : World) (wn : (Lit.int .i64 n).wf = true) (hm : n % 16 = 5) (DX DY : World → Value → Prop) (lX : Later DX) (lY : Later DY)
    (hX : ∀ W, Below w.heap.size w W → Calls Tryz.prog 6 #[.int .i64 n] W fun e w' => ∃ (x0 : Int) (x1A : Option Addr) (x1n x1c : Nat) (x2 : ByteArray) (x3A : Option Addr) (x3n x3c : Nat) (x4 : Int) (x5A : Option Addr) (x5n x5c : Nat) (x6A : Option Addr) (x6n x6c : Nat), e = .returned (.agg #[.int .i64 x0, .slice x1A x1n x1c, .string x2, .slice x3A x3n x3c, .int .i64 x4, .slice x5A x5n x5c, .slice x6A x6n x6c, .string s]) ∧ DX w' (.agg #[.int .i64 x0, .slice x1A x1n x1c, .string x2, .slice x3A x3n x3c, .int .i64 x4, .slice x5A x5n x5c, .slice x6A x6n x6c, .string s]) ∧ Below W.heap.size W w')
    (hY : ∀ (W : World) (x0 : Int) (x1A : Option Addr) (x1n x1c : Nat) (x2 : ByteArray) (x3A : Option Addr) (x3n x3c : Nat) (x4 : Int) (x5A : Option Addr) (x5n x5c : Nat) (x6A : Option Addr) (x6n x6c : Nat), DX W (.agg #[.int .i64 x0, .slice x1A x1n x1c, .string x2, .slice x3A x3n x3c, .int .i64 x4, .slice x5A x5n x5c, .slice x6A x6n x6c, .string s]) → DY W (.agg #[.int .i64 x0, .slice x1A x1n x1c, .string x2, .slice x3A x3n x3c, .int .i64 x4, .slice x5A x5n x5c, .slice x6A x6n x6c, .string (s ++ ⟨#[120]⟩)]))
    (h0 : ∀ W v, DY W v → Calls Tryz.prog 8 #[v] W (Ret2 W ea ee))
    (h1 : ∀ W v, DY W v → Calls Tryz.prog 9 #[v] W (Ret2 W ea ee))
    (h2 : ∀ W v, DY W v → Calls Tryz.prog 10 #[v] W (Ret2 W la le))
    (h3 : ∀ W v, DY W v → Calls Tryz.prog 11 #[v] W (Ret2 W la le))
    (h4 : ∀ W v, DY W v → Calls Tryz.prog 12 #[v, .int .i64 d] W (Ret2 W wa we))
    (h5 : ∀ W v, DY W v → Calls Tryz.prog 13 #[v, .int .i64 d] W (Ret2 W wa we))
    (h6 : ∀ W v, DY W v → Calls Tryz.prog 14 #[v, .int .i64 d, .int .i64 b] W (Ret2 W fa fe))
    (h7 : ∀ W v, DY W v → Calls Tryz.prog 15 #[v, .int .i64 d, .int .i64 b] W (Ret2 W fa fe))
    (h8 : ∀ W v, DY W v → Calls Tryz.prog 16 #[v, .int .i64 d] W (Ret2 W ia ie))
    (h9 : ∀ W v, DY W v → Calls Tryz.prog 17 #[v, .int .i64 d] W (Ret2 W ia ie))
    (h10 : ∀ W, Calls Tryz.prog 18 #[] W fun e w' => e = .returned (.bool true) ∧ Below W.heap.size W w') (hs : s.size ≤ 100000) :
    Calls Tryz.prog 3 #[.int .i64 n, .int .i64 d, .int .i64 b] w fun e w' => e = .returned (.bool true) ∧ Below w.heap.size w w' := by
  refine opq fun RR hR => ?_
  have c0 := Lib.hid h0
  have c1 := Lib.hid h1
  have c2 := Lib.hid h2
  have c3 := Lib.hid h3
  have c4 := Lib.hid h4
  have c5 := Lib.hid h5
  have c6 := Lib.hid h6
  have c7 := Lib.hid h7
  have c8 := Lib.hid h8
  have c9 := Lib.hid h9
  have c10 := Lib.hid h10
  have lY' := Lib.hid lY
  have hX' := Lib.hid (hX w (Below.refl _ _))
  have hY' := Lib.hid hY
  have hM := Lib.hid (fun W => mod_any n 16 W wn (by omega) (by omega))
  have hmz : (n % 16 == 5) = true := by simp [hm]
  clear h0 h1 h2 h3 h4 h5 h6 h7 h8 h9 h10 lX lY hX hY
  go_enter Tryz.func3, Tryz.ntmps3
  go_upto_region 2 with (go_at_call 6; refine hX'.out.mono ?_; clear hX'; rintro e w2 ⟨x0, x1A, x1n, x1c, x2, x3A, x3n, x3c, x4, x5A, x5n, x5c, x6A, x6n, x6c, rfl, hD2, hb2⟩)
  have hYY := Lib.hid (hY'.out _ _ _ _ _ _ _ _ _ _ _ _ _ _ _ _ hD2)
  clear hY' hD2
  have q : Blk (w2.alloc (.cells #[.int .i64 x0, .slice x1A x1n x1c, .string x2, .slice x3A x3n x3c, .int .i64 x4, .slice x5A x5n x5c, .slice x6A x6n x6c, .string s] 28)) w2.heap.size 28 #[.int .i64 x0, .slice x1A x1n x1c, .string x2, .slice x3A x3n x3c, .int .i64 x4, .slice x5A x5n x5c, .slice x6A x6n x6c, .string s] := Blk.new _ _ _
  have hg : Below w2.heap.size w2 (w2.alloc (.cells #[.int .i64 x0, .slice x1A x1n x1c, .string x2, .slice x3A x3n x3c, .int .i64 x4, .slice x5A x5n x5c, .slice x6A x6n x6c, .string s] 28)) := bAlc (Below.refl _ _) _
  generalize w2.alloc (.cells #[.int .i64 x0, .slice x1A x1n x1c, .string x2, .slice x3A x3n x3c, .int .i64 x4, .slice x5A x5n x5c, .slice x6A x6n x6c, .string s] 28) = W3 at *
  have d0 := q.cell 0
  have d1 := q.cell 1
  have d2 := q.cell 2
  have d3 := q.cell 3
  have d4 := q.cell 4
  have d5 := q.cell 5
  have d6 := q.cell 6
  have d7 := q.cell 7
  simp only [List.getElem?_toArray, List.getElem?_cons_zero, List.getElem?_cons_succ] at d0 d1 d2 d3 d4 d5 d6 d7
  have n7 := q.frozen 7
  go_upto_region 4 with (go_at_call 7; refine (hM.out _).mono ?_; clear hM; rintro e w9 ⟨rfl, rfl⟩)
  have qs : Blk (W3.setCell ⟨w2.heap.size, 7, none⟩ (.string (s ++ ⟨#[120]⟩))) w2.heap.size 28 #[.int .i64 x0, .slice x1A x1n x1c, .string x2, .slice x3A x3n x3c, .int .i64 x4, .slice x5A x5n x5c, .slice x6A x6n x6c, .string (s ++ ⟨#[120]⟩)] := q.put 7 _
  have hgs : Below w2.heap.size w2 (W3.setCell ⟨w2.heap.size, 7, none⟩ (.string (s ++ ⟨#[120]⟩))) := bSet hg _ _ (Nat.le_refl _)
  clear d0 d1 d2 d3 d4 d5 d6 d7 n7 q hg
  generalize W3.setCell ⟨w2.heap.size, 7, none⟩ (.string (s ++ ⟨#[120]⟩)) = W4 at *
  have d0 := qs.cell 0
  have d1 := qs.cell 1
  have d2 := qs.cell 2
  have d3 := qs.cell 3
  have d4 := qs.cell 4
  have d5 := qs.cell 5
  have d6 := qs.cell 6
  have d7 := qs.cell 7
  simp only [List.getElem?_toArray, List.getElem?_cons_zero, List.getElem?_cons_succ] at d0 d1 d2 d3 d4 d5 d6 d7
  go_wp2_with fail
  refine (c0.out _ _ (lY'.out _ _ _ hgs hYY.out)).mono ?_
  rintro e V0 ⟨rfl, hb20⟩
  have q0 := qs.step hb20
  have g0 := bStep hgs hb20
  clear d0 d1 d2 d3 d4 d5 d6 d7 qs hgs hb20 c0
  have d0 := q0.cell 0
  have d1 := q0.cell 1
  have d2 := q0.cell 2
  have d3 := q0.cell 3
  have d4 := q0.cell 4
  have d5 := q0.cell 5
  have d6 := q0.cell 6
  have d7 := q0.cell 7
  simp only [List.getElem?_toArray, List.getElem?_cons_zero, List.getElem?_cons_succ] at d0 d1 d2 d3 d4 d5 d6 d7
  go_wp2_with fail
  refine (c1.out _ _ (lY'.out _ _ _ g0 hYY.out)).mono ?_
  rintro e V1 ⟨rfl, hb21⟩
  have q1 := q0.step hb21
  have g1 := bStep g0 hb21
  clear d0 d1 d2 d3 d4 d5 d6 d7 q0 g0 hb21 c1
  have d0 := q1.cell 0
  have d1 := q1.cell 1
  have d2 := q1.cell 2
  have d3 := q1.cell 3
  have d4 := q1.cell 4
  have d5 := q1.cell 5
  have d6 := q1.cell 6
  have d7 := q1.cell 7
  simp only [List.getElem?_toArray, List.getElem?_cons_zero, List.getElem?_cons_succ] at d0 d1 d2 d3 d4 d5 d6 d7
  go_wp2_with fail
  refine (c2.out _ _ (lY'.out _ _ _ g1 hYY.out)).mono ?_
  rintro e V2 ⟨rfl, hb22⟩
  have q2 := q1.step hb22
  have g2 := bStep g1 hb22
  clear d0 d1 d2 d3 d4 d5 d6 d7 q1 g1 hb22 c2
  have d0 := q2.cell 0
  have d1 := q2.cell 1
  have d2 := q2.cell 2
  have d3 := q2.cell 3
  have d4 := q2.cell 4
  have d5 := q2.cell 5
  have d6 := q2.cell 6
  have d7 := q2.cell 7
  simp only [List.getElem?_toArray, List.getElem?_cons_zero, List.getElem?_cons_succ] at d0 d1 d2 d3 d4 d5 d6 d7
  go_wp2_with fail
  refine (c3.out _ _ (lY'.out _ _ _ g2 hYY.out)).mono ?_
  rintro e V3 ⟨rfl, hb23⟩
  have q3 := q2.step hb23
  have g3 := bStep g2 hb23
  clear d0 d1 d2 d3 d4 d5 d6 d7 q2 g2 hb23 c3
  have d0 := q3.cell 0
  have d1 := q3.cell 1
  have d2 := q3.cell 2
  have d3 := q3.cell 3
  have d4 := q3.cell 4
  have d5 := q3.cell 5
  have d6 := q3.cell 6
  have d7 := q3.cell 7
  simp only [List.getElem?_toArray, List.getElem?_cons_zero, List.getElem?_cons_succ] at d0 d1 d2 d3 d4 d5 d6 d7
  go_wp2_with fail
  refine (c4.out _ _ (lY'.out _ _ _ g3 hYY.out)).mono ?_
  rintro e V4 ⟨rfl, hb24⟩
  have q4 := q3.step hb24
  have g4 := bStep g3 hb24
  clear d0 d1 d2 d3 d4 d5 d6 d7 q3 g3 hb24 c4
  have d0 := q4.cell 0
  have d1 := q4.cell 1
  have d2 := q4.cell 2
  have d3 := q4.cell 3
  have d4 := q4.cell 4
  have d5 := q4.cell 5
  have d6 := q4.cell 6
  have d7 := q4.cell 7
  simp only [List.getElem?_toArray, List.getElem?_cons_zero, List.getElem?_cons_succ] at d0 d1 d2 d3 d4 d5 d6 d7
  go_wp2_with fail
  refine (c5.out _ _ (lY'.out _ _ _ g4 hYY.out)).mono ?_
  rintro e V5 ⟨rfl, hb25⟩
  have q5 := q4.step hb25
  have g5 := bStep g4 hb25
  clear d0 d1 d2 d3 d4 d5 d6 d7 q4 g4 hb25 c5
  have d0 := q5.cell 0
  have d1 := q5.cell 1
  have d2 := q5.cell 2
  have d3 := q5.cell 3
  have d4 := q5.cell 4
  have d5 := q5.cell 5
  have d6 := q5.cell 6
  have d7 := q5.cell 7
  simp only [List.getElem?_toArray, List.getElem?_cons_zero, List.getElem?_cons_succ] at d0 d1 d2 d3 d4 d5 d6 d7
  go_wp2_with fail
  refine (c6.out _ _ (lY'.out _ _ _ g5 hYY.out)).mono ?_
  rintro e V6 ⟨rfl, hb26⟩
  have q6 := q5.step hb26
  have g6 := bStep g5 hb26
  clear d0 d1 d2 d3 d4 d5 d6 d7 q5 g5 hb26 c6
  have d0 := q6.cell 0
  have d1 := q6.cell 1
  have d2 := q6.cell 2
  have d3 := q6.cell 3
  have d4 := q6.cell 4
  have d5 := q6.cell 5
  have d6 := q6.cell 6
  have d7 := q6.cell 7
  simp only [List.getElem?_toArray, List.getElem?_cons_zero, List.getElem?_cons_succ] at d0 d1 d2 d3 d4 d5 d6 d7
  go_wp2_with fail
  refine (c7.out _ _ (lY'.out _ _ _ g6 hYY.out)).mono ?_
  rintro e V7 ⟨rfl, hb27⟩
  have q7 := q6.step hb27
  have g7 := bStep g6 hb27
  clear d0 d1 d2 d3 d4 d5 d6 d7 q6 g6 hb27 c7
  have d0 := q7.cell 0
  have d1 := q7.cell 1
  have d2 := q7.cell 2
  have d3 := q7.cell 3
  have d4 := q7.cell 4
  have d5 := q7.cell 5
  have d6 := q7.cell 6
  have d7 := q7.cell 7
  simp only [List.getElem?_toArray, List.getElem?_cons_zero, List.getElem?_cons_succ] at d0 d1 d2 d3 d4 d5 d6 d7
  go_wp2_with fail
  refine (c8.out _ _ (lY'.out _ _ _ g7 hYY.out)).mono ?_
  rintro e V8 ⟨rfl, hb28⟩
  have q8 := q7.step hb28
  have g8 := bStep g7 hb28
  clear d0 d1 d2 d3 d4 d5 d6 d7 q7 g7 hb28 c8
  have d0 := q8.cell 0
  have d1 := q8.cell 1
  have d2 := q8.cell 2
  have d3 := q8.cell 3
  have d4 := q8.cell 4
  have d5 := q8.cell 5
  have d6 := q8.cell 6
  have d7 := q8.cell 7
  simp only [List.getElem?_toArray, List.getElem?_cons_zero, List.getElem?_cons_succ] at d0 d1 d2 d3 d4 d5 d6 d7
  go_wp2_with fail
  refine (c9.out _ _ (lY'.out _ _ _ g8 hYY.out)).mono ?_
  rintro e V9 ⟨rfl, hb29⟩
  have q9 := q8.step hb29
  have g9 := bStep g8 hb29
  clear d0 d1 d2 d3 d4 d5 d6 d7 q8 g8 hb29 c9
  have d0 := q9.cell 0
  have d1 := q9.cell 1
  have d2 := q9.cell 2
  have d3 := q9.cell 3
  have d4 := q9.cell 4
  have d5 := q9.cell 5
  have d6 := q9.cell 6
  have d7 := q9.cell 7
  simp only [List.getElem?_toArray, List.getElem?_cons_zero, List.getElem?_cons_succ] at d0 d1 d2 d3 d4 d5 d6 d7
  go_wp2_with fail
  refine (c10.out _).mono ?_
  rintro e V10 ⟨rfl, hb30⟩
  have gF := Lib.hid (bStep hb2 (bStep g9 hb30))
  go_wp2_with fail
  exact hR.out _ _ ⟨rfl, gF.out⟩
end Go.Proofs.YtjnmkdahbcmfaaaGreat

/- slices.All over the productions of a grammar; grammar.prods. -/
namespace Go.Proofs.YtjnmkdahbcmfaaaGreat
open Go.RowKit Go.Shelf
set_option linter.unusedVariables false
attribute [local go_sem] Oper.semAt_some
structure PV where
  p : Pr
  ra : Option Addr
  rc : Nat
  deriving Inhabited
def PV.v (x : PV) : Value := .agg #[.int .i64 x.p.left, .slice x.ra x.p.right.length x.rc]
def PVok (w : World) (B : Nat) (x : PV) : Prop := Rd1 w B x.ra x.p.right.length (ints x.p.right) ∧ x.p.right.length ≤ x.rc ∧ x.rc ≤ maxLen
def RdV (w : World) (B : Nat) (A : Option Addr) (n : Nat) (vs : List PV) : Prop :=
  vs.length = n ∧ (n = 0 ∨ ∃ b off, A = some ⟨b, off, none⟩ ∧ b < B ∧ ∀ (i : Nat) (x : PV), vs[i]? = some x → w.cell? ⟨b, off + i * 2, none⟩ = some (.int .i64 x.p.left) ∧ w.cell? ⟨b, off + i * 2 + 1, none⟩ = some (.slice x.ra x.p.right.length x.rc))
theorem RdV.below {w w' : World} {B : Nat} {A : Option Addr} {n : Nat} {vs : List PV} (h : RdV w B A n vs) (hb : Below B w w') : RdV w' B A n vs := by
  refine ⟨h.1, ?_⟩
  rcases h.2 with h0 | ⟨b, off, rfl, hlt, hc⟩
  · exact .inl h0
  · refine .inr ⟨b, off, rfl, hlt, fun i x hx => ?_⟩
    obtain ⟨h1, h2⟩ := hc i x hx
    exact ⟨by rw [hb.cell (p := ⟨b, off + i * 2, none⟩) hlt]; exact h1, by rw [hb.cell (p := ⟨b, off + i * 2 + 1, none⟩) hlt]; exact h2⟩
theorem PVok.below {w w' : World} {B : Nat} {x : PV} (h : PVok w B x) (hb : Below B w w') : PVok w' B x := ⟨h.1.below hb, h.2⟩
end Go.Proofs.YtjnmkdahbcmfaaaGreat

/- grammar.many. -/
namespace Go.Proofs.YtjnmkdahbcmfaaaGreat
open Go.RowKit Go.Shelf
set_option linter.unusedVariables false
attribute [local go_sem] Oper.semAt_some
theorem blk_own {β : Type} (g : Nat) (t : TypeId) (f : β → Array Value) : Own (fun s W => Blk W g t (f s)) := fun s X Y row hs hg hr =>
  hs.grown hg (fun e => by obtain ⟨o, ho, hc⟩ := hr g e.symm; have : X.heap[g]? = some (.cells (f s) t (0, 0)) := hs; rw [this] at ho; cases ho; cases hc)
end Go.Proofs.YtjnmkdahbcmfaaaGreat

/- A map of keys to true, whatever the keys. -/
namespace Go.Proofs.YtjnmkdahbcmfaaaGreat
open Go.ChangeShapes Go.WideShapes Go.ChangeAt Go.RowKit
open Go.ChangeMaps (heap_setBlock_same setBlock)
open Go.MapKept (Stamped stamped_push)
set_option linter.unusedVariables false
structure KeyEnc (α : Type) where
  K : TypeId
  enc : α → Value
  ok : α → Prop
  keyed : Maps.Keyed Tryz.prog K
  key : ∀ x, ok x → ∃ l, keyOf Tryz.prog K (enc x) = some l
  inj : ∀ x y, enc x = enc y → x = y
def MapK {α : Type} (E : KeyEnc α) (w : World) (b : Nat) (s : List α) : Prop :=
  ∃ (es : Array MapEntry) (clock : Nat), w.heap[b]? = some (.map es clock) ∧ es.toList.map (·.key) = s.map E.enc ∧ (∀ e ∈ es.toList, e.val = .bool true) ∧ (∀ x ∈ s, E.ok x) ∧ s.Nodup ∧ Stamped es clock
theorem MapK.lt {α : Type} {E : KeyEnc α} {w : World} {b : Nat} {s : List α} (h : MapK E w b s) : b < w.heap.size := by
  obtain ⟨es, clock, hb, _⟩ := h
  exact (Array.getElem?_eq_some_iff.1 hb).1
theorem MapK.grown {α : Type} {E : KeyEnc α} {w w' : World} {b : Nat} {s : List α} {row : Option Nat} (h : MapK E w b s) (hg : w.grownBy w' row) (hb : some b ≠ row) : MapK E w' b s := by
  have hlt := h.lt
  obtain ⟨es, clock, h1, h2⟩ := h
  exact ⟨es, clock, (hg.block b hlt hb).trans h1, h2⟩
theorem MapK.step {α : Type} {E : KeyEnc α} {w w' : World} {b : Nat} {s : List α} (h : MapK E w b s) (hb : Below w.heap.size w w') : MapK E w' b s := by
  have hlt := h.lt
  obtain ⟨es, clock, h1, h2⟩ := h
  exact ⟨es, clock, (hb.block b hlt).trans h1, h2⟩
theorem MapK.keys {α : Type} {E : KeyEnc α} {es : Array MapEntry} {s : List α} (hk : es.toList.map (·.key) = s.map E.enc) (hw : ∀ x ∈ s, E.ok x) : ∀ e ∈ es.toList, ∃ l, keyOf Tryz.prog E.K e.key = some l := by
  intro e he
  have h1 : e.key ∈ es.toList.map (·.key) := List.mem_map_of_mem he
  rw [hk] at h1
  obtain ⟨x, hx, hxe⟩ := List.mem_map.mp h1
  rw [← hxe]
  exact E.key x (hw x hx)
theorem MapK.look {α : Type} [DecidableEq α] {E : KeyEnc α} {t : TypeId} (ht : Tryz.prog.underlying t = some (.map E.K 4)) {w : World} {b : Nat} {s : List α} (h : MapK E w b s) (x : α) (hx : E.ok x) :
    (Instr.lookup t (.map (some b)) (E.enc x) false).run Tryz.prog w = .ok (.bool (decide (x ∈ s))) w := by
  obtain ⟨es, clock, hb, hk, hv, hw, hn, hst⟩ := h
  obtain ⟨l, hl⟩ := E.key x hx
  have hz := zero_bool w
  rcases E.keyed.find w hl es.toList (MapK.keys hk hw) with ⟨h1, h2⟩ | ⟨j, e, h1, h2, h3⟩
  · have hns : x ∉ s := by
      intro hm
      have : E.enc x ∈ es.toList.map (·.key) := by rw [hk]; exact List.mem_map_of_mem hm
      obtain ⟨e, he, hee⟩ := List.mem_map.mp this
      exact h2 e he hee
    simp [Instr.lookup, run_underlying ht, MapKept.run_getObj_map hb, E.keyed.check w _ hl, h1, hz, Result.andThen, hns]
  · have he := List.mem_of_getElem? h2
    have hs : x ∈ s := by
      have : e.key ∈ es.toList.map (·.key) := List.mem_map_of_mem he
      rw [hk, h3] at this
      obtain ⟨y, hy, hyy⟩ := List.mem_map.mp this
      rw [← E.inj _ _ hyy]; exact hy
    simp [Instr.lookup, run_underlying ht, MapKept.run_getObj_map hb, E.keyed.check w _ hl, h1, Result.andThen, hs, hv e he]
theorem MapK.put {α : Type} [DecidableEq α] {E : KeyEnc α} {t : TypeId} (ht : Tryz.prog.underlying t = some (.map E.K 4)) {w : World} {b : Nat} {s : List α} (h : MapK E w b s) (x : α) (hx : E.ok x) :
    ∃ w', (Instr.mapUpdate t (.map (some b)) (E.enc x) (.bool true)).run Tryz.prog w = .ok () w' ∧ MapK E w' b (if x ∈ s then s else s ++ [x]) ∧ w.mapTurned w' b := by
  obtain ⟨es, clock, hb, hk, hv, hw, hn, hst⟩ := h
  obtain ⟨l, hl⟩ := E.key x hx
  rcases E.keyed.find w hl es.toList (MapK.keys hk hw) with ⟨h1, h2⟩ | ⟨j, e, h1, h2, h3⟩
  · have hns : x ∉ s := by
      intro hm
      have : E.enc x ∈ es.toList.map (·.key) := by rw [hk]; exact List.mem_map_of_mem hm
      obtain ⟨e, he, hee⟩ := List.mem_map.mp this
      exact h2 e he hee
    rw [if_neg hns]
    refine ⟨setBlock w b (.map (es.push { key := E.enc x, val := .bool true, born := clock }) (clock + 1)), ?_, ⟨_, _, heap_setBlock_same hb _, by simp [hk], ?_, ?_, ?_, stamped_push hst h2⟩, ⟨es, clock, _, _, hb, rfl⟩⟩
    · simp [Instr.mapUpdate, run_underlying ht, MapKept.run_getObj_map hb, E.keyed.check w _ hl, h1, MapKept.run_setObj_map _ hb, Result.andThen, setBlock]
    · intro e he
      simp at he
      rcases he with he | rfl
      · exact hv e (by simpa using he)
      · rfl
    · intro y hy
      rcases List.mem_append.mp hy with hy | hy
      · exact hw y hy
      · have : y = x := by simpa using hy
        rw [this]; exact hx
    · rw [List.nodup_append]
      refine ⟨hn, by simp, ?_⟩
      intro a ha c hc
      have : c = x := by simpa using hc
      rw [this]; intro e; exact hns (e ▸ ha)
  · have he := List.mem_of_getElem? h2
    have hs : x ∈ s := by
      have : e.key ∈ es.toList.map (·.key) := List.mem_map_of_mem he
      rw [hk, h3] at this
      obtain ⟨y, hy, hyy⟩ := List.mem_map.mp this
      rw [← E.inj _ _ hyy]; exact hy
    rw [if_pos hs]
    have hj : es[j]? = some e := by simpa using h2
    have hee : ({ e with key := E.enc x, val := .bool true } : MapEntry) = e := by
      cases e; simp at h3; have := hv _ he; simp at this; simp [h3, this]
    have hmod : es.modify j (fun e => { e with key := E.enc x, val := .bool true }) = es := by
      apply Array.ext_getElem?
      intro i
      rw [Array.getElem?_modify]
      split
      · rename_i h; subst h; rw [hj]; simp [hee]
      · rfl
    refine ⟨setBlock w b (.map es clock), ?_, ⟨es, clock, heap_setBlock_same hb _, hk, hv, hw, hn, hst⟩, ⟨es, clock, _, _, hb, rfl⟩⟩
    have hst2 := E.keyed.stays w hl
    have hkey : (((es[j]?).map (·.key)).getD (E.enc x)) = E.enc x := by rw [hj]; simp [h3]
    simp [Instr.mapUpdate, run_underlying ht, MapKept.run_getObj_map hb, E.keyed.check w _ hl, h1, hj, h3, hst2, hmod, MapKept.run_setObj_map _ hb, Result.andThen, setBlock]
section
variable (w : World) {ops : Array Oper} {rest : List Oper} {o : Oper} {a : Act} {Q : Exit → Act → World → Prop} {α : Type} [DecidableEq α] {E : KeyEnc α}
theorem wpList_layK {t : TypeId} (ht : Tryz.prog.underlying t = some (.map E.K 4)) (hg : o.guard = none) (m x v : Operand) (hop : o.op = Op.mapUpdate t m x v) (b : Nat) (s s' : List α) (k : α) (hs : (k ∈ s ∧ s' = s) ∨ (k ∉ s ∧ s' = s ++ [k])) (hm : a.eval m = .map (some b)) (hx : a.eval x = E.enc k) (hv : a.eval v = .bool true) (h : MapK E w b s) (hk : E.ok k)
    (hK : ∀ w', MapK E w' b s' → w.mapTurned w' b → wpList Tryz.prog ops Q rest (a.put o.dst undef) w') : wpList Tryz.prog ops Q (o :: rest) a w := by
  refine wpList_plain hg fun K' hK' => ?_
  obtain ⟨w', hrun, h1, h2⟩ := h.put ht k hk
  have e : (if k ∈ s then s else s ++ [k]) = s' := by
    rcases hs with ⟨h, rfl⟩ | ⟨h, rfl⟩
    · rw [if_pos h]
    · rw [if_neg h]
  rw [e] at h1
  unfold Oper.wp
  simp [execOp, hop, hm, hx, hv, hrun, Result.andThen]
  exact hK' _ _ (hK w' h1 h2)
end
theorem turned_grown {w w' : World} {b : Nat} (h : w.mapTurned w' b) : w.grownBy w' (some b) := by
  obtain ⟨es, clock, es', clock', hb, rfl⟩ := h
  exact ⟨rfl, rfl, rfl, by simp [setBlock], fun i hi hne => by
    have hne' : b ≠ i := fun e => hne (by rw [e])
    simp only [setBlock]
    rw [Array.getElem?_setIfInBounds_ne hne']⟩
def strKey : KeyEnc ByteArray where
  K := 9
  enc := Value.string
  ok := fun s => s.size ≤ maxLen
  keyed := Maps.string_keyed (by kernel_rfl)
  key := fun x hx => ⟨_, Go.WideMaps.keyOf_string_mk (by kernel_rfl) hx⟩
  inj := fun x y h => by injection h
end Go.Proofs.YtjnmkdahbcmfaaaGreat

/- grammar.named, grammar.different. -/
namespace Go.Proofs.YtjnmkdahbcmfaaaGreat
open Go.ChangeShapes Go.WideShapes Go.ChangeAt Go.RowKit
set_option linter.unusedVariables false
def SP (w : World) (g : Gr) (a : GA) (w' : World) : Prop := GB w g a w'
theorem SP.all {w : World} {g : Gr} {a : GA} {w' : World} (h : SP w g a w') : w'.cell? ⟨w.heap.size, 1, none⟩ = some (.slice a.ta g.toks.length a.tc) ∧ w'.cell? ⟨w.heap.size, 2, none⟩ = some (.string g.sep) ∧ w'.cell? ⟨w.heap.size, 3, none⟩ = some (.slice a.na g.names.length a.nc) ∧ SP w g a w' :=
  ⟨h.1.cell 1, h.1.cell 2, h.1.cell 3, h⟩
theorem SP.drew {w : World} {g : Gr} {a : GA} {w' : World} (h : SP w g a w') : SP w g a w'.drew := GB.drewN h 1
theorem SP.alloc {w : World} {g : Gr} {a : GA} {w' : World} (h : SP w g a w') (o : Obj) : SP w g a (w'.alloc o) := GB.alloc h o
end Go.Proofs.YtjnmkdahbcmfaaaGreat

/- grammar.different. -/
namespace Go.Proofs.YtjnmkdahbcmfaaaGreat
open Go.ChangeShapes Go.WideShapes Go.ChangeAt Go.RowKit
set_option linter.unusedVariables false
def SD (w : World) (g : Gr) (a : GA) (w' : World) : Prop := GB w g a w' ∧ MapK strKey w' (w.heap.size + 1) []
theorem SD.all {w : World} {g : Gr} {a : GA} {w' : World} (h : SD w g a w') : w'.cell? ⟨w.heap.size, 1, none⟩ = some (.slice a.ta g.toks.length a.tc) ∧ w'.cell? ⟨w.heap.size, 2, none⟩ = some (.string g.sep) ∧ w'.cell? ⟨w.heap.size, 3, none⟩ = some (.slice a.na g.names.length a.nc) ∧ SD w g a w' :=
  ⟨h.1.1.cell 1, h.1.1.cell 2, h.1.1.cell 3, h⟩
theorem SD.step {w : World} {g : Gr} {a : GA} {w' w1 : World} (h : SD w g a w') (hb : Below w'.heap.size w' w1) : SD w g a w1 := ⟨h.1.step hb, h.2.step hb⟩
theorem SD.drew {w : World} {g : Gr} {a : GA} {w' : World} (h : SD w g a w') : SD w g a w'.drew := h.step (Below.refl _ _).drew
theorem SD.alloc {w : World} {g : Gr} {a : GA} {w' : World} (h : SD w g a w') (o : Obj) : SD w g a (w'.alloc o) := h.step ((Below.refl _ _).alloc (Nat.le_refl _) o)
theorem SD.grown {w : World} {g : Gr} {a : GA} {w' w1 : World} {row : Option Nat} (h : SD w g a w') (hg : w'.grownBy w1 row) (hr : ∀ k, row = some k → w.heap.size + 1 < k) : SD w g a w1 :=
  ⟨⟨h.1.1.grown hg (fun e => by have := hr _ e.symm; omega), h.1.2.1.below ((Below.refl _ _).grown hg h.1.2.2.size (fun k hk => by have := hr k hk; omega)), h.1.2.2.grown hg h.1.2.2.size (fun k hk => by have := hr k hk; omega)⟩, h.2.grown hg (fun e => by have := hr _ e.symm; omega)⟩
theorem Rd1.grown {w w' : World} {B : Nat} {A : Option Addr} {n : Nat} {l : List Value} {row : Option Nat} (h : Rd1 w B A n l) (hg : w.grownBy w' row) (hB : B ≤ w.heap.size) (hne : ∀ a, A = some a → some a.block ≠ row) : Rd1 w' B A n l := by
  refine ⟨h.1, ?_⟩
  rcases h.2 with h0 | ⟨b, off, rfl, hlt, hc⟩
  · exact .inl h0
  · exact .inr ⟨b, off, rfl, hlt, fun i x hx => (World.cell?_of_block (a := ⟨b, off + i, none⟩) (hg.block b (by omega) (hne _ rfl))).trans (hc i x hx)⟩
theorem mapk_new {α : Type} (E : KeyEnc α) (w : World) (b : Nat) (hb : b = w.heap.size) : MapK E (w.alloc (.map #[] 0)) b [] := by
  subst hb
  exact ⟨#[], 0, heap_alloc_new w _, by simp, by simp, by simp, by simp, (MapKept.stamped_iff _ _).2 (by simp)⟩
end Go.Proofs.YtjnmkdahbcmfaaaGreat

/- grammar.symbols. -/
namespace Go.Proofs.YtjnmkdahbcmfaaaGreat
open Go.RowKit Go.Shelf
set_option linter.unusedVariables false
attribute [local go_sem] Oper.semAt_some
theorem GB.grown {w : World} {g : Gr} {a : GA} {W W1 : World} {row : Option Nat} (h : GB w g a W) (hg : W.grownBy W1 row) (hr : ∀ k, row = some k → w.heap.size < k) : GB w g a W1 :=
  ⟨h.1.grown hg (fun e => by have := hr _ e.symm; omega), h.2.1.below ((Below.refl _ _).grown hg h.2.2.size (fun k hk => by have := hr k hk; omega)), h.2.2.grown hg h.2.2.size (fun k hk => by have := hr k hk; omega)⟩
end Go.Proofs.YtjnmkdahbcmfaaaGreat
