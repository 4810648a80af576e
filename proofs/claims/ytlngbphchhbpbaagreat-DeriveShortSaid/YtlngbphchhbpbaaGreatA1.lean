/- Walks and plain laws, part 1 of 7: Plain functions of layer 3 (name) on byte strings: what is a word, a name, small, capital, and how two strings are ordered. No program in sight; What a call that makes memory keeps; what a slice reads; Maps of keys to true, whatever the keys, and a range over one; Texts of at most 12 terminals as values and as keys of a map; Contracts of the functions of layer 3 (name): decimal, Make and what they reach; Contracts of layer 3 (name): Make, Word, Language, Check, Small, Capital, Compare, of the program and of the reference; Contracts of layer 3 (name), second part: the reference's Word, Language, Check, Small, Capital, Compare, of the program and of the reference; Contracts of slices.Index and slices.Contains at []string, and of layer 3's Language, Check, Small, Capital, Compare; Contracts of layer 3 (name): Small, Capital, Compare, of the program and of the reference; awake; (derive.text).plus; What the texts on grammars take of those on looks; Grammars in memory; (derive.text).plus: the walk; Grammars: what is right, plain; the reference 09: nonterm, terminal, full, twice; append, on slices of the call's own of one-cell values. Conditions: none beyond those that each theorem states. -/
import Derived.WalkKit
import Derived.ProofKit
import Derived.Lib.Hide
import Derived.Below
import Derived.Laws.OwnMore
import Derived.Deep.Draws
import Derived.Laws.Rows
import Derived.OwnWalk
import Derived.Deep.QuietTactic
import Derived.BigQuiet
import Derived.Test.YtlngbphchhbpbaaGreatProg
import Derived.Maps.Keyed
import Derived.Maps.Range
import Derived.StringKeys
import Derived.DeepKeys5
import Derived.Test.YtlngbphchhbpbaaGreatRows
import Derived.OpenShut
import Derived.ShutString
import Derived.WalkLawsBesides
import Derived.WalkSpells
import Derived.Outline
import Derived.IntWalk
import Derived.Deep.LoopGhost
import Derived.Lib.Strings
import Derived.Laws.CopyOwn
import Derived.Laws.Tables
import Derived.Maps.OwnSet
import Derived.LoopTactic
import Derived.RegionTactic
import Derived.ChangeAlike
import Derived.Laws.NewBlocks
import Derived.Laws.AppendOwn
import Derived.Maps.AppendAt
import Derived.Deep.AppendLies
import Derived.Deep.RegionHeld3
import Derived.Deep.Cut
import Derived.StillTailTactics
import Derived.Deep.CutBlock
import Derived.Deep.DeepCutAuto
/- Plain functions of layer 3 (name) on byte strings: what is a word, a name, small, capital, and how two strings are ordered. No program in sight. -/
namespace Go.Proofs.YtlngbphchhbpbaaGreat
set_option linter.unusedVariables false

def letrI (r : Int) : Bool := decide ((97 ≤ r ∧ r ≤ 122) ∨ (65 ≤ r ∧ r ≤ 90))
def digiI (r : Int) : Bool := decide (48 ≤ r ∧ r ≤ 57)
def badI (i : Nat) (r : Int) : Bool := !letrI r && (decide (i = 0) || (!digiI r && decide (r ≠ 95)))
def byteAt (s : ByteArray) (i : Nat) : Int := ((s.data.toList.getD i 0).toNat : Int)
def goodB (s : ByteArray) (n : Nat) : Bool := (List.range n).all fun i => !badI i (byteAt s i)
def wordE (s : ByteArray) : Int := if s.size = 0 then 5 else if goodB s s.size = true then (if 12 < s.size then 4 else 0) else 3
def langB (s : ByteArray) : Bool := decide (s = ⟨#[108, 111, 111, 107, 97, 104, 101, 97, 100]⟩) || (decide (s = ⟨#[116, 111, 107, 101, 110]⟩) || (decide (s = ⟨#[115, 101, 112, 97, 114, 97, 116, 111, 114]⟩) || decide (s = ⟨#[115, 116, 97, 114, 116]⟩)))
def checkE (s : ByteArray) : Int := if wordE s = 0 ∧ langB s = true then 12 else wordE s
def smallB (s : ByteArray) : Bool := decide (checkE s = 0) && decide (97 ≤ byteAt s 0)
def capB (s : ByteArray) : Bool := decide (checkE s = 0) && decide (byteAt s 0 < 97)

theorem byteAt_lt (s : ByteArray) (i : Nat) : 0 ≤ byteAt s i ∧ byteAt s i < 256 := by
  unfold byteAt
  have := (s.data.toList.getD i 0).toNat_lt
  omega

theorem byteAt_get (s : ByteArray) (i : Nat) (h : i < s.size) : byteAt s i = ((s[i]'h).toNat : Int) := by
  have h' : i < s.data.toList.length := by simpa using h
  unfold byteAt
  rw [List.getD_eq_getElem?_getD, List.getElem?_eq_getElem h']
  rfl

theorem goodB_iff (s : ByteArray) (n : Nat) : goodB s n = true ↔ ∀ i, i < n → badI i (byteAt s i) = false := by
  simp [goodB, List.all_eq_true]

theorem wordE_empty (s : ByteArray) (h : s.size = 0) : wordE s = 5 := by simp [wordE, h]
theorem wordE_bad (s : ByteArray) (i : Nat) (h : i < s.size) (hb : badI i (byteAt s i) = true) : wordE s = 3 := by
  have hg : ¬ goodB s s.size = true := by
    rw [goodB_iff]; intro hh; rw [hh i h] at hb; cases hb
  have h0 : ¬ s.size = 0 := by omega
  unfold wordE
  rw [if_neg h0, if_neg hg]
theorem wordE_long (s : ByteArray) (hg : ∀ i, i < s.size → badI i (byteAt s i) = false) (h : 12 < s.size) : wordE s = 4 := by
  have h0 : ¬ s.size = 0 := by omega
  have hg := (goodB_iff s s.size).2 hg
  simp only [wordE, h0, hg, h, if_false, if_true]
theorem wordE_ok (s : ByteArray) (hg : ∀ i, i < s.size → badI i (byteAt s i) = false) (h0 : 0 < s.size) (h : ¬ 12 < s.size) : wordE s = 0 := by
  have h0 : ¬ s.size = 0 := by omega
  have hg := (goodB_iff s s.size).2 hg
  simp only [wordE, h0, hg, h, if_false, if_true]
theorem wordE_zero (s : ByteArray) (h : wordE s = 0) : 0 < s.size ∧ s.size ≤ 12 ∧ ∀ i, i < s.size → badI i (byteAt s i) = false := by
  unfold wordE at h
  split at h
  · cases h
  · split at h
    · rename_i h0 hg
      split at h
      · cases h
      · exact ⟨by omega, by omega, (goodB_iff _ _).1 hg⟩
    · cases h
theorem wordE_cases (s : ByteArray) : wordE s = 5 ∨ wordE s = 3 ∨ wordE s = 4 ∨ wordE s = 0 := by
  unfold wordE
  split
  · simp
  · split
    · split <;> simp
    · simp
/-- the first byte of a word is a letter -/
theorem word_first (s : ByteArray) (h : wordE s = 0) : letrI (byteAt s 0) = true := by
  obtain ⟨h0, _, hg⟩ := wordE_zero s h
  have := hg 0 h0
  simp only [badI, decide_true, Bool.true_or, Bool.and_true, Bool.not_eq_false'] at this
  exact this
theorem checkE_zero (s : ByteArray) (h : checkE s = 0) : wordE s = 0 ∧ langB s = false := by
  unfold checkE at h
  split at h
  · cases h
  · rename_i hn
    refine ⟨h, ?_⟩
    cases hl : langB s with
    | false => rfl
    | true => exact absurd ⟨h, hl⟩ hn

/-- comparison of two byte lists, byte by byte -/
def cmpL : List UInt8 → List UInt8 → Int
  | [], [] => 0
  | [], _ :: _ => -1
  | _ :: _, [] => 1
  | a :: l, b :: m => if a < b then -1 else if b < a then 1 else cmpL l m
def cmpB (a b : ByteArray) : Int := cmpL a.data.toList b.data.toList

open Op in
theorem less_iff : ∀ l m, bytesLess l m = decide (cmpL l m = -1)
  | [], [] => by simp [bytesLess, cmpL]
  | [], _ :: _ => by simp [bytesLess, cmpL]
  | _ :: _, [] => by simp [bytesLess, cmpL]
  | a :: l, b :: m => by
    simp only [bytesLess, cmpL]
    by_cases h1 : a < b
    · simp [h1]
    · by_cases h2 : b < a
      · have h3 : (a == b) = false := by
          simp only [beq_eq_false_iff_ne, ne_eq]; intro h; subst h; exact h1 h2
        simp [h1, h2, h3]
      · have h3 : a = b := by
          rw [UInt8.lt_iff_toNat_lt] at h1 h2; exact UInt8.toNat_inj.1 (by omega)
        subst h3
        simp [h1, less_iff l m]

theorem u8_tri (a b : UInt8) (h1 : ¬ a < b) (h2 : ¬ b < a) : a = b := by
  rw [UInt8.lt_iff_toNat_lt] at h1 h2
  exact UInt8.toNat_inj.1 (by omega)

theorem cmpL_refl : ∀ l, cmpL l l = 0
  | [] => rfl
  | a :: l => by
    have : ¬ a < a := by rw [UInt8.lt_iff_toNat_lt]; omega
    simp [cmpL, this, cmpL_refl l]
theorem cmpL_eq : ∀ l m, cmpL l m = 0 → l = m
  | [], [], _ => rfl
  | [], _ :: _, h => by simp [cmpL] at h
  | _ :: _, [], h => by simp [cmpL] at h
  | a :: l, b :: m, h => by
    simp only [cmpL] at h
    split at h
    · cases h
    · split at h
      · cases h
      · rename_i h1 h2
        rw [u8_tri a b h1 h2, cmpL_eq l m h]
theorem cmpL_anti : ∀ l m, cmpL m l = - cmpL l m
  | [], [] => rfl
  | [], _ :: _ => rfl
  | _ :: _, [] => rfl
  | a :: l, b :: m => by
    simp only [cmpL]
    by_cases h1 : a < b
    · have h2 : ¬ b < a := by rw [UInt8.lt_iff_toNat_lt] at *; omega
      simp [h1, h2]
    · by_cases h2 : b < a
      · simp [h1, h2]
      · simp [h1, h2, cmpL_anti l m]
theorem cmpL_vals : ∀ l m, cmpL l m = -1 ∨ cmpL l m = 0 ∨ cmpL l m = 1
  | [], [] => by simp [cmpL]
  | [], _ :: _ => by simp [cmpL]
  | _ :: _, [] => by simp [cmpL]
  | a :: l, b :: m => by
    simp only [cmpL]
    split
    · simp
    · split
      · simp
      · exact cmpL_vals l m
/-- the order is transitive, and strict on one side is strict altogether -/
theorem cmpL_trans : ∀ l m n, cmpL l m ≤ 0 → cmpL m n ≤ 0 → cmpL l n ≤ 0 ∧ (cmpL l m < 0 → cmpL l n < 0)
  | [], [], n, _, h => ⟨h, fun h => by simp [cmpL] at h⟩
  | [], b :: m, [], _, h => by simp [cmpL] at h
  | [], b :: m, c :: n, _, _ => by simp [cmpL]
  | a :: l, [], n, h, _ => by simp [cmpL] at h
  | a :: l, b :: m, [], _, h => by simp [cmpL] at h
  | a :: l, b :: m, c :: n, h1, h2 => by
    simp only [cmpL] at *
    by_cases ab : a < b
    · by_cases bc : b < c
      · have ac : a < c := by rw [UInt8.lt_iff_toNat_lt] at *; omega
        simp [ac]
      · by_cases cb : c < b
        · simp [bc, cb] at h2
        · have := u8_tri b c bc cb; subst this; simp [ab]
    · by_cases ba : b < a
      · simp [ab, ba] at h1
      · have := u8_tri a b ab ba; subst this
        by_cases bc : a < c
        · simp [bc]
        · by_cases cb : c < a
          · simp [bc, cb] at h2
          · simp only [bc, cb, if_false] at h2 ⊢
            simp only [ab, if_false] at h1 ⊢
            exact cmpL_trans l m n h1 h2
end Go.Proofs.YtlngbphchhbpbaaGreat

/- What a call that makes memory keeps; what a slice reads. -/
namespace Go.Proofs.YtlngbphchhbpbaaGreat
open Go.ChangeShapes Go.WideShapes Go.ChangeAt Go.RowKit
set_option linter.unusedVariables false

theorem bcell {B : Nat} {W W1 : World} (hb : Below B W W1) : (∀ b o, b < B → W1.cell? ⟨b, o, none⟩ = W.cell? ⟨b, o, none⟩) ∧ (∀ b o, b < B → W1.frozen? ⟨b, o, none⟩ = W.frozen? ⟨b, o, none⟩) :=
  ⟨fun b o h => hb.cell (p := ⟨b, o, none⟩) h, fun b o h => hb.frozen (p := ⟨b, o, none⟩) h⟩
theorem bAlc {W0 W : World} (h : Below W0.heap.size W0 W) (o : Obj) : Below W0.heap.size W0 (W.alloc o) := h.alloc h.size o
theorem bStep {W0 W W1 : World} (h : Below W0.heap.size W0 W) (h1 : Below W.heap.size W W1) : Below W0.heap.size W0 W1 := h.trans (h1.mono h.size)
theorem bSet {W0 W : World} (h : Below W0.heap.size W0 W) (p : Addr) (v : Value) (hp : W0.heap.size ≤ p.block) : Below W0.heap.size W0 (W.setCell p v) := h.setCell hp v
theorem bDrw {W0 W : World} (h : Below W0.heap.size W0 W) : Below W0.heap.size W0 W.drew := h.drew
theorem bDrwN {W0 W : World} (h : Below W0.heap.size W0 W) (n : Nat) : Below W0.heap.size W0 (W.drewN n) := by
  induction n with
  | zero => exact h
  | succ n ih => exact ih.drew
theorem bDrwN' {B : Nat} (W : World) (n : Nat) : Below B W (W.drewN n) := by
  induction n with
  | zero => exact Below.refl _ _
  | succ n ih => exact ih.drew

/-- block g is just the cells cs of type t, none frozen -/
def Blk (w : World) (g : Nat) (t : TypeId) (cs : Array Value) : Prop := w.heap[g]? = some (.cells cs t (0, 0))
section
variable {w w' : World} {g : Nat} {t : TypeId} {cs : Array Value}
theorem Blk.lt (h : Blk w g t cs) : g < w.heap.size := (Array.getElem?_eq_some_iff.1 h).1
theorem Blk.cell (h : Blk w g t cs) (i : Nat) : w.cell? ⟨g, i, none⟩ = cs[i]? := cell_of_row w g i cs t (0, 0) h
theorem Blk.frozen (h : Blk w g t cs) (i : Nat) : w.frozen? ⟨g, i, none⟩ = false := by
  unfold Blk at h
  simp [World.frozen?, h]
theorem Blk.new (w : World) (t : TypeId) (cs : Array Value) : Blk (w.alloc (.cells cs t)) w.heap.size t cs := heap_alloc_new w _
theorem Blk.newAt (w : World) (t : TypeId) (cs : Array Value) (g : Nat) (h : g = w.heap.size) : Blk (w.alloc (.cells cs t)) g t cs := by subst h; exact Blk.new w t cs
theorem Blk.drew (h : Blk w g t cs) : Blk w.drew g t cs := h
theorem Blk.drewN (h : Blk w g t cs) (n : Nat) : Blk (w.drewN n) g t cs := h
theorem Blk.alloc (h : Blk w g t cs) (o : Obj) : Blk (w.alloc o) g t cs := (Below.heap_alloc w o g h.lt).trans h
theorem Blk.put (h : Blk w g t cs) (i : Nat) (u : Value) : Blk (w.setCell ⟨g, i, none⟩ u) g t (cs.setIfInBounds i u) := by
  unfold Blk at h ⊢
  simp [World.setCell, Array.getElem?_modify, h]
theorem Blk.far (h : Blk w g t cs) {p : Addr} (hp : g ≠ p.block) (u : Value) : Blk (w.setCell p u) g t cs := (Below.heap_setCell w p u g hp).trans h
theorem Blk.below {B : Nat} (h : Blk w g t cs) (hb : Below B w w') (hg : g < B) : Blk w' g t cs := (hb.block g hg).trans h
theorem Blk.step (h : Blk w g t cs) (hb : Below w.heap.size w w') : Blk w' g t cs := h.below hb h.lt
theorem Blk.grown {row : Option Nat} (h : Blk w g t cs) (hb : w.grownBy w' row) (hg : some g ≠ row) : Blk w' g t cs := (hb.block g h.lt hg).trans h
end

theorem cell_later {w w' : World} (hb : Below w.heap.size w w') {a : Addr} {v : Value} (h : w.cell? a = some v) : w'.cell? a = some v :=
  (hb.cell (block_lt_of_cell h)).trans h

/-- a world that keeps what is in w -/
structure KeptBy (w : World) where
  world : World
  kept : Below w.heap.size w world
def KeptBy.self (w : World) : KeptBy w := ⟨w, Below.refl _ _⟩
instance (w : World) : Inhabited (KeptBy w) := ⟨KeptBy.self w⟩
def KeptBy.next {w : World} (p : KeptBy w) {w' : World} (h : Below p.world.heap.size p.world w') : KeptBy w := ⟨w', p.kept.trans (h.mono p.kept.size)⟩
theorem wp_region_kept {P : Program} {id : Nat} {Q : Exit → Act → World → Prop} {a : Act} {w : World} {l : List Oper} (hm : P.follows .mixedOrders = true) (hB : Region.lexB .any l.toArray = true)
    (h : wpQuiet P l.toArray (fun w' => ∃ p : KeptBy w, w' = p.world) (fun a' => ∀ w', (∃ p : KeptBy w, w' = p.world) → Q .normal a' w') l a) : (Code.region id l.toArray true).wp P Q a w :=
  wp_region_quiet (C := fun w' => ∃ p : KeptBy w, w' = p.world) hm hB ⟨⟨w.drew, (Below.refl _ _).drew⟩, rfl⟩ (by simpa using h)
theorem Calls.kept_by {P : Program} {f : FuncId} {args : Array Value} {w : World} {p : KeptBy w} {v : Value}
    (h : Calls P f args p.world fun e w' => e = .returned v ∧ Below p.world.heap.size p.world w') : Calls P f args p.world fun e w'' => e = .returned v ∧ ∃ q : KeptBy w, w'' = q.world :=
  h.mono fun _ _ ⟨he, hb⟩ => ⟨he, p.next hb, rfl⟩
theorem Calls.kept_same {P : Program} {f : FuncId} {args : Array Value} {w : World} {p : KeptBy w} {v : Value}
    (h : Calls P f args p.world fun e w' => e = .returned v ∧ p.world = w') : Calls P f args p.world fun e w'' => e = .returned v ∧ ∃ q : KeptBy w, w'' = q.world :=
  h.mono fun _ _ ⟨he, hb⟩ => ⟨he, p, hb.symm⟩
theorem cell_kept {w : World} {a : Addr} {v : Value} (h : w.cell? a = some v) (p : KeptBy w) : p.world.cell? a = some v := cell_later p.kept h
end Go.Proofs.YtlngbphchhbpbaaGreat

/- Maps of keys to true, whatever the keys, and a range over one. -/
namespace Go.Proofs.YtlngbphchhbpbaaGreat
open Go.ChangeShapes Go.WideShapes Go.ChangeAt Go.RowKit
open Go.ChangeMaps (heap_setBlock_same setBlock)
open Go.MapKept
set_option linter.unusedVariables false

theorem infoBool : (Tryz.prog.info? 4).map (·.zero) = some (some (.bool false)) := by kernel_rfl
theorem zero_bool (w : World) : (zeroValue 4).run Tryz.prog w = .ok (.bool false) w := by
  have h := infoBool
  cases hi : Tryz.prog.info? 4 with
  | none => rw [hi] at h; cases h
  | some i =>
    rw [hi] at h
    simp at h
    simp [zeroValue, typeInfo, hi, h]
/-- keys of the type K as values -/
structure KeyEnc (α : Type) where
  K : TypeId
  enc : α → Value
  ok : α → Prop
  keyed : Maps.Keyed Tryz.prog K
  key : ∀ x, ok x → ∃ l, keyOf Tryz.prog K (enc x) = some l
  inj : ∀ x y, ok x → ok y → enc x = enc y → x = y
/-- block b is a map that holds just the keys of s, each with true, in the order in which they were laid -/
def MapK {α : Type} (E : KeyEnc α) (w : World) (b : Nat) (s : List α) : Prop :=
  ∃ (es : Array MapEntry) (clock : Nat), w.heap[b]? = some (.map es clock) ∧ es.toList.map (·.key) = s.map E.enc ∧ (∀ e ∈ es.toList, e.val = .bool true) ∧ (∀ x ∈ s, E.ok x) ∧ s.Nodup ∧ Stamped es clock
theorem MapK.lt {α : Type} {E : KeyEnc α} {w : World} {b : Nat} {s : List α} (h : MapK E w b s) : b < w.heap.size := by
  obtain ⟨es, clock, hb, _⟩ := h
  exact (Array.getElem?_eq_some_iff.1 hb).1
theorem MapK.grown {α : Type} {E : KeyEnc α} {w w' : World} {b : Nat} {s : List α} {row : Option Nat} (h : MapK E w b s) (hg : w.grownBy w' row) (hb : some b ≠ row) : MapK E w' b s := by
  have hlt := h.lt
  obtain ⟨es, clock, h1, h2⟩ := h
  exact ⟨es, clock, (hg.block b hlt hb).trans h1, h2⟩
theorem MapK.step {α : Type} {E : KeyEnc α} {w w' : World} {b : Nat} {s : List α} (h : MapK E w b s) (hb : Below w.heap.size w w') : MapK E w' b s := by
  have hlt := h.lt
  obtain ⟨es, clock, h1, h2⟩ := h
  exact ⟨es, clock, (hb.block b hlt).trans h1, h2⟩
theorem MapK.keys {α : Type} {E : KeyEnc α} {es : Array MapEntry} {s : List α} (hk : es.toList.map (·.key) = s.map E.enc) (hw : ∀ x ∈ s, E.ok x) : ∀ e ∈ es.toList, ∃ l, keyOf Tryz.prog E.K e.key = some l := by
  intro e he
  have h1 : e.key ∈ es.toList.map (·.key) := List.mem_map_of_mem he
  rw [hk] at h1
  obtain ⟨x, hx, hxe⟩ := List.mem_map.mp h1
  rw [← hxe]
  exact E.key x (hw x hx)
/-- 'm[x]' -/
theorem MapK.look {α : Type} [DecidableEq α] {E : KeyEnc α} {t : TypeId} (ht : Tryz.prog.underlying t = some (.map E.K 4)) {w : World} {b : Nat} {s : List α} (h : MapK E w b s) (x : α) (hx : E.ok x) :
    (Instr.lookup t (.map (some b)) (E.enc x) false).run Tryz.prog w = .ok (.bool (decide (x ∈ s))) w := by
  obtain ⟨es, clock, hb, hk, hv, hw, hn, hst⟩ := h
  obtain ⟨l, hl⟩ := E.key x hx
  have hz := zero_bool w
  rcases E.keyed.find w hl es.toList (MapK.keys hk hw) with ⟨h1, h2⟩ | ⟨j, e, h1, h2, h3⟩
  · have hns : x ∉ s := by
      intro hm
      have : E.enc x ∈ es.toList.map (·.key) := by rw [hk]; exact List.mem_map_of_mem hm
      obtain ⟨e, he, hee⟩ := List.mem_map.mp this
      exact h2 e he hee
    simp [Instr.lookup, run_underlying ht, MapKept.run_getObj_map hb, E.keyed.check w _ hl, h1, hz, Result.andThen, hns]
  · have he := List.mem_of_getElem? h2
    have hs : x ∈ s := by
      have : e.key ∈ es.toList.map (·.key) := List.mem_map_of_mem he
      rw [hk, h3] at this
      obtain ⟨y, hy, hyy⟩ := List.mem_map.mp this
      rw [← E.inj _ _ (hw y hy) hx hyy]; exact hy
    simp [Instr.lookup, run_underlying ht, MapKept.run_getObj_map hb, E.keyed.check w _ hl, h1, Result.andThen, hs, hv e he]
/-- 'm[x] = true' -/
theorem MapK.put {α : Type} [DecidableEq α] {E : KeyEnc α} {t : TypeId} (ht : Tryz.prog.underlying t = some (.map E.K 4)) {w : World} {b : Nat} {s : List α} (h : MapK E w b s) (x : α) (hx : E.ok x) :
    ∃ w', (Instr.mapUpdate t (.map (some b)) (E.enc x) (.bool true)).run Tryz.prog w = .ok () w' ∧ MapK E w' b (if x ∈ s then s else s ++ [x]) ∧ w.mapTurned w' b := by
  obtain ⟨es, clock, hb, hk, hv, hw, hn, hst⟩ := h
  obtain ⟨l, hl⟩ := E.key x hx
  rcases E.keyed.find w hl es.toList (MapK.keys hk hw) with ⟨h1, h2⟩ | ⟨j, e, h1, h2, h3⟩
  · have hns : x ∉ s := by
      intro hm
      have : E.enc x ∈ es.toList.map (·.key) := by rw [hk]; exact List.mem_map_of_mem hm
      obtain ⟨e, he, hee⟩ := List.mem_map.mp this
      exact h2 e he hee
    rw [if_neg hns]
    refine ⟨setBlock w b (.map (es.push { key := E.enc x, val := .bool true, born := clock }) (clock + 1)), ?_, ⟨_, _, heap_setBlock_same hb _, by simp [hk], ?_, ?_, ?_, stamped_push hst h2⟩, ⟨es, clock, _, _, hb, rfl⟩⟩
    · simp [Instr.mapUpdate, run_underlying ht, MapKept.run_getObj_map hb, E.keyed.check w _ hl, h1, MapKept.run_setObj_map _ hb, Result.andThen, setBlock]
    · intro e he
      simp at he
      rcases he with he | rfl
      · exact hv e (by simpa using he)
      · rfl
    · intro y hy
      rcases List.mem_append.mp hy with hy | hy
      · exact hw y hy
      · have : y = x := by simpa using hy
        rw [this]; exact hx
    · rw [List.nodup_append]
      refine ⟨hn, by simp, ?_⟩
      intro a ha c hc
      have : c = x := by simpa using hc
      rw [this]; intro e; exact hns (e ▸ ha)
  · have he := List.mem_of_getElem? h2
    have hs : x ∈ s := by
      have : e.key ∈ es.toList.map (·.key) := List.mem_map_of_mem he
      rw [hk, h3] at this
      obtain ⟨y, hy, hyy⟩ := List.mem_map.mp this
      rw [← E.inj _ _ (hw y hy) hx hyy]; exact hy
    rw [if_pos hs]
    have hj : es[j]? = some e := by simpa using h2
    have hee : ({ e with key := E.enc x, val := .bool true } : MapEntry) = e := by
      cases e; simp at h3; have := hv _ he; simp at this; simp [h3, this]
    have hmod : es.modify j (fun e => { e with key := E.enc x, val := .bool true }) = es := by
      apply Array.ext_getElem?
      intro i
      rw [Array.getElem?_modify]
      split
      · rename_i h; subst h; rw [hj]; simp [hee]
      · rfl
    refine ⟨setBlock w b (.map es clock), ?_, ⟨es, clock, heap_setBlock_same hb _, hk, hv, hw, hn, hst⟩, ⟨es, clock, _, _, hb, rfl⟩⟩
    have hst2 := E.keyed.stays w hl
    have hkey : (((es[j]?).map (·.key)).getD (E.enc x)) = E.enc x := by rw [hj]; simp [h3]
    simp [Instr.mapUpdate, run_underlying ht, MapKept.run_getObj_map hb, E.keyed.check w _ hl, h1, hj, h3, hst2, hmod, MapKept.run_setObj_map _ hb, Result.andThen, setBlock]
section
variable (w : World) {ops : Array Oper} {rest : List Oper} {o : Oper} {a : Act} {Q : Exit → Act → World → Prop} {α : Type} [DecidableEq α] {E : KeyEnc α}
theorem wpList_lookK {t : TypeId} (ht : Tryz.prog.underlying t = some (.map E.K 4)) (hg : o.guard = none) (m x : Operand) (hop : o.op = Op.lookup t m x false) (b : Nat) (s : List α) (k : α) (bd : Bool) (hbd : bd = true ↔ k ∈ s) (hm : a.eval m = .map (some b)) (hx : a.eval x = E.enc k) (h : MapK E w b s) (hk : E.ok k)
    (hK : wpList Tryz.prog ops Q rest (a.put o.dst (.bool bd)) w) : wpList Tryz.prog ops Q (o :: rest) a w := by
  refine wpList_plain hg fun K' hK' => ?_
  have hrun := h.look ht k hk
  have hb : decide (k ∈ s) = bd := by
    cases bd
    · exact decide_eq_false fun h => by have := hbd.2 h; cases this
    · exact decide_eq_true (hbd.1 rfl)
  rw [hb] at hrun
  unfold Oper.wp
  simp [execOp, hop, hm, hx, hrun, Result.andThen]
  exact hK' _ _ hK
theorem wpList_layK {t : TypeId} (ht : Tryz.prog.underlying t = some (.map E.K 4)) (hg : o.guard = none) (m x v : Operand) (hop : o.op = Op.mapUpdate t m x v) (b : Nat) (s s' : List α) (k : α) (hs : (k ∈ s ∧ s' = s) ∨ (k ∉ s ∧ s' = s ++ [k])) (hm : a.eval m = .map (some b)) (hx : a.eval x = E.enc k) (hv : a.eval v = .bool true) (h : MapK E w b s) (hk : E.ok k)
    (hK : ∀ w', MapK E w' b s' → w.mapTurned w' b → wpList Tryz.prog ops Q rest (a.put o.dst undef) w') : wpList Tryz.prog ops Q (o :: rest) a w := by
  refine wpList_plain hg fun K' hK' => ?_
  obtain ⟨w', hrun, h1, h2⟩ := h.put ht k hk
  have e : (if k ∈ s then s else s ++ [k]) = s' := by
    rcases hs with ⟨h, rfl⟩ | ⟨h, rfl⟩
    · rw [if_pos h]
    · rw [if_neg h]
  rw [e] at h1
  unfold Oper.wp
  simp [execOp, hop, hm, hx, hv, hrun, Result.andThen]
  exact hK' _ _ (hK w' h1 h2)
end
theorem turned_grown {w w' : World} {b : Nat} (h : w.mapTurned w' b) : w.grownBy w' (some b) := by
  obtain ⟨es, clock, es', clock', hb, rfl⟩ := h
  exact ⟨rfl, rfl, rfl, by simp [setBlock], fun i hi hne => by
    have hne' : b ≠ i := fun e => hne (by rw [e])
    simp only [setBlock]
    rw [Array.getElem?_setIfInBounds_ne hne']⟩
/-- a range over the map in block b with the iterator in block r: out has come out -/
def IterK {α : Type} (E : KeyEnc α) (w : World) (b r : Nat) (s out : List α) : Prop :=
  ∃ (es : Array MapEntry) (clock since : Nat) (seen : Array Nat) (c0 : Nat), w.heap[b]? = some (.map es clock) ∧ (es.toList.map (·.key) = s.map E.enc ∧ (∀ e ∈ es.toList, e.val = .bool true) ∧ (∀ x ∈ s, E.ok x) ∧ s.Nodup ∧ Stamped es clock) ∧
    w.heap[r]? = some (.mapIter (some b) since seen c0) ∧ (∀ x ∈ es.toList, x.born < since) ∧ since ≤ c0 ∧ since ≤ clock ∧ (∀ e ∈ es.toList, ∀ x : α, E.ok x → e.key = E.enc x → (seen.contains e.born = true ↔ x ∈ out)) ∧ out.Nodup ∧ (∀ x ∈ out, x ∈ s)

theorem IterK.map {w : World} {b r : Nat} {α : Type} {E : KeyEnc α} {s out : List α} (h : IterK E w b r s out) : MapK E w b s := by
  obtain ⟨es, clock, since, seen, c0, hb, h1, _⟩ := h
  exact ⟨es, clock, hb, h1⟩

theorem mapk_range {α : Type} {E : KeyEnc α} {t : TypeId} (ht : Tryz.prog.underlying t = some (.map E.K 4)) {w : World} {b : Nat} {s : List α} (h : MapK E w b s) :
    ∃ w', (Instr.range t (.map (some b))).run Tryz.prog w = .ok (.pointer (some ⟨w.heap.size, 0, none⟩)) w' ∧ IterK E w' b w.heap.size s [] ∧ Below w.heap.size w w' := by
  obtain ⟨es, clock, hb, h1⟩ := h
  have hlt : b < w.heap.size := (Array.getElem?_eq_some_iff.1 hb).1
  refine ⟨_, run_range_map w t E.K 4 b es clock ht hb, ⟨es, clock, clock, #[], clock, ((MapKept.heap_alloc w _).2 b hlt).trans hb, h1, (MapKept.heap_alloc w _).1, h1.2.2.2.2.1, Nat.le_refl _, Nat.le_refl _, ?_, by simp, by simp⟩, (Below.refl _ _).alloc (Nat.le_refl _) _⟩
  intro e he x _ hx
  simp

theorem iterk_next {w : World} {b r : Nat} {α : Type} {E : KeyEnc α} {s out : List α} (h : IterK E w b r s out) (ty : TypeId) :
    ((∀ x ∈ s, x ∈ out) ∧ (Instr.next (.pointer (some ⟨r, 0, none⟩)) false ty).run Tryz.prog w = .ok (.tuple #[.bool false]) w) ∨
    ∃ x ∈ s, x ∉ out ∧ ∃ w' : World, (Instr.next (.pointer (some ⟨r, 0, none⟩)) false ty).run Tryz.prog w = .ok (.tuple #[.bool true, (E.enc x), .bool true]) w' ∧ IterK E w' b r s (out ++ [x]) ∧
      (Instr.entry (.pointer (some ⟨r, 0, none⟩))).run Tryz.prog w' = .ok (.tuple #[(E.enc x), .bool true]) w' ∧ w.grownBy w' (some r) ∧ w'.heap.size = w.heap.size := by
  obtain ⟨es, clock, since, seen, c0, hb, ⟨hk, hv, hw, hn, hst⟩, hr, hold, hsc, hsk, hin, hno, hsub⟩ := h
  rcases run_next_at (P := Tryz.prog) w ty r b since c0 seen es clock hr hb hold hsc with ⟨h0, hrun⟩ | ⟨e, he, w1, hal, hrun⟩
  · left
    refine ⟨fun x hx => ?_, hrun⟩
    have : (E.enc x) ∈ es.toList.map (·.key) := by rw [hk]; exact List.mem_map_of_mem hx
    obtain ⟨e, he, hee⟩ := List.mem_map.mp this
    exact (hin e he x (hw x hx) hee).mp (all_seen es seen h0 e he)
  · right
    obtain ⟨hem, hes⟩ := mem_left he
    have : e.key ∈ s.map E.enc := by rw [← hk]; exact List.mem_map_of_mem hem
    obtain ⟨x, hx, hxe⟩ := List.mem_map.mp this
    have hxo : x ∉ out := fun hm => by
      have := (hin e hem x (hw x hx) hxe.symm).mpr hm
      rw [hes] at this; cases this
    have hr1 : w1.heap[r]? = some (.mapIter (some b) since seen c0) := by rcases hal with rfl | rfl <;> exact hr
    have hb1 : w1.heap[b]? = some (.map es clock) := by rcases hal with rfl | rfl <;> exact hb
    have hset := heap_set (o' := .mapIter (some b) since (seen.push e.born) clock) hr1
    have hne : b ≠ r := fun h => by rw [h, hr] at hb; cases hb
    have hb' := (hset.2 b hne).trans hb1
    have hS := (stamped_iff es clock).1 hst
    refine ⟨x, hx, hxo, _, by rw [hrun, ← hxe, hv e hem], ⟨es, clock, since, seen.push e.born, clock, hb', ⟨hk, hv, hw, hn, hst⟩, hset.1, hold, hsk, hsk, ?_, ?_, ?_⟩, ?_, ?_, ?_⟩
    · intro e' he' y oky hy
      rw [contains_push, Bool.or_eq_true, hin e' he' y oky hy, List.mem_append]
      constructor
      · rintro (h | h)
        · exact .inl h
        · right
          have hbe : e'.born = e.born := by simpa using h
          have := born_inj hS.2.1 he' hem hbe
          rw [this] at hy
          rw [hy] at hxe
          simp [E.inj _ _ oky (hw x hx) hxe.symm]
      · rintro (h | h)
        · exact .inl h
        · right
          have hyx : y = x := by simpa using h
          subst hyx
          have := entry_eq_of_key hS.2.2 he' hem (hy.trans hxe)
          simp [this]
    · rw [List.nodup_append]
      refine ⟨hno, by simp, ?_⟩
      intro a ha c hc
      have : c = x := by simpa using hc
      rw [this]; intro e; exact hxo (e ▸ ha)
    · intro y hy
      rcases List.mem_append.mp hy with hy | hy
      · exact hsub y hy
      · have : y = x := by simpa using hy
        rw [this]; exact hx
    · rw [run_entry_at _ r b since seen es clock e hset.1 hb' hem hS.2.1, ← hxe, hv e hem]
    · rcases hal with rfl | rfl <;> exact ⟨rfl, rfl, rfl, by simp [setBlock], fun i _ hi => hset.2 i (fun e1 => hi (by rw [e1]))⟩
    · rcases hal with rfl | rfl <;> simp [setBlock]

theorem IterK.grown {w w' : World} {b r : Nat} {α : Type} {E : KeyEnc α} {s out : List α} {row : Option Nat} (h : IterK E w b r s out) (hg : w.grownBy w' row) (hb : some b ≠ row) (hr : some r ≠ row) : IterK E w' b r s out := by
  obtain ⟨es, clock, since, seen, c0, h1, h2, h3, h4⟩ := h
  exact ⟨es, clock, since, seen, c0, (hg.block b (Array.getElem?_eq_some_iff.1 h1).1 hb).trans h1, h2, (hg.block r (Array.getElem?_eq_some_iff.1 h3).1 hr).trans h3, h4⟩

section
variable (w : World) {ops : Array Oper} {rest : List Oper} {o : Oper} {a : Act} {Q : Exit → Act → World → Prop} {α : Type} {E : KeyEnc α}
/-- 'range m', at the operation -/
theorem wpList_rangeK {t : TypeId} (ht : Tryz.prog.underlying t = some (.map E.K 4)) (hg : o.guard = none) (m : Operand) (hop : o.op = Op.range t m) (b : Nat) (s : List α) (hm : a.eval m = .map (some b)) (h : MapK E w b s)
    (hK : ∀ w', IterK E w' b w.heap.size s [] → Below w.heap.size w w' → wpList Tryz.prog ops Q rest (a.put o.dst (.pointer (some ⟨w.heap.size, 0, none⟩))) w') : wpList Tryz.prog ops Q (o :: rest) a w := by
  refine wpList_plain hg fun K' hK' => ?_
  obtain ⟨w', hrun, r1, r2⟩ := mapk_range ht h
  unfold Oper.wp
  simp [execOp, hop, hm, hrun, Result.andThen]
  exact hK' _ _ (hK w' r1 r2)
/-- the step, at the operation -/
theorem wpList_nextK (hg : o.guard = none) (it : Operand) (hop : o.op = Op.next it false) (b r : Nat) (s out : List α) (hit : a.eval it = .pointer (some ⟨r, 0, none⟩)) (h : IterK E w b r s out)
    (hDone : (∀ x ∈ s, x ∈ out) → wpList Tryz.prog ops Q rest (a.put o.dst (.tuple #[.bool false])) w)
    (hMore : ∀ (x : α) (w' : World), x ∈ s → x ∉ out → IterK E w' b r s (out ++ [x]) → (Instr.entry (.pointer (some ⟨r, 0, none⟩))).run Tryz.prog w' = .ok (.tuple #[(E.enc x), .bool true]) w' → w.grownBy w' (some r) → w'.heap.size = w.heap.size →
      wpList Tryz.prog ops Q rest (a.put o.dst (.tuple #[.bool true, (E.enc x), .bool true])) w') : wpList Tryz.prog ops Q (o :: rest) a w := by
  refine wpList_plain hg fun K' hK' => ?_
  unfold Oper.wp
  rcases iterk_next h o.type with ⟨h0, hrun⟩ | ⟨x, hx, hxo, w', hrun, r1, r2, r3, r4⟩
  · simp [execOp, hop, hit, hrun, Result.andThen]
    exact hK' _ _ (hDone h0)
  · simp [execOp, hop, hit, hrun, Result.andThen]
    exact hK' _ _ (hMore x w' hx hxo r1 r2 r3 r4)
end
end Go.Proofs.YtlngbphchhbpbaaGreat

/- Texts of at most 12 terminals as values and as keys of a map. -/
namespace Go.Proofs.YtlngbphchhbpbaaGreat
open Go.ChangeShapes Go.WideShapes Go.ChangeAt Go.RowKit
set_option linter.unusedVariables false

def txc (x : List Int) : Array Value := #[.int .i64 x.length, .int .i8 (x.getD 0 0), .int .i8 (x.getD 1 0), .int .i8 (x.getD 2 0), .int .i8 (x.getD 3 0), .int .i8 (x.getD 4 0), .int .i8 (x.getD 5 0), .int .i8 (x.getD 6 0), .int .i8 (x.getD 7 0), .int .i8 (x.getD 8 0), .int .i8 (x.getD 9 0), .int .i8 (x.getD 10 0), .int .i8 (x.getD 11 0)]
def txv (x : List Int) : Value := .agg (txc x)
def txok (x : List Int) : Prop := x.length ≤ 12 ∧ ∀ c ∈ x, 0 ≤ c ∧ c < 16
theorem txok_get {x : List Int} (h : txok x) (i : Nat) : 0 ≤ x.getD i 0 ∧ x.getD i 0 < 16 := by
  rw [List.getD_eq_getElem?_getD]
  cases hh : x[i]? with
  | none => simp
  | some c => exact h.2 c (List.mem_of_getElem? hh)
theorem txok_wf {x : List Int} (h : txok x) (i : Nat) : (Lit.int .i8 (x.getD i 0)).wf = true := by
  have := txok_get h i
  generalize x.getD i 0 = c at *
  have e1 : IntKind.i8.min = -128 := by decide
  have e2 : IntKind.i8.max = 127 := by decide
  simp [Lit.wf, e1, e2]
  omega
theorem txv_inj {x y : List Int} (hx : txok x) (hy : txok y) (h : txv x = txv y) : x = y := by
  simp only [txv, txc, Value.agg.injEq, Array.mk.injEq, List.cons.injEq, Value.int.injEq, true_and, and_true] at h
  have hl : x.length = y.length := by have := h.1; omega
  have hc : ∀ i, i < 12 → x.getD i 0 = y.getD i 0 := by
    intro i hi
    have : i = 0 ∨ i = 1 ∨ i = 2 ∨ i = 3 ∨ i = 4 ∨ i = 5 ∨ i = 6 ∨ i = 7 ∨ i = 8 ∨ i = 9 ∨ i = 10 ∨ i = 11 := by omega
    rcases this with rfl | rfl | rfl | rfl | rfl | rfl | rfl | rfl | rfl | rfl | rfl | rfl <;> simp only [h]
  refine List.ext_getElem hl fun i h1 h2 => ?_
  have := hc i (by have := hx.1; omega)
  simpa [List.getD_eq_getElem?_getD, h1, h2] using this

theorem underT : Tryz.prog.underlying 59 = some (.struct (Tryz.prog.fieldsOf 59)) := by kernel_rfl
theorem underA : Tryz.prog.underlying 57 = some (.array 12 56) := by kernel_rfl
theorem underI8 : Tryz.prog.underlying 56 = some (.int .i8) := by kernel_rfl
theorem underInt : Tryz.prog.underlying 3 = some (.int .i64) := by kernel_rfl
theorem textKeyed : Maps.Keyed Tryz.prog 59 := Maps.Keyed.of_law (deep_law_gate (P := Tryz.prog) (k := 59) (by kernel_rfl) (of_decide_eq_true (by kernel_rfl)) (of_decide_eq_true (by kernel_rfl)) (by kernel_rfl) (by kernel_rfl))
theorem fieldsT : ∃ f0 f1 : Field, Tryz.prog.fieldsOf 59 = #[f0, f1] ∧ f0.name = "n" ∧ f0.type = 3 ∧ f0.offset = 0 ∧ f1.name = "s" ∧ f1.type = 57 ∧ f1.offset = 1 := by
  refine ⟨(Tryz.prog.fieldsOf 59)[0]!, (Tryz.prog.fieldsOf 59)[1]!, by kernel_rfl, by kernel_rfl, by kernel_rfl, by kernel_rfl, by kernel_rfl, by kernel_rfl, by kernel_rfl⟩
theorem cellsT : Tryz.prog.cellsOf 59 = 13 := by kernel_rfl
theorem cellsA : Tryz.prog.cellsOf 57 = 12 := by kernel_rfl
theorem cellsI8 : Tryz.prog.cellsOf 56 = 1 := by kernel_rfl
theorem cellsInt : Tryz.prog.cellsOf 3 = 1 := by kernel_rfl
theorem sizeTypes : ∃ d, Tryz.prog.types.size + 1 = d + 3 := ⟨Tryz.prog.types.size - 2, by have : 2 ≤ Tryz.prog.types.size := of_decide_eq_true (by kernel_rfl); omega⟩
theorem keyTT : Tryz.prog.keyType 59 = true := by kernel_rfl
theorem litsInt (d : Nat) (n : Int) (h : (Lit.int .i64 n).wf = true) : Tryz.prog.keyLits (d + 1) 3 [.int .i64 n] = some [.int .i64 n] := by
  unfold Program.keyLits; rw [underInt]; simp [h]
theorem litsI8 (d : Nat) (n : Int) (h : (Lit.int .i8 n).wf = true) : Tryz.prog.keyLits (d + 1) 56 [.int .i8 n] = some [.int .i8 n] := by
  unfold Program.keyLits; rw [underI8]; simp [h]
theorem litsArr (d : Nat) (c0 : Int) (c1 : Int) (c2 : Int) (c3 : Int) (c4 : Int) (c5 : Int) (c6 : Int) (c7 : Int) (c8 : Int) (c9 : Int) (c10 : Int) (c11 : Int) (h0 : (Lit.int .i8 c0).wf = true) (h1 : (Lit.int .i8 c1).wf = true) (h2 : (Lit.int .i8 c2).wf = true) (h3 : (Lit.int .i8 c3).wf = true) (h4 : (Lit.int .i8 c4).wf = true) (h5 : (Lit.int .i8 c5).wf = true) (h6 : (Lit.int .i8 c6).wf = true) (h7 : (Lit.int .i8 c7).wf = true) (h8 : (Lit.int .i8 c8).wf = true) (h9 : (Lit.int .i8 c9).wf = true) (h10 : (Lit.int .i8 c10).wf = true) (h11 : (Lit.int .i8 c11).wf = true) :
    Tryz.prog.keyLits (d + 2) 57 [.int .i8 c0, .int .i8 c1, .int .i8 c2, .int .i8 c3, .int .i8 c4, .int .i8 c5, .int .i8 c6, .int .i8 c7, .int .i8 c8, .int .i8 c9, .int .i8 c10, .int .i8 c11] = some [.int .i8 c0, .int .i8 c1, .int .i8 c2, .int .i8 c3, .int .i8 c4, .int .i8 c5, .int .i8 c6, .int .i8 c7, .int .i8 c8, .int .i8 c9, .int .i8 c10, .int .i8 c11] := by
  unfold Program.keyLits; rw [underA]
  simp [cellsA, cellsI8, List.range_succ, litsI8, h0, h1, h2, h3, h4, h5, h6, h7, h8, h9, h10, h11]
theorem text_key (x : List Int) (h : txok x) : ∃ l, keyOf Tryz.prog 59 (txv x) = some l := by
  obtain ⟨d, hd⟩ := sizeTypes
  obtain ⟨f0, f1, hf, n0, t0, o0, n1, t1, o1⟩ := fieldsT
  have hn : (Lit.int .i64 (x.length : Int)).wf = true := by
    have := h.1
    generalize (x.length : Nat) = c at *
    have e1 : IntKind.i64.min = -9223372036854775808 := by decide
    have e2 : IntKind.i64.max = 9223372036854775807 := by decide
    simp [Lit.wf, e1, e2]
    omega
  have w0 := txok_wf h 0
  have w1 := txok_wf h 1
  have w2 := txok_wf h 2
  have w3 := txok_wf h 3
  have w4 := txok_wf h 4
  have w5 := txok_wf h 5
  have w6 := txok_wf h 6
  have w7 := txok_wf h 7
  have w8 := txok_wf h 8
  have w9 := txok_wf h 9
  have w10 := txok_wf h 10
  have w11 := txok_wf h 11
  have hk : Tryz.prog.keyLits (Tryz.prog.types.size + 1) 59 (txv x).cells.toList = some [.int .i64 x.length, .int .i8 (x.getD 0 0), .int .i8 (x.getD 1 0), .int .i8 (x.getD 2 0), .int .i8 (x.getD 3 0), .int .i8 (x.getD 4 0), .int .i8 (x.getD 5 0), .int .i8 (x.getD 6 0), .int .i8 (x.getD 7 0), .int .i8 (x.getD 8 0), .int .i8 (x.getD 9 0), .int .i8 (x.getD 10 0), .int .i8 (x.getD 11 0)] := by
    rw [hd]
    unfold txv txc
    generalize (x.length : Int) = L at *
    generalize x.getD 0 0 = g0 at *
    generalize x.getD 1 0 = g1 at *
    generalize x.getD 2 0 = g2 at *
    generalize x.getD 3 0 = g3 at *
    generalize x.getD 4 0 = g4 at *
    generalize x.getD 5 0 = g5 at *
    generalize x.getD 6 0 = g6 at *
    generalize x.getD 7 0 = g7 at *
    generalize x.getD 8 0 = g8 at *
    generalize x.getD 9 0 = g9 at *
    generalize x.getD 10 0 = g10 at *
    generalize x.getD 11 0 = g11 at *
    unfold Program.keyLits; rw [underT, hf]
    simp [Value.cells, cellsT, cellsA, cellsInt, n0, t0, o0, n1, t1, o1, litsInt, litsArr, hn, w0, w1, w2, w3, w4, w5, w6, w7, w8, w9, w10, w11]
  have hfo : Value.formed Tryz.prog 59 (txv x) = true := by
    simp [Value.formed, txv, txc, cellsT]
  unfold keyOf
  rw [underT]
  show ∃ l, (if (Tryz.prog.keyType 59 && Value.formed Tryz.prog 59 (txv x)) = true then (Tryz.prog.keyLits (Tryz.prog.types.size + 1) 59 (txv x).cells.toList).map (fun ls => Lit.string (keyBytes ls)) else none) = some l
  rw [if_pos (by rw [keyTT, hfo]; rfl), hk]
  exact ⟨_, rfl⟩
/-- texts as keys -/
def textKey : KeyEnc (List Int) where
  K := 59
  enc := txv
  ok := txok
  keyed := textKeyed
  key := text_key
  inj := fun x y hx hy h => txv_inj hx hy h
end Go.Proofs.YtlngbphchhbpbaaGreat

/- Contracts of the functions of layer 3 (name): decimal, Make and what they reach. -/
namespace Go.Proofs.YtlngbphchhbpbaaGreat
open Go.ChangeShapes Go.WideShapes Go.ChangeAt Go.RowKit
set_option linter.unusedVariables false

/-- the decimal digits of a number, by fuel -/
def decF : Nat → Nat → List UInt8
  | 0, _ => []
  | f + 1, n => if n < 10 then [(48 + n).toUInt8] else decF f (n / 10) ++ [(48 + n % 10).toUInt8]

def strB (l : List UInt8) : ByteArray := ⟨l.toArray⟩

theorem strB_append (a b : List UInt8) : strB a ++ strB b = strB (a ++ b) := by
  apply ByteArray.ext; simp [strB, ByteArray.data_append]

/-- one digit, and a number's digits, as strings: kept closed to the walk -/
def digB (k : Nat) : ByteArray := strB [(48 + k).toUInt8]
def decB (f n : Nat) : ByteArray := strB (decF f n)

theorem digs (n : Int) (h0 : 0 ≤ n) (h : n < 10) : n = 0 ∨ n = 1 ∨ n = 2 ∨ n = 3 ∨ n = 4 ∨ n = 5 ∨ n = 6 ∨ n = 7 ∨ n = 8 ∨ n = 9 := by omega

theorem enc_dig (n : Int) (h0 : 0 ≤ n) (h : n < 10) : Utf8.encode (48 + n) = digB n.toNat := by
  rcases digs n h0 h with rfl | rfl | rfl | rfl | rfl | rfl | rfl | rfl | rfl | rfl <;> decide +kernel

theorem cut_dig (n : Int) (h0 : 0 ≤ n) (h : n < 10) : ({ data := #[48, 49, 50, 51, 52, 53, 54, 55, 56, 57] } : ByteArray).extract n.toNat (n + 1).toNat = digB n.toNat := by
  rcases digs n h0 h with rfl | rfl | rfl | rfl | rfl | rfl | rfl | rfl | rfl | rfl <;> decide +kernel

theorem ret_str {a b : ByteArray} (h : a = b) : Ending.returned (.string a) = .returned (.string b) := by rw [h]

theorem decB_small (f n : Nat) (h : n < 10) : decB (f + 1) n = digB n := by simp [decB, decF, h, digB]
theorem decB_big (f n : Nat) (h : ¬ n < 10) : decB (f + 1) n = decB f (n / 10) ++ digB (n % 10) := by
  simp only [decB, digB, strB_append, decF, h, if_false]

theorem digB_size (k : Nat) : (digB k).size = 1 := rfl
theorem decF_len : ∀ f n, (decF f n).length ≤ f
  | 0, _ => by simp [decF]
  | f + 1, n => by
    have := decF_len f (n / 10)
    by_cases h : n < 10 <;> simp [decF, h]
    omega
theorem strB_size (l : List UInt8) : (strB l).size = l.length := by simp [strB, ByteArray.size]
theorem decB_size (f n : Nat) : (decB f n).size ≤ f := by rw [decB, strB_size]; exact decF_len f n

theorem pow_step (f : Nat) (n : Int) (h0 : 0 ≤ n) (h : n < 10 ^ (f + 1 + 1)) : n / 10 < 10 ^ (f + 1) := by
  rw [Int.pow_succ] at h
  generalize (10 : Int) ^ (f + 1) = t at *
  omega

theorem step_dec (f : Nat) (n : Int) (h0 : 0 ≤ n) (h : ¬ n < 10) : decB (f + 1) (n / 10).toNat ++ digB (n % 10).toNat = decB (f + 1 + 1) n.toNat := by
  rw [decB_big (f + 1) n.toNat (by omega), show (n / 10).toNat = n.toNat / 10 by omega, show (n % 10).toNat = n.toNat % 10 by omega]

theorem cut_run (n : Int) (h0 : 0 ≤ n) (h : n < 10) (wx : World) :
    (Instr.slice 9 (.string ⟨#[48, 49, 50, 51, 52, 53, 54, 55, 56, 57]⟩) (some (.int .i64 n)) (some (.int .i64 (n + 1))) none).run Tryz.prog wx = .ok (.string (digB n.toNat)) wx := by
  rw [run_slice_string_if _ _ _ _ _ _ _ Tryz.underlying9, if_pos ⟨by omega, by show n + 1 ≤ ((10 : Nat) : Int); omega⟩, if_pos ⟨h0, by omega⟩, cut_dig n h0 h]

end Go.Proofs.YtlngbphchhbpbaaGreat

/- Contracts of layer 3 (name): Make, Word, Language, Check, Small, Capital, Compare, of the program and of the reference. -/
namespace Go.Proofs.YtlngbphchhbpbaaGreat
open Go.ChangeShapes Go.WideShapes Go.ChangeAt Go.RowKit
set_option linter.unusedVariables false

def mkB (n : Int) (c : Bool) : ByteArray := if n < 0 ∨ 9999 < n then ByteArray.empty else (if c = true then ⟨#[78]⟩ else ⟨#[116]⟩) ++ decB 4 n.toNat
def mkE (n : Int) : Int := if n < 0 ∨ 9999 < n then 2 else 0

theorem ret_strint {a b : ByteArray} {c d : Int} (h : a = b) (h' : c = d) : Ending.returned (.tuple #[.string a, .int .i64 c]) = .returned (.tuple #[.string b, .int .i64 d]) := by rw [h, h']
theorem ret_bool {a b : Bool} (h : a = b) : Ending.returned (.bool a) = .returned (.bool b) := by rw [h]
theorem ret_int {k : IntKind} {a b : Int} (h : a = b) : Ending.returned (.int k a) = .returned (.int k b) := by rw [h]

theorem dec_size (c : ByteArray) (hc : c.size = 1) (k : Nat) : c.size + (decB 4 k).size ≤ 9223372036854775807 := by
  have := decB_size 4 k
  omega

theorem lett_any (r : Int) (w : World) : Calls Tryz.prog 103 #[.int .i32 r] w fun e w' => e = .returned (.bool (letrI r)) ∧ w = w' := by
  by_cases h1 : 97 ≤ r
  · by_cases h2 : r ≤ 122
    · go_enter Tryz.func103, Tryz.ntmps103
      go_wp2
      go_ret
      exact ⟨ret_bool (by simp [letrI]; omega), rfl⟩
    · have h3 : 65 ≤ r := by omega
      have h4 : ¬ r ≤ 90 := by omega
      go_enter Tryz.func103, Tryz.ntmps103
      go_wp2
      go_ret
      exact ⟨ret_bool (by simp [letrI]; omega), rfl⟩
  · by_cases h3 : 65 ≤ r
    · by_cases h4 : r ≤ 90
      · go_enter Tryz.func103, Tryz.ntmps103
        go_wp2
        go_ret
        exact ⟨ret_bool (by simp [letrI]; omega), rfl⟩
      · go_enter Tryz.func103, Tryz.ntmps103
        go_wp2
        go_ret
        exact ⟨ret_bool (by simp [letrI]; omega), rfl⟩
    · go_enter Tryz.func103, Tryz.ntmps103
      go_wp2
      go_ret
      exact ⟨ret_bool (by simp [letrI]; omega), rfl⟩

theorem digt_any (r : Int) (w : World) : Calls Tryz.prog 104 #[.int .i32 r] w fun e w' => e = .returned (.bool (digiI r)) ∧ w = w' := by
  by_cases h1 : 48 ≤ r
  · by_cases h2 : r ≤ 57
    · go_enter Tryz.func104, Tryz.ntmps104
      go_wp2
      go_ret
      exact ⟨ret_bool (by simp [digiI]; omega), rfl⟩
    · go_enter Tryz.func104, Tryz.ntmps104
      go_wp2
      go_ret
      exact ⟨ret_bool (by simp [digiI]; omega), rfl⟩
  · go_enter Tryz.func104, Tryz.ntmps104
    go_wp2
    go_ret
    exact ⟨ret_bool (by simp [digiI]; omega), rfl⟩

theorem decode_bad (s : ByteArray) (pos i : Nat) (h : pos < s.size) (hb : badI i (Utf8.decode s pos).1 = false) :
    (Utf8.decode s pos).2 = 1 ∧ ((Utf8.decode s pos).1 : Int) = byteAt s pos := by
  by_cases ha : (s[pos]'h).toNat < 128
  · rw [decode_ascii s pos h ha]
    exact ⟨rfl, (byteAt_get s pos h).symm⟩
  · have := (decode_high s pos h (by omega)).1
    exfalso
    have h1 : letrI ((Utf8.decode s pos).1 : Int) = false := by simp [letrI]; omega
    have h2 : digiI ((Utf8.decode s pos).1 : Int) = false := by simp [digiI]; omega
    have h3 : ¬ ((Utf8.decode s pos).1 : Int) = 95 := by omega
    simp [badI, h1, h2, h3] at hb

theorem decode_good (s : ByteArray) (pos i : Nat) (h : pos < s.size) (hb : badI i (Utf8.decode s pos).1 = true) : badI i (byteAt s pos) = true := by
  by_cases ha : (s[pos]'h).toNat < 128
  · rw [decode_ascii s pos h ha] at hb
    rw [byteAt_get s pos h]; exact hb
  · rw [byteAt_get s pos h]
    generalize ((s[pos]'h).toNat) = b at *
    have h1 : letrI (b : Int) = false := by simp [letrI]; omega
    have h2 : digiI (b : Int) = false := by simp [digiI]; omega
    have h3 : ¬ (b : Int) = 95 := by omega
    simp [badI, h1, h2, h3]

theorem empty_of (s : ByteArray) (h : s.size = 0) : s = ⟨#[]⟩ := by
  obtain ⟨⟨l⟩⟩ := s
  have : l = [] := by simpa [ByteArray.size] using h
  rw [this]

theorem not_empty (s : ByteArray) (h : ¬ s.size = 0) : s.toList.isEmpty = false := by
  rw [ByteArray.toList_eq]
  cases hl : s.data.toList with
  | nil => exfalso; apply h; have := congrArg List.length hl; simpa using this
  | cons a l => rfl

theorem below_iter (w : World) (s : ByteArray) (p : Nat) : Below w.heap.size w (w.iter s p) := (Below.refl _ _).alloc (Nat.le_refl _) _

theorem badI_lett (i : Nat) (r : Int) (h : letrI r = true) : badI i r = false := by simp [badI, h]
theorem badI_first (i : Nat) (r : Int) (h : letrI r = false) (h0 : i = 0) : badI i r = true := by simp [badI, h, h0]
theorem badI_digt (i : Nat) (r : Int) (h : letrI r = false) (h0 : ¬ i = 0) (hd : digiI r = true) : badI i r = false := by simp [badI, h, h0, hd]
theorem badI_dash (i : Nat) (r : Int) (h : letrI r = false) (h0 : ¬ i = 0) (hd : digiI r = false) (h9 : r = 95) : badI i r = false := by simp [badI, h0, h9]
theorem badI_else (i : Nat) (r : Int) (h : letrI r = false) (h0 : ¬ i = 0) (hd : digiI r = false) (h9 : ¬ r = 95) : badI i r = true := by simp [badI, h, h0, hd, h9]

theorem goods_succ (s : ByteArray) (pos : Nat) (hg : ∀ j, j < pos → badI j (byteAt s j) = false) (h : badI pos (byteAt s pos) = false) :
    ∀ j, j < pos + 1 → badI j (byteAt s j) = false := by
  intro j hj
  by_cases h' : j < pos
  · exact hg j h'
  · obtain rfl : j = pos := by omega
    exact h

set_option maxHeartbeats 1000000 in
theorem word_any (s : ByteArray) (w : World) (hs : s.size ≤ maxLen) : Calls Tryz.prog 94 #[.string s] w fun e w' => e = .returned (.int .i64 (wordE s)) ∧ Below w.heap.size w w' := by
  unfold maxLen at hs
  by_cases h0 : s.size = 0
  · have hw := Lib.hid (wordE_empty s h0)
    obtain rfl := empty_of s h0
    clear h0 hs
    go_enter Tryz.func94, Tryz.ntmps94
    go_wp2
    go_ret
    exact ⟨ret_int hw.out.symm, Below.refl _ _⟩
  · have hne := not_empty s h0
    go_enter Tryz.func94, Tryz.ntmps94
    go_wp2
    go_loopg [3] s.size (fun k i wr => ∃ pos : Nat, wr = w.iter s pos ∧ pos + k = s.size ∧ ∀ j, j < pos → badI j (byteAt s j) = false)
    case atStart => exact ⟨0, rfl, by omega, fun j hj => absurd hj (Nat.not_lt_zero _)⟩
    case round =>
      obtain ⟨pos, rfl, hk, hg⟩ := hrel
      have hg := Lib.hid hg
      by_cases hp : pos < s.size
      · have hnx : ∀ ty, (Instr.next (.pointer (some ⟨w.heap.size, 0, none⟩)) true ty).run Tryz.prog (w.iter s pos) = _ := fun ty => run_next_any w s pos ty hp
        have HB := Lib.hid (decode_bad s pos pos hp)
        have HG := Lib.hid (decode_good s pos pos hp)
        generalize hr : (((Utf8.decode s pos).1 : Nat) : Int) = r at hnx HB HG
        generalize hv : (Utf8.decode s pos).2 = v at hnx HB HG
        clear hr hv
        have hpz : 0 ≤ (pos : Int) := by omega
        cases hl : letrI r
        · by_cases hz : pos = 0
          · have hB := Lib.hid (badI_first pos r hl hz)
            have hzb : ((pos : Int) == 0) = true := by simp [hz]
            have hW := Lib.hid (wordE_bad s pos hp (HG.out hB.out))
            clear hz
            go_wp2_with fail
            refine (lett_any r _).mono ?_
            rintro e w' ⟨rfl, rfl⟩
            go_wp2_with fail
            go_ret
            exact ⟨ret_int hW.out.symm, below_iter _ _ _⟩
          · have hzb : ((pos : Int) == 0) = false := by simp; omega
            cases hd : digiI r
            · by_cases h9 : r = 95
              · have hB := badI_dash pos r hl hz hd h9
                have h9b : (r != 95) = false := by simp [h9]
                have hB := Lib.hid hB
                clear h9
                go_wp2_with fail
                refine (lett_any r _).mono ?_
                rintro e w' ⟨rfl, rfl⟩
                go_wp2_with fail
                refine (digt_any r _).mono ?_
                rintro e w' ⟨rfl, rfl⟩
                go_wp2_with fail
                obtain ⟨hv, hrb⟩ := HB.out hB.out
                have hB2 := hB.out
                rw [hrb] at hB2
                subst hv
                go_roundg (s.size - (pos + 1))
                case measure => omega
                case rel => exact ⟨pos + 1, rfl, by omega, goods_succ s pos hg.out hB2⟩
              · have hB := Lib.hid (badI_else pos r hl hz hd h9)
                have h9b : (r != 95) = true := by simp [h9]
                have hW := Lib.hid (wordE_bad s pos hp (HG.out hB.out))
                clear h9
                go_wp2_with fail
                refine (lett_any r _).mono ?_
                rintro e w' ⟨rfl, rfl⟩
                go_wp2_with fail
                refine (digt_any r _).mono ?_
                rintro e w' ⟨rfl, rfl⟩
                go_wp2_with fail
                go_ret
                exact ⟨ret_int hW.out.symm, below_iter _ _ _⟩
            · have hB := Lib.hid (badI_digt pos r hl hz hd)
              go_wp2_with fail
              refine (lett_any r _).mono ?_
              rintro e w' ⟨rfl, rfl⟩
              go_wp2_with fail
              refine (digt_any r _).mono ?_
              rintro e w' ⟨rfl, rfl⟩
              go_wp2_with fail
              obtain ⟨hv, hrb⟩ := HB.out hB.out
              have hB2 := hB.out
              rw [hrb] at hB2
              subst hv
              go_roundg (s.size - (pos + 1))
              case measure => omega
              case rel => exact ⟨pos + 1, rfl, by omega, goods_succ s pos hg.out hB2⟩
        · have hB := Lib.hid (badI_lett pos r hl)
          go_wp2_with fail
          refine (lett_any r _).mono ?_
          rintro e w' ⟨rfl, rfl⟩
          go_wp2_with fail
          obtain ⟨hv, hrb⟩ := HB.out hB.out
          have hB2 := hB.out
          rw [hrb] at hB2
          subst hv
          go_roundg (s.size - (pos + 1))
          case measure => omega
          case rel => exact ⟨pos + 1, rfl, by omega, goods_succ s pos hg.out hB2⟩
      · have hnx : ∀ ty, (Instr.next (.pointer (some ⟨w.heap.size, 0, none⟩)) true ty).run Tryz.prog (w.iter s pos) = _ := fun ty => run_next_end w s pos ty hp
        have hps : pos = s.size := by omega
        have hg2 : ∀ j, j < s.size → badI j (byteAt s j) = false := by intro j hj; exact hg.out j (by omega)
        clear hg hk
        by_cases hl : 12 < s.size
        · have hW := Lib.hid (wordE_long s hg2 hl)
          clear hg2 hps
          go_wp2
          go_ret
          exact ⟨ret_int hW.out.symm, below_iter _ _ _⟩
        · have hW := Lib.hid (wordE_ok s hg2 (by omega) hl)
          clear hg2 hps
          go_wp2
          go_ret
          exact ⟨ret_int hW.out.symm, below_iter _ _ _⟩
end Go.Proofs.YtlngbphchhbpbaaGreat

/- Contracts of layer 3 (name), second part: the reference's Word, Language, Check, Small, Capital, Compare, of the program and of the reference. -/
namespace Go.Proofs.YtlngbphchhbpbaaGreat
open Go.ChangeShapes Go.WideShapes Go.ChangeAt Go.RowKit
set_option linter.unusedVariables false

theorem rlett_any (r : Int) (w : World) : Calls Tryz.prog 107 #[.int .u8 r] w fun e w' => e = .returned (.bool (letrI r)) ∧ w = w' := by
  by_cases h1 : 97 ≤ r
  · by_cases h2 : r ≤ 122
    · go_enter Tryz.func107, Tryz.ntmps107
      go_wp2
      go_ret
      exact ⟨ret_bool (by simp [letrI]; omega), rfl⟩
    · have h3 : 65 ≤ r := by omega
      have h4 : ¬ r ≤ 90 := by omega
      go_enter Tryz.func107, Tryz.ntmps107
      go_wp2
      go_ret
      exact ⟨ret_bool (by simp [letrI]; omega), rfl⟩
  · by_cases h3 : 65 ≤ r
    · by_cases h4 : r ≤ 90
      · go_enter Tryz.func107, Tryz.ntmps107
        go_wp2
        go_ret
        exact ⟨ret_bool (by simp [letrI]; omega), rfl⟩
      · go_enter Tryz.func107, Tryz.ntmps107
        go_wp2
        go_ret
        exact ⟨ret_bool (by simp [letrI]; omega), rfl⟩
    · go_enter Tryz.func107, Tryz.ntmps107
      go_wp2
      go_ret
      exact ⟨ret_bool (by simp [letrI]; omega), rfl⟩

theorem rdigt_any (r : Int) (w : World) : Calls Tryz.prog 108 #[.int .u8 r] w fun e w' => e = .returned (.bool (digiI r)) ∧ w = w' := by
  by_cases h1 : 48 ≤ r
  · by_cases h2 : r ≤ 57
    · go_enter Tryz.func108, Tryz.ntmps108
      go_wp2
      go_ret
      exact ⟨ret_bool (by simp [digiI]; omega), rfl⟩
    · go_enter Tryz.func108, Tryz.ntmps108
      go_wp2
      go_ret
      exact ⟨ret_bool (by simp [digiI]; omega), rfl⟩
  · go_enter Tryz.func108, Tryz.ntmps108
    go_wp2
    go_ret
    exact ⟨ret_bool (by simp [digiI]; omega), rfl⟩

set_option maxHeartbeats 1000000 in
theorem rword_any (s : ByteArray) (w : World) (hs : s.size ≤ maxLen) : Calls Tryz.prog 101 #[.string s] w fun e w' => e = .returned (.int .i64 (wordE s)) ∧ w = w' := by
  unfold maxLen at hs
  by_cases h0 : s.size = 0
  · have hw := Lib.hid (wordE_empty s h0)
    obtain rfl := empty_of s h0
    clear h0 hs
    go_enter Tryz.func101, Tryz.ntmps101
    go_wp2
    go_ret
    exact ⟨ret_int hw.out.symm, rfl⟩
  · have hne := not_empty s h0
    go_enter Tryz.func101, Tryz.ntmps101
    go_wp2
    go_loopg [3] s.size (fun k i wr => ∃ pos : Nat, wr = w ∧ i = .int .i64 pos ∧ pos + k = s.size ∧ ∀ j, j < pos → badI j (byteAt s j) = false)
    case atStart => exact ⟨0, rfl, rfl, by omega, fun j hj => absurd hj (Nat.not_lt_zero _)⟩
    case round =>
      obtain ⟨pos, rfl, rfl, hk, hg⟩ := hrel
      have hG := Lib.hid hg
      clear hg
      by_cases hp : pos < s.size
      · have hbt := (byteAt_get s pos hp).symm
        have HS0 := Lib.hid (goods_succ s pos hG.out)
        have HW0 := Lib.hid (wordE_bad s pos hp)
        generalize byteAt s pos = r at hbt HS0 HW0
        have hpz : 0 ≤ (pos : Int) := by omega
        cases hl : letrI r
        · by_cases hz : pos = 0
          · have hB := badI_first pos r hl hz
            have hzb : ((pos : Int) == 0) = true := by simp [hz]
            have hW := Lib.hid (HW0.out hB)
            clear hz hB HS0 HW0
            go_wp2_with fail
            refine (rlett_any r _).mono ?_
            rintro e w' ⟨rfl, rfl⟩
            go_wp2_with fail
            go_ret
            exact ⟨ret_int hW.out.symm, rfl⟩
          · have hzb : ((pos : Int) == 0) = false := by simp; omega
            cases hd : digiI r
            · by_cases h9 : r = 95
              · have hB := badI_dash pos r hl hz hd h9
                have h9b : (r != 95) = false := by simp [h9]
                have HS := Lib.hid (HS0.out hB)
                clear h9 hB HS0 HW0
                go_wp2_with fail
                refine (rlett_any r _).mono ?_
                rintro e w' ⟨rfl, rfl⟩
                go_wp2_with fail
                refine (rdigt_any r _).mono ?_
                rintro e w' ⟨rfl, rfl⟩
                go_wp2_with fail
                go_roundg (s.size - (pos + 1))
                case measure => omega
                case rel => exact ⟨pos + 1, rfl, by go_num, by omega, HS.out⟩
              · have hB := badI_else pos r hl hz hd h9
                have h9b : (r != 95) = true := by simp [h9]
                have hW := Lib.hid (HW0.out hB)
                clear h9 hB HS0 HW0
                go_wp2_with fail
                refine (rlett_any r _).mono ?_
                rintro e w' ⟨rfl, rfl⟩
                go_wp2_with fail
                refine (rdigt_any r _).mono ?_
                rintro e w' ⟨rfl, rfl⟩
                go_wp2_with fail
                go_ret
                exact ⟨ret_int hW.out.symm, rfl⟩
            · have hB := badI_digt pos r hl hz hd
              have HS := Lib.hid (HS0.out hB)
              clear hB HS0 HW0
              go_wp2_with fail
              refine (rlett_any r _).mono ?_
              rintro e w' ⟨rfl, rfl⟩
              go_wp2_with fail
              refine (rdigt_any r _).mono ?_
              rintro e w' ⟨rfl, rfl⟩
              go_wp2_with fail
              go_roundg (s.size - (pos + 1))
              case measure => omega
              case rel => exact ⟨pos + 1, rfl, by go_num, by omega, HS.out⟩
        · have hB := badI_lett pos r hl
          have HS := Lib.hid (HS0.out hB)
          clear hB HS0 HW0
          go_wp2_with fail
          refine (rlett_any r _).mono ?_
          rintro e w' ⟨rfl, rfl⟩
          go_wp2_with fail
          go_roundg (s.size - (pos + 1))
          case measure => omega
          case rel => exact ⟨pos + 1, rfl, by go_num, by omega, HS.out⟩
      · have hps : pos = s.size := by omega
        have hg2 : ∀ j, j < s.size → badI j (byteAt s j) = false := by intro j hj; exact hG.out j (by omega)
        clear hG hk
        by_cases hl : 12 < s.size
        · have hW := Lib.hid (wordE_long s hg2 hl)
          clear hg2 hps
          go_wp2
          go_ret
          exact ⟨ret_int hW.out.symm, rfl⟩
        · have hW := Lib.hid (wordE_ok s hg2 (by omega) hl)
          clear hg2 hps
          go_wp2
          go_ret
          exact ⟨ret_int hW.out.symm, rfl⟩
end Go.Proofs.YtlngbphchhbpbaaGreat

/- Contracts of slices.Index and slices.Contains at []string, and of layer 3's Language, Check, Small, Capital, Compare. -/
namespace Go.Proofs.YtlngbphchhbpbaaGreat
open Go.ChangeShapes Go.WideShapes Go.ChangeAt Go.RowKit
set_option linter.unusedVariables false

/-- the cells of a slice of strings -/
def Strs (w : World) (b off : Nat) (l : List ByteArray) : Prop := ∀ i, i < l.length → w.cell? ⟨b, off + i, none⟩ = some (.string (l.getD i ByteArray.empty))
/-- a slice value that reads as a list of strings: nil or with cells -/
def Reads (w : World) (a : Option Addr) (n : Nat) (l : List ByteArray) : Prop := n = l.length ∧ (n = 0 ∨ ∃ b off, a = some ⟨b, off, none⟩ ∧ Strs w b off l)

/-- the place of the first equal string from place k on; -1 if there is none -/
def idxF (s : ByteArray) : List ByteArray → Nat → Int
  | [], _ => -1
  | x :: l, k => if s = x then (k : Int) else idxF s l (k + 1)

theorem drop_cons (l : List ByteArray) (k : Nat) (h : k < l.length) : l.drop k = l.getD k ByteArray.empty :: l.drop (k + 1) := by
  rw [List.drop_eq_getElem_cons h]; simp [List.getD_eq_getElem?_getD, h]

theorem eqT (a b : ByteArray) (h : a = b) : (a.toList == b.toList) = true := by rw [h]; simp
theorem eqF (a b : ByteArray) (h : ¬ a = b) : (a.toList == b.toList) = false := by
  rw [beq_eq_false_iff_ne]
  intro h2
  apply h
  rw [ByteArray.toList_eq, ByteArray.toList_eq] at h2
  exact ByteArray.ext (Array.toList_inj.1 h2)

set_option maxHeartbeats 400000 in
theorem index_any (a : Option Addr) (n cap : Nat) (l : List ByteArray) (s : ByteArray) (w : World) (hr : Reads w a n l) (hn : n ≤ 1000000) :
    Calls Tryz.prog 109 #[.slice a n cap, .string s] w fun e w' => e = .returned (.int .i64 (idxF s l 0)) ∧ w = w' := by
  obtain ⟨rfl, hc⟩ := hr
  have hc := Lib.hid hc
  go_enter Tryz.func109, Tryz.ntmps109
  go_wp2
  go_loopg [8] l.length (fun k i wr => ∃ pos : Nat, wr = w ∧ i = .int .i64 pos ∧ pos + k = l.length ∧ idxF s (l.drop pos) pos = idxF s l 0)
  case atStart => exact ⟨0, rfl, rfl, by omega, rfl⟩
  case round =>
    obtain ⟨pos, rfl, rfl, hk, hg⟩ := hrel
    by_cases hp : pos < l.length
    · rcases hc.out with hz | ⟨b, off, rfl, hst⟩
      · omega
      · have hcell := hst pos (by omega)
        have hd := drop_cons l pos (by omega)
        generalize l.getD pos ByteArray.empty = x at hcell hd
        rw [hd] at hg
        have hpz : 0 ≤ (pos : Int) := by omega
        by_cases hx : s = x
        · have hxb := eqT s x hx
          have hG := Lib.hid (hg.symm.trans (by simp [idxF, hx]) : idxF s l 0 = pos)
          clear hg hd hc hx hst
          go_wp2_with fail
          go_ret
          exact ⟨ret_int hG.out.symm, rfl⟩
        · have hxb := eqF s x hx
          have hG := Lib.hid ((show idxF s (x :: List.drop (pos + 1) l) pos = idxF s (List.drop (pos + 1) l) (pos + 1) by simp [idxF, hx]).symm.trans hg)
          clear hg hd hc hx hst
          go_wp2_with fail
          go_roundg (l.length - (pos + 1))
          case measure => omega
          case rel => exact ⟨pos + 1, rfl, by go_num, by omega, hG.out⟩
    · have hps : pos = l.length := by omega
      have hG := Lib.hid hg
      clear hg hc
      have hf := hG.out
      rw [List.drop_of_length_le (by omega)] at hf
      have hF := Lib.hid hf
      clear hf hps hk hG
      go_wp2
      go_ret
      exact ⟨ret_int hF.out, rfl⟩

def hasB (s : ByteArray) (l : List ByteArray) : Bool := l.any fun x => decide (s = x)

theorem idxF_ge (s : ByteArray) : ∀ l k, (idxF s l k = -1 ∧ hasB s l = false) ∨ ((k : Int) ≤ idxF s l k ∧ idxF s l k < k + l.length ∧ hasB s l = true)
  | [], k => by simp [idxF, hasB]
  | x :: l, k => by
    by_cases h : s = x
    · right
      refine ⟨by simp [idxF, h], by simp [idxF, h]; omega, by simp [hasB, h]⟩
    · have := idxF_ge s l (k + 1)
      simp only [idxF, h, if_false, hasB, List.any_cons, decide_false, Bool.false_or]
      rcases this with ⟨h1, h2⟩ | ⟨h1, h2, h3⟩
      · exact .inl ⟨h1, h2⟩
      · right; refine ⟨by omega, by simp only [List.length_cons]; omega, h3⟩

theorem contains_any (a : Option Addr) (n cap : Nat) (l : List ByteArray) (s : ByteArray) (w : World) (hr : Reads w a n l) (hn : n ≤ 1000000) :
    Calls Tryz.prog 105 #[.slice a n cap, .string s] w fun e w' => e = .returned (.bool (hasB s l)) ∧ w = w' := by
  have hi : decide (0 ≤ idxF s l 0) = hasB s l := by
    rcases idxF_ge s l 0 with ⟨h1, h2⟩ | ⟨h1, _, h2⟩
    · rw [h1, h2]; decide
    · rw [h2]; simpa using h1
  have hI := Lib.hid (index_any a n cap l s w hr hn)
  rw [← hi]
  clear hr hi
  generalize idxF s l 0 = k at *
  go_enter Tryz.func105, Tryz.ntmps105
  go_wp2_with fail
  refine (hI.out).mono ?_
  rintro e w' ⟨rfl, rfl⟩
  go_wp2_with fail
  go_ret
  exact ⟨ret_bool rfl, rfl⟩

def words : List ByteArray := [⟨#[108, 111, 111, 107, 97, 104, 101, 97, 100]⟩, ⟨#[116, 111, 107, 101, 110]⟩, ⟨#[115, 101, 112, 97, 114, 97, 116, 111, 114]⟩, ⟨#[115, 116, 97, 114, 116]⟩]
theorem lang_words (s : ByteArray) : hasB s words = langB s := by simp [hasB, words, langB]

set_option maxHeartbeats 400000 in
theorem lang_any (s : ByteArray) (w : World) : Calls Tryz.prog 95 #[.string s] w fun e w' => e = .returned (.bool (langB s)) ∧ Below w.heap.size w w' := by
  go_enter Tryz.func95, Tryz.ntmps95
  go_wp2_with fail
  refine (contains_any _ 4 4 words s _ ⟨rfl, .inr ⟨w.heap.size, 0, rfl, ?_⟩⟩ (by omega)).mono ?_
  · intro i hi
    have : i = 0 ∨ i = 1 ∨ i = 2 ∨ i = 3 := by simp [words] at hi; omega
    rcases this with rfl | rfl | rfl | rfl <;> simp [words]
  · rintro e w' ⟨rfl, rfl⟩
    rw [lang_words]
    go_wp2_with fail
    go_ret
    exact ⟨rfl, (Below.refl _ _).alloc (Nat.le_refl _) _⟩

theorem dec_tl (s : ByteArray) (l : List UInt8) : decide (s = ⟨l.toArray⟩) = (s.toList == l) := by
  by_cases h : s = ⟨l.toArray⟩
  · rw [decide_eq_true h, h]; simp
  · have h2 := eqF s _ h
    have h3 : (⟨l.toArray⟩ : ByteArray).toList = l := ByteArray.toList_mk l
    rw [h3] at h2
    rw [h2, decide_eq_false h]

theorem langB_tl (s : ByteArray) : langB s = (s.toList == [108, 111, 111, 107, 97, 104, 101, 97, 100] || (s.toList == [116, 111, 107, 101, 110] || (s.toList == [115, 101, 112, 97, 114, 97, 116, 111, 114] || s.toList == [115, 116, 97, 114, 116]))) := by
  unfold langB
  rw [← dec_tl, ← dec_tl, ← dec_tl, ← dec_tl]

set_option maxHeartbeats 400000 in
theorem rlang_any (s : ByteArray) (w : World) : Calls Tryz.prog 102 #[.string s] w fun e w' => e = .returned (.bool (langB s)) ∧ w = w' := by
  have hL := Lib.hid (langB_tl s)
  generalize langB s = x at *
  go_enter Tryz.func102, Tryz.ntmps102
  go_wp2
  all_goals
    go_ret
    exact ⟨ret_bool (by rw [hL.out]; first | (simp only [Bool.or_assoc]; done) | (simp [*]; done)), rfl⟩

theorem check_any (s : ByteArray) (w : World) (hs : s.size ≤ maxLen) : Calls Tryz.prog 80 #[.string s] w fun e w' => e = .returned (.int .i64 (checkE s)) ∧ Below w.heap.size w w' := by
  by_cases h0 : wordE s = 0
  · cases hl : langB s
    · have hC : checkE s = 0 := by simp [checkE, h0, hl]
      rw [hC]
      go_enter Tryz.func80, Tryz.ntmps80
      go_wp2_with fail
      refine (word_any s _ hs).mono ?_
      rintro e w1 ⟨rfl, hb1⟩
      rw [h0]
      go_wp2_with fail
      refine (lang_any s _).mono ?_
      rintro e w2 ⟨rfl, hb2⟩
      rw [hl]
      go_wp2_with fail
      go_ret
      exact ⟨rfl, hb1.trans (hb2.mono hb1.size)⟩
    · have hC : checkE s = 12 := by simp [checkE, h0, hl]
      rw [hC]
      go_enter Tryz.func80, Tryz.ntmps80
      go_wp2_with fail
      refine (word_any s _ hs).mono ?_
      rintro e w1 ⟨rfl, hb1⟩
      rw [h0]
      go_wp2_with fail
      refine (lang_any s _).mono ?_
      rintro e w2 ⟨rfl, hb2⟩
      rw [hl]
      go_wp2_with fail
      go_ret
      exact ⟨rfl, hb1.trans (hb2.mono hb1.size)⟩
  · have hC : checkE s = wordE s := by simp [checkE, h0]
    have h0b : (wordE s == 0) = false := by simpa using h0
    rw [hC]
    clear hC h0
    go_enter Tryz.func80, Tryz.ntmps80
    go_wp2_with fail
    refine (word_any s _ hs).mono ?_
    rintro e w1 ⟨rfl, hb1⟩
    go_wp2_with fail
    go_ret
    exact ⟨rfl, hb1⟩

theorem rcheck_any (s : ByteArray) (w : World) (hs : s.size ≤ maxLen) : Calls Tryz.prog 92 #[.string s] w fun e w' => e = .returned (.int .i64 (checkE s)) ∧ w = w' := by
  by_cases h0 : wordE s = 0
  · cases hl : langB s
    · have hC : checkE s = 0 := by simp [checkE, h0, hl]
      rw [hC]
      go_enter Tryz.func92, Tryz.ntmps92
      go_wp2_with fail
      refine (rword_any s _ hs).mono ?_
      rintro e w1 ⟨rfl, rfl⟩
      rw [h0]
      go_wp2_with fail
      refine (rlang_any s _).mono ?_
      rintro e w2 ⟨rfl, rfl⟩
      rw [hl]
      go_wp2_with fail
      go_ret
      exact ⟨rfl, rfl⟩
    · have hC : checkE s = 12 := by simp [checkE, h0, hl]
      rw [hC]
      go_enter Tryz.func92, Tryz.ntmps92
      go_wp2_with fail
      refine (rword_any s _ hs).mono ?_
      rintro e w1 ⟨rfl, rfl⟩
      rw [h0]
      go_wp2_with fail
      refine (rlang_any s _).mono ?_
      rintro e w2 ⟨rfl, rfl⟩
      rw [hl]
      go_wp2_with fail
      go_ret
      exact ⟨rfl, rfl⟩
  · have hC : checkE s = wordE s := by simp [checkE, h0]
    have h0b : (wordE s == 0) = false := by simpa using h0
    rw [hC]
    clear hC h0
    go_enter Tryz.func92, Tryz.ntmps92
    go_wp2_with fail
    refine (rword_any s _ hs).mono ?_
    rintro e w1 ⟨rfl, rfl⟩
    go_wp2_with fail
    go_ret
    exact ⟨rfl, rfl⟩
end Go.Proofs.YtlngbphchhbpbaaGreat

/- Contracts of layer 3 (name): Small, Capital, Compare, of the program and of the reference; awake. -/
namespace Go.Proofs.YtlngbphchhbpbaaGreat
open Go.ChangeShapes Go.WideShapes Go.ChangeAt Go.RowKit
set_option linter.unusedVariables false

theorem check_pos (s : ByteArray) (h : checkE s = 0) : 0 < s.size := (wordE_zero s (checkE_zero s h).1).1

theorem small_any (s : ByteArray) (w : World) (hs : s.size ≤ maxLen) : Calls Tryz.prog 65 #[.string s] w fun e w' => e = .returned (.bool (smallB s)) ∧ Below w.heap.size w w' := by
  have hs' := Lib.hid hs
  unfold maxLen at hs
  by_cases h0 : checkE s = 0
  · have hp := check_pos s h0
    have hbt := (byteAt_get s 0 hp).symm
    have hC : smallB s = decide (97 ≤ byteAt s 0) := by simp [smallB, h0]
    rw [hC]
    generalize byteAt s 0 = r at hbt hC
    clear hC
    go_enter Tryz.func65, Tryz.ntmps65
    go_wp2_with fail
    refine (check_any s _ hs'.out).mono ?_
    rintro e w1 ⟨rfl, hb1⟩
    rw [h0]
    go_wp2_with fail
    go_ret
    exact ⟨ret_bool rfl, hb1⟩
  · have hC : smallB s = false := by simp [smallB, h0]
    rw [hC]
    have h0b : (checkE s == 0) = false := by simpa using h0
    clear h0 hC
    go_enter Tryz.func65, Tryz.ntmps65
    go_wp2_with fail
    refine (check_any s _ hs'.out).mono ?_
    rintro e w1 ⟨rfl, hb1⟩
    go_wp2_with fail
    go_ret
    exact ⟨rfl, hb1⟩

theorem cap_any (s : ByteArray) (w : World) (hs : s.size ≤ maxLen) : Calls Tryz.prog 66 #[.string s] w fun e w' => e = .returned (.bool (capB s)) ∧ Below w.heap.size w w' := by
  have hs' := Lib.hid hs
  unfold maxLen at hs
  by_cases h0 : checkE s = 0
  · have hp := check_pos s h0
    have hbt := (byteAt_get s 0 hp).symm
    have hC : capB s = decide (byteAt s 0 < 97) := by simp [capB, h0]
    rw [hC]
    generalize byteAt s 0 = r at hbt hC
    clear hC
    go_enter Tryz.func66, Tryz.ntmps66
    go_wp2_with fail
    refine (check_any s _ hs'.out).mono ?_
    rintro e w1 ⟨rfl, hb1⟩
    rw [h0]
    go_wp2_with fail
    go_ret
    exact ⟨ret_bool rfl, hb1⟩
  · have hC : capB s = false := by simp [capB, h0]
    rw [hC]
    have h0b : (checkE s == 0) = false := by simpa using h0
    clear h0 hC
    go_enter Tryz.func66, Tryz.ntmps66
    go_wp2_with fail
    refine (check_any s _ hs'.out).mono ?_
    rintro e w1 ⟨rfl, hb1⟩
    go_wp2_with fail
    go_ret
    exact ⟨rfl, hb1⟩

theorem rsmall_any (s : ByteArray) (w : World) (hs : s.size ≤ maxLen) : Calls Tryz.prog 73 #[.string s] w fun e w' => e = .returned (.bool (smallB s)) ∧ w = w' := by
  have hs' := Lib.hid hs
  unfold maxLen at hs
  by_cases h0 : checkE s = 0
  · have hp := check_pos s h0
    have hbt := (byteAt_get s 0 hp).symm
    have hf := word_first s (checkE_zero s h0).1
    have hC : smallB s = decide (97 ≤ byteAt s 0) := by simp [smallB, h0]
    rw [hC]
    generalize byteAt s 0 = r at hbt hC hf
    simp only [letrI, decide_eq_true_eq] at hf
    clear hC
    by_cases h1 : 97 ≤ r
    · have h2 : r ≤ 122 := by omega
      rw [decide_eq_true h1]
      clear hf
      go_enter Tryz.func73, Tryz.ntmps73
      go_wp2_with fail
      refine (rcheck_any s _ hs'.out).mono ?_
      rintro e w1 ⟨rfl, rfl⟩
      rw [h0]
      go_wp2_with fail
      go_ret
      exact ⟨rfl, rfl⟩
    · rw [decide_eq_false h1]
      clear hf
      go_enter Tryz.func73, Tryz.ntmps73
      go_wp2_with fail
      refine (rcheck_any s _ hs'.out).mono ?_
      rintro e w1 ⟨rfl, rfl⟩
      rw [h0]
      go_wp2_with fail
      go_ret
      exact ⟨rfl, rfl⟩
  · have hC : smallB s = false := by simp [smallB, h0]
    rw [hC]
    have h0b : (checkE s == 0) = false := by simpa using h0
    clear h0 hC
    go_enter Tryz.func73, Tryz.ntmps73
    go_wp2_with fail
    refine (rcheck_any s _ hs'.out).mono ?_
    rintro e w1 ⟨rfl, rfl⟩
    go_wp2_with fail
    go_ret
    exact ⟨rfl, rfl⟩

theorem rcap_any (s : ByteArray) (w : World) (hs : s.size ≤ maxLen) : Calls Tryz.prog 74 #[.string s] w fun e w' => e = .returned (.bool (capB s)) ∧ w = w' := by
  have hs' := Lib.hid hs
  unfold maxLen at hs
  by_cases h0 : checkE s = 0
  · have hp := check_pos s h0
    have hbt := (byteAt_get s 0 hp).symm
    have hf := word_first s (checkE_zero s h0).1
    have hC : capB s = decide (byteAt s 0 < 97) := by simp [capB, h0]
    rw [hC]
    generalize byteAt s 0 = r at hbt hC hf
    simp only [letrI, decide_eq_true_eq] at hf
    clear hC
    have h0 := Lib.hid h0
    by_cases h1 : r < 97
    · have h2 : 65 ≤ r := by omega
      have h3 : r ≤ 90 := by omega
      rw [decide_eq_true h1]
      clear hf
      go_enter Tryz.func74, Tryz.ntmps74
      go_wp2_with fail
      refine (rcheck_any s _ hs'.out).mono ?_
      rintro e w1 ⟨rfl, rfl⟩
      rw [h0.out]
      go_wp2_with fail
      go_ret
      exact ⟨rfl, rfl⟩
    · rw [decide_eq_false h1]
      have h2 : 65 ≤ r := by omega
      have h3 : ¬ r ≤ 90 := by omega
      clear hf
      go_enter Tryz.func74, Tryz.ntmps74
      go_wp2_with fail
      refine (rcheck_any s _ hs'.out).mono ?_
      rintro e w1 ⟨rfl, rfl⟩
      rw [h0.out]
      go_wp2_with fail
      go_ret
      exact ⟨ret_bool (decide_eq_false (by omega)), rfl⟩
  · have hC : capB s = false := by simp [capB, h0]
    rw [hC]
    have h0b : (checkE s == 0) = false := by simpa using h0
    clear h0 hC
    go_enter Tryz.func74, Tryz.ntmps74
    go_wp2_with fail
    refine (rcheck_any s _ hs'.out).mono ?_
    rintro e w1 ⟨rfl, rfl⟩
    go_wp2_with fail
    go_ret
    exact ⟨rfl, rfl⟩

theorem cmp_less (a b : ByteArray) : Op.bytesLess a.toList b.toList = decide (cmpB a b = -1) := by
  rw [ByteArray.toList_eq, ByteArray.toList_eq]; exact less_iff _ _
theorem cmp_eq (a b : ByteArray) : (a.toList == b.toList) = decide (cmpB a b = 0) := by
  rw [ByteArray.toList_eq, ByteArray.toList_eq]
  by_cases h : cmpB a b = 0
  · rw [decide_eq_true h, cmpL_eq _ _ h]; simp
  · rw [decide_eq_false h, beq_eq_false_iff_ne]
    intro h2
    apply h
    unfold cmpB
    rw [h2]; exact cmpL_refl _

theorem wordE_1a : wordE ⟨#[49, 97]⟩ = 3 := by decide +kernel
theorem smallB_a : smallB ⟨#[97]⟩ = true := by decide +kernel
theorem smallB_A : smallB ⟨#[65]⟩ = false := by decide +kernel
theorem mkB_12 : mkB 12 true = ⟨#[78, 49, 50]⟩ := by decide +kernel
theorem mkE_12 : mkE 12 = 0 := by decide +kernel

end Go.Proofs.YtlngbphchhbpbaaGreat

/- (derive.text).plus. -/
namespace Go.Proofs.YtlngbphchhbpbaaGreat
open Go.ChangeShapes Go.WideShapes Go.ChangeAt Go.RowKit
set_option linter.unusedVariables false

theorem size70 : (Tryz.prog.info? 59).map (·.size) = some 13 := by kernel_rfl
theorem size67 : (Tryz.prog.info? 56).map (·.size) = some 1 := by kernel_rfl
theorem under88 : Tryz.prog.underlying 76 = some (.slice 56) := by kernel_rfl
theorem txc_size (x : List Int) : (txc x).size = 13 := rfl
theorem txc_one (x : List Int) : (txc x).all (·.oneCell') = true := by simp [txc, Value.oneCell']
theorem txc_zero (x : List Int) : (txc x)[0]? = some (.int .i64 x.length) := rfl
theorem txc_get (x : List Int) (i : Nat) (h : i < 12) : (txc x)[1 + i]? = some (.int .i8 (x.getD i 0)) := by
  have : i = 0 ∨ i = 1 ∨ i = 2 ∨ i = 3 ∨ i = 4 ∨ i = 5 ∨ i = 6 ∨ i = 7 ∨ i = 8 ∨ i = 9 ∨ i = 10 ∨ i = 11 := by omega
  rcases this with rfl | rfl | rfl | rfl | rfl | rfl | rfl | rfl | rfl | rfl | rfl | rfl <;> rfl
theorem getD_app (x y : List Int) (i : Nat) : (x ++ y).getD i 0 = if i < x.length then x.getD i 0 else y.getD (i - x.length) 0 := by
  simp only [List.getD_eq_getElem?_getD]
  by_cases h : i < x.length
  · rw [if_pos h, List.getElem?_append_left h]
  · rw [if_neg h, List.getElem?_append_right (by omega)]
def i8s (l : List Int) : List Value := l.map (Value.int .i8)
/-- the cells behind the copy, and the new length -/
theorem txc_plus {x y : List Int} (h : x.length + y.length ≤ 12) :
    (((txc x).toList.take (1 + x.length) ++ i8s y ++ (txc x).toList.drop (1 + x.length + (i8s y).length)).toArray).setIfInBounds 0 (.int .i64 ((x.length : Int) + y.length)) = txc (x ++ y) := by
  have hl : (txc x).toList.length = 13 := rfl
  apply Array.ext_getElem?
  intro i
  by_cases h0 : i = 0
  · subst h0
    rw [Array.getElem?_setIfInBounds_self_of_lt (by simp [hl]; omega), txc_zero]
    simp
  · obtain ⟨j, rfl⟩ : ∃ j, i = 1 + j := ⟨i - 1, by omega⟩
    rw [Array.getElem?_setIfInBounds_ne (by omega)]
    by_cases hj : j < 12
    · rw [txc_get _ _ hj, getD_app, List.getElem?_toArray, List.append_assoc]
      by_cases h1 : j < x.length
      · rw [if_pos h1, List.getElem?_append_left (by simp [hl]; omega), List.getElem?_take_of_lt (by omega), Array.getElem?_toList, txc_get _ _ hj]
      · rw [if_neg h1, List.getElem?_append_right (by simp [hl]; omega)]
        have e : 1 + j - ((txc x).toList.take (1 + x.length)).length = j - x.length := by simp [hl]; omega
        rw [e]
        by_cases h2 : j - x.length < y.length
        · rw [List.getElem?_append_left (by simpa [i8s] using h2)]
          simp [i8s, List.getD_eq_getElem?_getD, h2]
        · rw [List.getElem?_append_right (by simpa [i8s] using h2), List.getElem?_drop]
          have e2 : 1 + x.length + (i8s y).length + (j - x.length - (i8s y).length) = 1 + j := by simp [i8s]; omega
          rw [e2, Array.getElem?_toList, txc_get _ _ hj]
          have a1 : x.getD j 0 = 0 := by rw [List.getD_eq_getElem?_getD, List.getElem?_eq_none (by omega)]; rfl
          have a2 : y.getD (j - x.length) 0 = 0 := by rw [List.getD_eq_getElem?_getD, List.getElem?_eq_none (by omega)]; rfl
          rw [a1, a2]
    · have e1 : (txc (x ++ y))[1 + j]? = none := Array.getElem?_eq_none (by rw [txc_size]; omega)
      rw [e1, List.getElem?_toArray, List.getElem?_eq_none]
      simp [i8s]
      have : (txc x).size = 13 := rfl
      omega
theorem txc_mid0 (x y : List Int) : ((txc x).toList.take (1 + x.length) ++ i8s y ++ (txc x).toList.drop (1 + x.length + (i8s y).length)).toArray[0]? = some (.int .i64 x.length) := by
  rw [List.getElem?_toArray, List.append_assoc, List.getElem?_append_left (by have : (txc x).toList.length = 13 := rfl; simp [this]; omega), List.getElem?_take_of_lt (by omega)]
  rfl

/-- the array of a text, as a slice: what copy does -/
theorem copy_text {W : World} {g h : Nat} {x y : List Int} (qx : Blk W g 59 (txc x)) (qy : Blk W h 59 (txc y)) (hl : x.length + y.length ≤ 12) :
    ∃ W2, (∀ A c c', (A = some ⟨g, 1 + x.length, none⟩ ∨ y.length = 0) → (Builtin.copy_ #[76, 76] 3 #[.slice A (12 - x.length) c, .slice (some ⟨h, 1, none⟩) y.length c']).run Tryz.prog W = .ok (.int .i64 y.length) W2) ∧
      Blk (W2.setCell ⟨g, 0, none⟩ (.int .i64 ((x.length : Int) + y.length))) g 59 (txc (x ++ y)) ∧ W2.cell? ⟨g, 0, none⟩ = some (.int .i64 x.length) ∧ W2.frozen? ⟨g, 0, none⟩ = false ∧ W2.heap.size = W.heap.size ∧ (∀ k, k ≠ g → W2.heap[k]? = W.heap[k]?) ∧ ∀ W0, Below W0.heap.size W0 W → W0.heap.size ≤ g → Below W0.heap.size W0 W2 := by
  have hil : (i8s y).length = y.length := by simp [i8s]
  by_cases h0 : y.length = 0
  · have hy : y = [] := List.eq_nil_of_length_eq_zero h0
    subst hy
    refine ⟨W, ?_, ?_, ?_, qx.frozen 0, rfl, fun _ _ => rfl, fun W0 hb _ => hb⟩
    · intro A c c' _
      exact run_copy_none (P := Tryz.prog) W 76 76 3 56 A _ _ c 0 c' under88 size67 (by simp)
    · have := qx.put 0 (.int .i64 x.length)
      have e : (txc x).setIfInBounds 0 (.int .i64 x.length) = txc (x ++ []) := by rw [List.append_nil]; rfl
      rw [e] at this
      simpa using this
    · rw [qx.cell]; rfl
  · refine ⟨W.setRow g ((txc x).toList.take (1 + x.length) ++ i8s y ++ (txc x).toList.drop (1 + x.length + (i8s y).length)).toArray, ?_, ?_, ?_, ?_, by simp, ?_, fun W0 hb hg => below_setRow hb hg _⟩
    · rintro A c c' (rfl | h1)
      · have hr := run_copy_row (P := Tryz.prog) W 76 76 3 56 g (1 + x.length) (12 - x.length) c ⟨h, 1, none⟩ y.length c' (txc x) 59 (i8s y) under88 size67 qx (by rw [hil]; exact (Nat.min_eq_left (by omega)).symm)
          (fun j v hv => by
            have hadd : (⟨h, 1, none⟩ : Addr).add j = ⟨h, 1 + j, none⟩ := by unfold Addr.add; split <;> simp_all
            have hj : j < y.length := by have := (List.getElem?_eq_some_iff.1 hv).1; omega
            rw [hadd, qy.cell, txc_get _ _ (by omega)]
            simp only [i8s, List.getElem?_map] at hv
            rw [List.getElem?_eq_getElem hj] at hv
            simp only [Option.map_some, Option.some.injEq] at hv
            rw [← hv]
            simp [List.getD_eq_getElem?_getD, hj]) (by rw [hil, txc_size]; omega) (fun v hv => by obtain ⟨z, _, rfl⟩ := List.mem_map.1 hv; rfl)
        rw [hr, show goInt (i8s y).length = Value.int .i64 y.length by rw [hil]; rfl]
      · exact absurd h1 h0
    · have q := setRow_heap W g _ ((txc x).toList.take (1 + x.length) ++ i8s y ++ (txc x).toList.drop (1 + x.length + (i8s y).length)).toArray 59 _ qx
      have := Blk.put q 0 (.int .i64 ((x.length : Int) + y.length))
      rwa [txc_plus hl] at this
    · have q := setRow_heap W g _ ((txc x).toList.take (1 + x.length) ++ i8s y ++ (txc x).toList.drop (1 + x.length + (i8s y).length)).toArray 59 _ qx
      rw [Blk.cell q 0]
      exact txc_mid0 x y
    · have q := setRow_heap W g _ ((txc x).toList.take (1 + x.length) ++ i8s y ++ (txc x).toList.drop (1 + x.length + (i8s y).length)).toArray 59 _ qx
      exact Blk.frozen q 0
    · intro k hne
      simp [World.setRow, Array.getElem?_modify, Ne.symm hne]
end Go.Proofs.YtlngbphchhbpbaaGreat

/- What the texts on grammars take of those on looks. -/
namespace Go.Proofs.YtlngbphchhbpbaaGreat
open Go.ChangeShapes Go.WideShapes Go.ChangeAt Go.RowKit
set_option linter.unusedVariables false

theorem take_snocI (t : List Int) (j : Nat) (h : j < t.length) : t.take (j + 1) = t.take j ++ [t.getD j 0] := by
  rw [List.take_succ_eq_append_getElem h]; simp [List.getD_eq_getElem?_getD, h]
theorem own_in {w : World} {base : Nat} {e : TypeId} {size : Nat} {v : Value} {n : Nat} {xs : List Value} (h : w.ownsRow base e size v n xs) : ∀ k, v.ownBlock = some k → base ≤ k ∧ k < w.heap.size := h.lt
section
variable (w : World) {P : Program} {ops : Array Oper} {rest : List Oper} {o : Oper} {a : Act} {Q : Exit → Act → World → Prop}
/-- 'append(s, x)', one element, which lies in a block known whole -/
theorem wpList_push (hgd : o.guard = none) (s x : Operand) (t : TypeId) (ho : o.op = .call { callee := .builtin .append, args := #[s, x], argTypes := #[t, t] })
    (base : Nat) (e : TypeId) (z : Value) (size bytes : Nat) (ht : P.underlying t = some (.slice e)) (hi : (P.info? e).map (fun i => (i.zero, i.size, i.bytes)) = some (some z, size, bytes)) (hzs : z.cells.size = size) (hsz : 0 < size)
    (v : Value) (n : Nat) (xs : List Value) (hs : a.eval s = v) (hown : w.ownsRow base e size v n xs) (g : Nat) (cs : Array Value) (hx : a.eval x = .slice (some ⟨g, 0, none⟩) 1 1) (hb : Blk w g e cs) (hc : cs.size = size)
    (h1 : ∀ u ∈ cs.toList, u.oneCell' = true) (h63 : n < 1000000) (hbytes : bytes ≤ 1000000) (hbase : base ≤ w.heap.size)
    (h : ∀ v' w', w'.ownsRow base e size v' (n + 1) (xs ++ cs.toList) → w.grownBy w' v.ownBlock → (v'.ownBlock = v.ownBlock ∨ v'.ownBlock = some w.heap.size) → (∀ W0, Below base W0 w → Below base W0 w') → wpList P ops Q rest (a.put o.dst v') w') : wpList P ops Q (o :: rest) a w := by
  obtain ⟨i0, hi0, hz0, hz1, hz2⟩ := info_parts hi
  refine wpList_append_own_at w hgd s x t ho base e i0 z size bytes ht hi0 hz0 hz1 hz2 hzs hsz v n xs hs hown ⟨g, 0, none⟩ 1 1 cs.toList hx (by simp [hc]) ?_ h1 (by unfold maxLen; omega) ?_ hbase ?_
  · intro j u hu
    have : (⟨g, 0, none⟩ : Addr).add j = ⟨g, j, none⟩ := by unfold Addr.add; split <;> simp_all
    rw [this, hb.cell]
    simpa using hu
  · have := Nat.mul_le_mul (show n + 1 ≤ 1000000 by omega) hbytes
    omega
  · intro v' w' h2 h3 h4 h5
    exact h v' w' h2 h3 h5 fun W0 hB => hB.grown h3 hbase (fun k hk => (own_in hown k hk).1)
end
end Go.Proofs.YtlngbphchhbpbaaGreat

/- Grammars in memory. -/
namespace Go.Proofs.YtlngbphchhbpbaaGreat
open Go.ChangeShapes Go.WideShapes Go.ChangeAt Go.RowKit
set_option linter.unusedVariables false

/-- the slice at A reads as the one-cell values vs, in blocks below B -/
def Rd1 (w : World) (B : Nat) (A : Option Addr) (n : Nat) (vs : List Value) : Prop :=
  vs.length = n ∧ (n = 0 ∨ ∃ b off, A = some ⟨b, off, none⟩ ∧ b < B ∧ ∀ (i : Nat) (v : Value), vs[i]? = some v → w.cell? ⟨b, off + i, none⟩ = some v)
theorem Rd1.below {w w' : World} {B : Nat} {A : Option Addr} {n : Nat} {l : List Value} (h : Rd1 w B A n l) (hb : Below B w w') : Rd1 w' B A n l := by
  refine ⟨h.1, ?_⟩
  rcases h.2 with h0 | ⟨b, off, rfl, hlt, hc⟩
  · exact .inl h0
  · exact .inr ⟨b, off, rfl, hlt, fun i x hx => by rw [hb.cell (p := ⟨b, off + i, none⟩) hlt]; exact hc i x hx⟩
theorem Rd1.mono {w : World} {B B' : Nat} {A : Option Addr} {n : Nat} {l : List Value} (h : Rd1 w B A n l) (hb : B ≤ B') : Rd1 w B' A n l := by
  refine ⟨h.1, ?_⟩
  rcases h.2 with h0 | ⟨b, off, rfl, hlt, hc⟩
  · exact .inl h0
  · exact .inr ⟨b, off, rfl, by omega, hc⟩
theorem Rd1.get {w : World} {B : Nat} {A : Option Addr} {n : Nat} {l : List Value} (h : Rd1 w B A n l) {i : Nat} {v : Value} (hi : l[i]? = some v) :
    ∃ b off, A = some ⟨b, off, none⟩ ∧ b < B ∧ w.cell? ⟨b, off + i, none⟩ = some v := by
  have hlt := (List.getElem?_eq_some_iff.1 hi).1
  rcases h.2 with h0 | ⟨b, off, rfl, hb, hc⟩
  · have := h.1; omega
  · exact ⟨b, off, rfl, hb, hc i v hi⟩
theorem Rd1.nil (w : World) (B : Nat) (A : Option Addr) : Rd1 w B A 0 [] := ⟨rfl, .inl rfl⟩
/-- s[k:] -/
theorem Rd1.drop {w : World} {B : Nat} {A : Option Addr} {n : Nat} {l : List Value} (h : Rd1 w B A n l) (k c : Nat) (hk : k ≤ n) (hc : n ≤ c) : Rd1 w B (if c = k then A else A.map (·.add k)) (n - k) (l.drop k) := by
  refine ⟨by rw [List.length_drop, h.1], ?_⟩
  rcases h.2 with h0 | ⟨b, off, rfl, hlt, hcell⟩
  · left; omega
  · by_cases e : n - k = 0
    · exact .inl e
    · right
      rw [if_neg (by omega)]
      refine ⟨b, off + k, by simp [Addr.add], hlt, fun i x hx => ?_⟩
      have := hcell (k + i) x (by rw [List.getElem?_drop] at hx; exact hx)
      rw [← this]
      congr 2
      omega

def ints (l : List Int) : List Value := l.map (Value.int .i64)
def strs (l : List ByteArray) : List Value := l.map Value.string

/-- a production: its left side, its right side -/
structure Pr where
  left : Int
  right : List Int
  deriving DecidableEq, Inhabited
/-- a grammar -/
structure Gr where
  k : Int
  toks : List ByteArray
  sep : ByteArray
  names : List ByteArray
  start : Int
  prods : List Pr
  deriving Inhabited
/-- the slice at A reads as the productions ps, in blocks below B -/
def RdP (w : World) (B : Nat) (A : Option Addr) (n : Nat) (ps : List Pr) : Prop :=
  ps.length = n ∧ (n = 0 ∨ ∃ b off, A = some ⟨b, off, none⟩ ∧ b < B ∧ ∀ (i : Nat) (p : Pr), ps[i]? = some p → w.cell? ⟨b, off + i * 2, none⟩ = some (.int .i64 p.left) ∧
    ∃ RA c, w.cell? ⟨b, off + i * 2 + 1, none⟩ = some (.slice RA p.right.length c) ∧ Rd1 w B RA p.right.length (ints p.right) ∧ p.right.length ≤ c ∧ c ≤ maxLen)
theorem RdP.below {w w' : World} {B : Nat} {A : Option Addr} {n : Nat} {l : List Pr} (h : RdP w B A n l) (hb : Below B w w') : RdP w' B A n l := by
  refine ⟨h.1, ?_⟩
  rcases h.2 with h0 | ⟨b, off, rfl, hlt, hc⟩
  · exact .inl h0
  · refine .inr ⟨b, off, rfl, hlt, fun i x hx => ?_⟩
    obtain ⟨h1, RA, c, h2, h3, h4⟩ := hc i x hx
    exact ⟨by rw [hb.cell (p := ⟨b, off + i * 2, none⟩) hlt]; exact h1, RA, c, by rw [hb.cell (p := ⟨b, off + i * 2 + 1, none⟩) hlt]; exact h2, h3.below hb, h4⟩
theorem RdP.mono {w : World} {B B' : Nat} {A : Option Addr} {n : Nat} {l : List Pr} (h : RdP w B A n l) (hb : B ≤ B') : RdP w B' A n l := by
  refine ⟨h.1, ?_⟩
  rcases h.2 with h0 | ⟨b, off, rfl, hlt, hc⟩
  · exact .inl h0
  · refine .inr ⟨b, off, rfl, by omega, fun i x hx => ?_⟩
    obtain ⟨h1, RA, c, h2, h3, h4⟩ := hc i x hx
    exact ⟨h1, RA, c, h2, h3.mono hb, h4⟩
theorem RdP.get {w : World} {B : Nat} {A : Option Addr} {n : Nat} {l : List Pr} (h : RdP w B A n l) {i : Nat} {p : Pr} (hi : l[i]? = some p) :
    ∃ b off, A = some ⟨b, off, none⟩ ∧ b < B ∧ w.cell? ⟨b, off + i * 2, none⟩ = some (.int .i64 p.left) ∧
      ∃ RA c, w.cell? ⟨b, off + i * 2 + 1, none⟩ = some (.slice RA p.right.length c) ∧ Rd1 w B RA p.right.length (ints p.right) ∧ p.right.length ≤ c ∧ c ≤ maxLen := by
  have hlt := (List.getElem?_eq_some_iff.1 hi).1
  rcases h.2 with h0 | ⟨b, off, rfl, hb, hc⟩
  · have := h.1; omega
  · exact ⟨b, off, rfl, hb, hc i p hi⟩

/-- where a grammar's three slices lie -/
structure GA where
  ta : Option Addr
  tc : Nat
  na : Option Addr
  nc : Nat
  pa : Option Addr
  pc : Nat
def gcells (g : Gr) (a : GA) : Array Value := #[.int .i64 g.k, .slice a.ta g.toks.length a.tc, .string g.sep, .slice a.na g.names.length a.nc, .int .i64 g.start, .slice a.pa g.prods.length a.pc]
def gval (g : Gr) (a : GA) : Value := .agg (gcells g a)
/-- the grammar g lies at a, in blocks below B -/
structure GrAt (w : World) (B : Nat) (g : Gr) (a : GA) : Prop where
  toks : Rd1 w B a.ta g.toks.length (strs g.toks)
  tc : g.toks.length ≤ a.tc
  tm : a.tc ≤ maxLen
  names : Rd1 w B a.na g.names.length (strs g.names)
  nc : g.names.length ≤ a.nc
  nm : a.nc ≤ maxLen
  prods : RdP w B a.pa g.prods.length g.prods
  pc : g.prods.length ≤ a.pc
  pm : a.pc ≤ maxLen
  sep : g.sep.size ≤ maxLen
  ts : ∀ s ∈ g.toks, s.size ≤ maxLen
  ns : ∀ s ∈ g.names, s.size ≤ maxLen
theorem GrAt.below {w w' : World} {B : Nat} {g : Gr} {a : GA} (h : GrAt w B g a) (hb : Below B w w') : GrAt w' B g a :=
  ⟨h.toks.below hb, h.tc, h.tm, h.names.below hb, h.nc, h.nm, h.prods.below hb, h.pc, h.pm, h.sep, h.ts, h.ns⟩
theorem GrAt.mono {w : World} {B B' : Nat} {g : Gr} {a : GA} (h : GrAt w B g a) (hb : B ≤ B') : GrAt w B' g a :=
  ⟨h.toks.mono hb, h.tc, h.tm, h.names.mono hb, h.nc, h.nm, h.prods.mono hb, h.pc, h.pm, h.sep, h.ts, h.ns⟩
/-- the grammar in the world behind a call that only makes memory -/
theorem GrAt.step {w w' : World} {g : Gr} {a : GA} (h : GrAt w w.heap.size g a) (hb : Below w.heap.size w w') : GrAt w' w'.heap.size g a := (h.below hb).mono hb.size
end Go.Proofs.YtlngbphchhbpbaaGreat

/- (derive.text).plus: the walk. -/
namespace Go.Proofs.YtlngbphchhbpbaaGreat
open Go.ChangeShapes Go.WideShapes Go.ChangeAt Go.RowKit
set_option linter.unusedVariables false

theorem results_text {fn : Func} {p q : Tmp} (h : fn.results = #[.cell p 59, .tmp q]) (tmps : Array Value) (w : World) (g : Nat) (x : List Int) (b : Value) (hp : tmps.getD p undef = .pointer (some ⟨g, 0, none⟩)) (hq : tmps.getD q undef = b) (hg : Blk w g 59 (txc x)) :
    (results fn tmps).run Tryz.prog w = .ok (.tuple #[txv x, b]) w := by
  have hp' : tmps[p]?.getD undef = .pointer (some ⟨g, 0, none⟩) := by simpa using hp
  have hq' : tmps[q]?.getD undef = b := by simpa using hq
  have hl := run_loadVar_row (P := Tryz.prog) w g 59 59 (txc x) (0, 0) _ hg underT rfl size70
  simp [results, h, hp', hq', asAddr, hl, txv]

set_option maxRecDepth 100000 in
set_option maxHeartbeats 2000000 in
theorem plus_any (x y : List Int) (most : Int) (w : World) (hx : txok x) (hy : txok y) (hm : most ≤ 12) (hm0 : -1000 ≤ most) (h12 : (x.length : Int) + y.length ≤ most) :
    Calls Tryz.prog 31 #[txv x, txv y, .int .i64 most] w fun e w' => e = .returned (.tuple #[txv (x ++ y), .bool true]) ∧ Below w.heap.size w w' := by
  have hlx := hx.1
  have hly := hy.1
  have hz12 : (txc ([] : List Int)) = #[.int .i64 0, .int .i8 0, .int .i8 0, .int .i8 0, .int .i8 0, .int .i8 0, .int .i8 0, .int .i8 0, .int .i8 0, .int .i8 0, .int .i8 0, .int .i8 0, .int .i8 0] := rfl
  replace hz12 := Lib.hid hz12
  unfold txv
  go_enter Tryz.func31, Tryz.ntmps31
  go_upto_region 1 with (fail)
  rw [← hz12.out]
  have q0 : Blk (((w.alloc (.cells (txc x) 59)).alloc (.cells (txc y) 59)).alloc (.cells (txc []) 59)) w.heap.size 59 (txc x) := ((Blk.new _ _ _).alloc _).alloc _
  have q1 : Blk (((w.alloc (.cells (txc x) 59)).alloc (.cells (txc y) 59)).alloc (.cells (txc []) 59)) (w.heap.size + 1) 59 (txc y) := (Blk.newAt _ _ _ _ (by simp)).alloc _
  have q2 : Blk (((w.alloc (.cells (txc x) 59)).alloc (.cells (txc y) 59)).alloc (.cells (txc []) 59)) (w.heap.size + 1 + 1) 59 (txc []) := Blk.newAt _ _ _ _ (by simp)
  have hb : Below w.heap.size w (((w.alloc (.cells (txc x) 59)).alloc (.cells (txc y) 59)).alloc (.cells (txc []) 59)) := bAlc (bAlc (bAlc (Below.refl _ _) _) _) _
  generalize ((w.alloc (.cells (txc x) 59)).alloc (.cells (txc y) 59)).alloc (.cells (txc []) 59) = W at *
  have c0 := q0.cell 0
  have c1 := q1.cell 0
  rw [txc_zero] at c0 c1
  have hnot : ¬ most < (x.length : Int) + y.length := by omega
  go_upto_region 3 with (fail)
  have hzx : (0 : Int) ≤ x.length := by omega
  have hzx2 : (x.length : Int) ≤ 12 := by omega
  have hzy : (0 : Int) ≤ y.length := by omega
  have hzy2 : (y.length : Int) ≤ 12 := by omega
  go_still_tail 8, (by kernel_rfl)
  change wpList _ _ _ _ _ W.drew
  have hb1 := bDrw hb
  have p0 := q0.drew
  have p1 := q1.drew
  have p2 := q2.drew
  clear q0 q1 q2 c0 c1 hb
  generalize W.drew = V at *
  obtain ⟨W2, hcp, r0, r1, r2, r3, r4, hb2⟩ := copy_text p0 p1 (by omega)
  have hcp1 := hcp (some (if 12 = x.length then { block := w.heap.size, off := 1 } else { block := w.heap.size, off := 1 + x.length })) (12 - x.length) 12 (by
    by_cases h : 12 = x.length
    · right; omega
    · left; rw [if_neg h])
  have hb3 := hb2 w hb1 (Nat.le_refl _)
  have q1 : Blk W2 (w.heap.size + 1) 59 (txc y) := (r4 _ (by omega)).trans p1
  have c1 := q1.cell 0
  rw [txc_zero] at c1
  have hblt : w.heap.size < W2.heap.size := by rw [r3]; exact p0.lt
  have q2 : Blk W2 (w.heap.size + 1 + 1) 59 (txc []) := (r4 _ (by omega)).trans p2
  clear hcp hb2 r4 p0 p1 p2 hb1
  go_upto_region 5 with (fail)
  have s2 := q2.far (p := ⟨w.heap.size, 0, none⟩) (show w.heap.size + 1 + 1 ≠ w.heap.size by omega) (.int .i64 ((x.length : Int) + y.length))
  have hb4 := bSet hb3 ⟨w.heap.size, 0, none⟩ (.int .i64 ((x.length : Int) + y.length)) (Nat.le_refl _)
  clear hb3 q2 q1 c1 r1 r2 r3
  generalize W2.setCell ⟨w.heap.size, 0, none⟩ (.int .i64 ((x.length : Int) + y.length)) = W3 at *
  go_wp2_with (first
    | (refine wpList_load_row rfl 59 _ rfl w.heap.size rfl 59 (txc (x ++ y)) (0, 0) _ r0 underT rfl size70 ?_)
    | (refine wpList_store_row rfl 59 _ _ rfl (w.heap.size + 1 + 1) (txc (x ++ y)) rfl rfl 59 (txc []) s2 size70 rfl (txc_one _) ?_))
  all_goals exact bodyPost_ret (results_text rfl _ _ (w.heap.size + 1 + 1) (x ++ y) _ rfl rfl (setRow_heap W3 _ _ _ 59 _ s2)) rfl ⟨rfl, below_setRow hb4 (by omega) _⟩

set_option maxRecDepth 100000 in
set_option maxHeartbeats 2000000 in
theorem plus_not (x y : List Int) (most : Int) (w : World) (hx : txok x) (hy : txok y) (hm : most ≤ 12) (hm0 : -1000 ≤ most) (h12 : most < (x.length : Int) + y.length) :
    Calls Tryz.prog 31 #[txv x, txv y, .int .i64 most] w fun e w' => e = .returned (.tuple #[txv x, .bool false]) ∧ Below w.heap.size w w' := by
  have hlx := hx.1
  have hly := hy.1
  have hz12 : (txc ([] : List Int)) = #[.int .i64 0, .int .i8 0, .int .i8 0, .int .i8 0, .int .i8 0, .int .i8 0, .int .i8 0, .int .i8 0, .int .i8 0, .int .i8 0, .int .i8 0, .int .i8 0, .int .i8 0] := rfl
  replace hz12 := Lib.hid hz12
  unfold txv
  go_enter Tryz.func31, Tryz.ntmps31
  go_upto_region 1 with (fail)
  rw [← hz12.out]
  have q0 : Blk (((w.alloc (.cells (txc x) 59)).alloc (.cells (txc y) 59)).alloc (.cells (txc []) 59)) w.heap.size 59 (txc x) := ((Blk.new _ _ _).alloc _).alloc _
  have q1 : Blk (((w.alloc (.cells (txc x) 59)).alloc (.cells (txc y) 59)).alloc (.cells (txc []) 59)) (w.heap.size + 1) 59 (txc y) := (Blk.newAt _ _ _ _ (by simp)).alloc _
  have q2 : Blk (((w.alloc (.cells (txc x) 59)).alloc (.cells (txc y) 59)).alloc (.cells (txc []) 59)) (w.heap.size + 1 + 1) 59 (txc []) := Blk.newAt _ _ _ _ (by simp)
  have hb : Below w.heap.size w (((w.alloc (.cells (txc x) 59)).alloc (.cells (txc y) 59)).alloc (.cells (txc []) 59)) := bAlc (bAlc (bAlc (Below.refl _ _) _) _) _
  generalize ((w.alloc (.cells (txc x) 59)).alloc (.cells (txc y) 59)).alloc (.cells (txc []) 59) = W at *
  have c0 := q0.cell 0
  have c1 := q1.cell 0
  rw [txc_zero] at c0 c1
  go_upto_region 2 with (fail)
  clear c0 c1 q1
  go_wp2_with (first
    | (refine wpList_load_row rfl 59 _ rfl w.heap.size rfl 59 (txc x) (0, 0) _ q0 underT rfl size70 ?_)
    | (refine wpList_store_row rfl 59 _ _ rfl (w.heap.size + 1 + 1) (txc x) rfl rfl 59 (txc []) q2 size70 rfl (txc_one _) ?_))
  exact bodyPost_ret (results_text rfl _ _ (w.heap.size + 1 + 1) x _ rfl rfl (setRow_heap W _ _ _ 59 _ q2)) rfl ⟨rfl, below_setRow hb (by omega) _⟩
end Go.Proofs.YtlngbphchhbpbaaGreat

/- Grammars: what is right, plain; the reference 09: nonterm, terminal, full, twice. -/
namespace Go.Proofs.YtlngbphchhbpbaaGreat
open Go.ChangeShapes Go.WideShapes Go.ChangeAt Go.RowKit
set_option linter.unusedVariables false

def ntB (g : Gr) (s : Int) : Bool := decide (16 ≤ s ∧ s < 16 + (g.names.length : Int))
def tmB (g : Gr) (s : Int) : Bool := decide (0 ≤ s ∧ s < (g.toks.length : Int))
def fullB (g : Gr) : Bool := decide (g.toks.length ≤ 8) && (decide (g.names.length ≤ 8) && (decide (g.prods.length ≤ 24) && g.prods.all fun p => decide (p.right.length ≤ 6)))
def shortB (g : Gr) : Bool := decide (g.toks.length = 0) || decide (g.names.length = 0)
def nameB (g : Gr) : Bool := (g.toks ++ [g.sep]).all smallB && g.names.all capB
def diffB (g : Gr) : Bool := decide (g.toks ++ [g.sep]).Nodup && decide g.names.Nodup
def symB (g : Gr) : Bool := ntB g g.start && g.prods.all fun p => ntB g p.left && p.right.all fun s => tmB g s || ntB g s
def ordL : List Int → Bool
  | a :: b :: l => decide (a ≤ b) && ordL (b :: l)
  | _ => true
def ordB (g : Gr) : Bool := (List.range g.prods.length).all fun i => decide (i = 0) || decide ((g.prods.getD (i - 1) default).left ≤ (g.prods.getD i default).left)
def compB (g : Gr) : Bool := (List.range g.names.length).all fun i => g.prods.any fun p => decide (p.left = 16 + (i : Int))
/-- the error of a grammar -/
def gchk (g : Gr) : Int :=
  if g.k < 1 ∨ 4 < g.k then 2 else if fullB g = false then 6 else if shortB g = true then 5 else if nameB g = false then 12 else if diffB g = false then 8 else if symB g = false then 14 else if ordB g = false then 9 else if compB g = false then 7 else 0

set_option maxHeartbeats 1000000 in
theorem rnonterm_any (g : Gr) (a : GA) (s : Int) (w : World) (hn : g.names.length ≤ 1000000) : Calls Tryz.prog 76 #[gval g a, .int .i64 s] w fun e w' => e = .returned (.bool (ntB g s)) ∧ Below w.heap.size w w' := by
  unfold gval gcells
  by_cases h1 : 16 ≤ s
  · by_cases h2 : s < 16 + (g.names.length : Int)
    · rw [show ntB g s = true from decide_eq_true ⟨h1, h2⟩]
      go_enter Tryz.func76, Tryz.ntmps76
      go_wp2_with fail
      go_ret
      exact ⟨rfl, bAlc (Below.refl _ _) _⟩
    · rw [show ntB g s = false from decide_eq_false fun h => h2 h.2]
      go_enter Tryz.func76, Tryz.ntmps76
      go_wp2_with fail
      go_ret
      exact ⟨rfl, bAlc (Below.refl _ _) _⟩
  · rw [show ntB g s = false from decide_eq_false fun h => h1 h.1]
    go_enter Tryz.func76, Tryz.ntmps76
    go_wp2_with fail
    go_ret
    exact ⟨rfl, bAlc (Below.refl _ _) _⟩
set_option maxHeartbeats 1000000 in
theorem nonterm_any (g : Gr) (a : GA) (s : Int) (w : World) (hn : g.names.length ≤ 1000000) : Calls Tryz.prog 61 #[gval g a, .int .i64 s] w fun e w' => e = .returned (.bool (ntB g s)) ∧ Below w.heap.size w w' := by
  unfold gval gcells
  by_cases h1 : 16 ≤ s
  · by_cases h2 : s < 16 + (g.names.length : Int)
    · rw [show ntB g s = true from decide_eq_true ⟨h1, h2⟩]
      go_enter Tryz.func61, Tryz.ntmps61
      go_wp2_with fail
      go_ret
      exact ⟨rfl, bAlc (Below.refl _ _) _⟩
    · rw [show ntB g s = false from decide_eq_false fun h => h2 h.2]
      go_enter Tryz.func61, Tryz.ntmps61
      go_wp2_with fail
      go_ret
      exact ⟨rfl, bAlc (Below.refl _ _) _⟩
  · rw [show ntB g s = false from decide_eq_false fun h => h1 h.1]
    go_enter Tryz.func61, Tryz.ntmps61
    go_wp2_with fail
    go_ret
    exact ⟨rfl, bAlc (Below.refl _ _) _⟩
set_option maxHeartbeats 1000000 in
theorem rterminal_any (g : Gr) (a : GA) (s : Int) (w : World) (hn : g.toks.length ≤ 1000000) : Calls Tryz.prog 77 #[gval g a, .int .i64 s] w fun e w' => e = .returned (.bool (tmB g s)) ∧ Below w.heap.size w w' := by
  unfold gval gcells
  by_cases h1 : 0 ≤ s
  · by_cases h2 : s < (g.toks.length : Int)
    · rw [show tmB g s = true from decide_eq_true ⟨h1, h2⟩]
      go_enter Tryz.func77, Tryz.ntmps77
      go_wp2_with fail
      go_ret
      exact ⟨rfl, bAlc (Below.refl _ _) _⟩
    · rw [show tmB g s = false from decide_eq_false fun h => h2 h.2]
      go_enter Tryz.func77, Tryz.ntmps77
      go_wp2_with fail
      go_ret
      exact ⟨rfl, bAlc (Below.refl _ _) _⟩
  · rw [show tmB g s = false from decide_eq_false fun h => h1 h.1]
    go_enter Tryz.func77, Tryz.ntmps77
    go_wp2_with fail
    go_ret
    exact ⟨rfl, bAlc (Below.refl _ _) _⟩
set_option maxHeartbeats 1000000 in
theorem terminal_any (g : Gr) (a : GA) (s : Int) (w : World) (hn : g.toks.length ≤ 1000000) : Calls Tryz.prog 60 #[gval g a, .int .i64 s] w fun e w' => e = .returned (.bool (tmB g s)) ∧ Below w.heap.size w w' := by
  unfold gval gcells
  by_cases h1 : 0 ≤ s
  · by_cases h2 : s < (g.toks.length : Int)
    · rw [show tmB g s = true from decide_eq_true ⟨h1, h2⟩]
      go_enter Tryz.func60, Tryz.ntmps60
      go_wp2_with fail
      go_ret
      exact ⟨rfl, bAlc (Below.refl _ _) _⟩
    · rw [show tmB g s = false from decide_eq_false fun h => h2 h.2]
      go_enter Tryz.func60, Tryz.ntmps60
      go_wp2_with fail
      go_ret
      exact ⟨rfl, bAlc (Below.refl _ _) _⟩
  · rw [show tmB g s = false from decide_eq_false fun h => h1 h.1]
    go_enter Tryz.func60, Tryz.ntmps60
    go_wp2_with fail
    go_ret
    exact ⟨rfl, bAlc (Below.refl _ _) _⟩

set_option maxHeartbeats 1000000 in
theorem rfull_any (g : Gr) (a : GA) (w : World) (hg : GrAt w w.heap.size g a) (ht : g.toks.length ≤ 1000000) (hn : g.names.length ≤ 1000000) (hp : g.prods.length ≤ 1000000) (hr : ∀ p ∈ g.prods, p.right.length ≤ 1000000) :
    Calls Tryz.prog 56 #[gval g a] w fun e w' => e = .returned (.int .i64 (if fullB g = false then 6 else 0)) ∧ Below w.heap.size w w' := by
  obtain ⟨ta, tc, na, nc, pa, pc⟩ := a
  by_cases h1 : g.toks.length ≤ 8 ∧ g.names.length ≤ 8 ∧ g.prods.length ≤ 24
  · obtain ⟨h1, h2, h3⟩ := h1
    obtain ⟨R, hR⟩ : ∃ R, R = fullB g := ⟨_, rfl⟩
    rw [← hR]
    have hR1 : R = g.prods.all fun p => decide (p.right.length ≤ 6) := by rw [hR]; simp [fullB, h1, h2, h3]
    replace hR1 := Lib.hid hR1
    clear hR
    have q0 := Blk.new w 25 (gcells g ⟨ta, tc, na, nc, pa, pc⟩)
    have hg0 := hg.below (bAlc (Below.refl w.heap.size w) (.cells (gcells g ⟨ta, tc, na, nc, pa, pc⟩) 25))
    have hb0 := bAlc (Below.refl w.heap.size w) (.cells (gcells g ⟨ta, tc, na, nc, pa, pc⟩) 25)
    clear hg
    unfold gval
    unfold gcells at *
    dsimp only at *
    go_enter Tryz.func56, Tryz.ntmps56
    go_wp2_with fail
    go_loopg [3] g.prods.length (fun gk s3 wr => ∃ i : Nat, s3 = .int .i64 i ∧ i + gk = g.prods.length ∧ (∀ p ∈ g.prods.take i, p.right.length ≤ 6) ∧
      Blk wr w.heap.size 25 #[.int .i64 g.k, .slice ta g.toks.length tc, .string g.sep, .slice na g.names.length nc, .int .i64 g.start, .slice pa g.prods.length pc] ∧ GrAt wr w.heap.size g ⟨ta, tc, na, nc, pa, pc⟩ ∧ Below w.heap.size w wr)
    case atStart => exact ⟨0, rfl, by omega, by simp, q0, hg0, hb0⟩
    case round =>
      clear q0 hg0 hb0
      obtain ⟨i, rfl, hi, hP, q0, hga, hb⟩ := hrel
      replace hi := Lib.hid hi
      replace hP := Lib.hid hP
      have c5 := q0.cell 5
      simp only [List.getElem?_toArray, List.getElem?_cons_zero, List.getElem?_cons_succ] at c5
      by_cases hin : i < g.prods.length
      · have hxi : g.prods[i]? = some g.prods[i] := List.getElem?_eq_getElem hin
        obtain ⟨b, off, hA, hbt, x0, RA, rc, x1, hx2, hx3, hx4⟩ := hga.prods.get hxi
        dsimp only at hA
        subst hA
        have hmem := List.getElem_mem hin
        have hrl := hr _ hmem
        have htk : g.prods.take (i + 1) = g.prods.take i ++ [g.prods[i]] := List.take_succ_eq_append_getElem hin
        generalize g.prods[i] = p at *
        replace htk := Lib.hid htk
        replace hxi := Lib.hid hxi
        replace hmem := Lib.hid hmem
        have hzi : (0 : Int) ≤ i := by omega
        have hzn : (i : Int) < g.prods.length := by omega
        by_cases h6 : p.right.length ≤ 6
        · have hG := Lib.hid (show ∀ q ∈ g.prods.take (i + 1), q.right.length ≤ 6 by
            intro q hq
            rw [htk.out] at hq
            rcases List.mem_append.1 hq with h | h
            · exact hP.out q h
            · simp at h; rw [h]; exact h6)
          go_wp2_with fail
          go_roundg (g.prods.length - (i + 1))
          case measure => have := hi.out; omega
          case rel => exact ⟨i + 1, by go_num, by have := hi.out; omega, hG.out, q0, hga, hb⟩
        · have hRF : R = false := by
            rw [hR1.out, List.all_eq_false]
            exact ⟨p, hmem.out, by simpa using h6⟩
          subst hRF
          go_wp2_with fail
          go_ret
          exact ⟨rfl, hb⟩
      · have hRT : R = true := by
          rw [hR1.out, List.all_eq_true]
          intro q hq
          refine decide_eq_true (hP.out q ?_)
          rwa [List.take_of_length_le (by omega)]
        subst hRT
        go_wp2_with fail
        go_ret
        exact ⟨rfl, hb⟩
  · have hF : fullB g = false := by
      cases h : fullB g
      · rfl
      · simp [fullB] at h; exact absurd ⟨h.1, h.2.1, h.2.2.1⟩ h1
    rw [hF, if_pos rfl]
    unfold gval gcells
    dsimp only
    by_cases h2 : 8 < g.toks.length
    · clear h1
      go_enter Tryz.func56, Tryz.ntmps56
      go_wp2_with fail
      go_ret
      exact ⟨rfl, bAlc (Below.refl _ _) _⟩
    · by_cases h3 : 8 < g.names.length
      · clear h1
        go_enter Tryz.func56, Tryz.ntmps56
        go_wp2_with fail
        go_ret
        exact ⟨rfl, bAlc (Below.refl _ _) _⟩
      · have h4 : 24 < g.prods.length := by omega
        clear h1
        go_enter Tryz.func56, Tryz.ntmps56
        go_wp2_with fail
        go_ret
        exact ⟨rfl, bAlc (Below.refl _ _) _⟩

/-- no two of the first i strings are equal -/
def DiffTo (l : List ByteArray) (i : Nat) : Prop := ∀ p q : Nat, p < q → q < i → l[p]? ≠ l[q]?
theorem diff_nodup (l : List ByteArray) : DiffTo l l.length ↔ l.Nodup := by
  unfold DiffTo List.Nodup
  rw [List.pairwise_iff_getElem]
  constructor
  · intro h i j hi hj hij e
    refine h i j hij hj ?_
    rw [List.getElem?_eq_getElem hi, List.getElem?_eq_getElem hj, e]
  · intro h p q hpq hq e
    rw [List.getElem?_eq_getElem (by omega), List.getElem?_eq_getElem hq] at e
    exact h p q (by omega) hq hpq (by simpa using e)

set_option maxHeartbeats 1000000 in
theorem rtwice_any (A : Option Addr) (n c : Nat) (l : List ByteArray) (w : World) (ha : Rd1 w w.heap.size A n (strs l)) (hn : n ≤ 1000000) :
    Calls Tryz.prog 75 #[.slice A n c] w fun e w' => e = .returned (.bool (!decide l.Nodup)) ∧ Below w.heap.size w w' := by
  have hl : l.length = n := by have := ha.1; simpa [strs] using this
  obtain ⟨R, hR⟩ : ∃ R, R = !decide l.Nodup := ⟨_, rfl⟩
  rw [← hR]
  replace hR := Lib.hid hR
  replace hl := Lib.hid hl
  go_enter Tryz.func75, Tryz.ntmps75
  go_wp2_with fail
  go_loopg [3] n (fun gk s3 wr => ∃ i : Nat, s3 = .int .i64 i ∧ i + gk = n ∧ DiffTo l i ∧ Rd1 wr w.heap.size A n (strs l) ∧ Below w.heap.size w wr)
  case atStart => exact ⟨0, rfl, by omega, by intro p q _ h; omega, ha, Below.refl _ _⟩
  case round =>
    clear ha
    obtain ⟨i, rfl, hi, hd, ha, hb⟩ := hrel
    replace hi := Lib.hid hi
    replace hd := Lib.hid hd
    by_cases hin : i < n
    · go_wp2_with fail
      obtain ⟨wo, rfl⟩ : ∃ wo : World, wo = wr := ⟨_, rfl⟩
      go_loopg [4] i (fun gk s4 wr => ∃ j : Nat, s4 = .int .i64 j ∧ j + gk = i ∧ (∀ p : Nat, p < j → l[p]? ≠ l[i]?) ∧ Rd1 wr w.heap.size A n (strs l) ∧ Below w.heap.size w wr)
      case atStart => exact ⟨0, rfl, by omega, by intro p h; omega, ha, hb⟩
      case round =>
        clear ha hb
        obtain ⟨j, rfl, hj, hne, ha, hb⟩ := hrel
        replace hj := Lib.hid hj
        replace hne := Lib.hid hne
        by_cases hji : j < i
        · have hil : i < l.length := by have := hl.out; omega
          have hjl : j < l.length := by omega
          have hxi : l[i]? = some l[i] := List.getElem?_eq_getElem hil
          have hxj : l[j]? = some l[j] := List.getElem?_eq_getElem hjl
          obtain ⟨b, off, rfl, hbt, x0⟩ := ha.get (i := i) (v := .string l[i]) (by simp [strs, hxi])
          obtain ⟨b', off', hbb, hbt', y0⟩ := ha.get (i := j) (v := .string l[j]) (by simp [strs, hxj])
          cases hbb
          generalize l[i] = x at *
          generalize l[j] = y at *
          have hzi : (0 : Int) ≤ i := by omega
          have hzn : (i : Int) < n := by omega
          have hzj : (0 : Int) ≤ j := by omega
          have hzm : (j : Int) < n := by omega
          replace hxi := Lib.hid hxi
          replace hxj := Lib.hid hxj
          by_cases hxy : x = y
          · have hRT : R = true := by
              rw [hR.out, decide_eq_false, Bool.not_false]
              rw [← diff_nodup]
              intro hd'
              exact hd' j i hji (by have := hl.out; omega) (by rw [hxi.out, hxj.out, hxy])
            subst hRT
            subst hxy
            go_wp2_with fail
            go_quiet (fail)
            go_wp2_with fail
            go_ret
            exact ⟨rfl, bDrwN hb _⟩
          · have hf := eqF x y hxy
            have hG := Lib.hid (show ∀ p : Nat, p < j + 1 → l[p]? ≠ l[i]? by
              intro p hp
              by_cases e : p = j
              · rw [e, hxi.out, hxj.out]; intro e2; exact hxy (by simpa using e2.symm)
              · exact hne.out p (by omega))
            clear hxy
            go_wp2_with fail
            go_quiet (fail)
            go_wp2_with fail
            go_roundg (i - (j + 1))
            case measure => have := hj.out; omega
            case rel => exact ⟨j + 1, by go_num, by have := hj.out; omega, hG.out, ha.below (bDrwN' _ _), bDrwN hb _⟩
        · have hG := Lib.hid (show DiffTo l (i + 1) by
            intro p q hpq hq
            by_cases e : q = i
            · rw [e]; exact hne.out p (by omega)
            · exact hd.out p q hpq (by omega))
          go_wp2_with fail
          go_roundg (n - (i + 1))
          case measure => have := hi.out; omega
          case rel => exact ⟨i + 1, by go_num, by have := hi.out; omega, hG.out, ha, hb⟩
    · have hRF : R = false := by
        rw [hR.out, decide_eq_true, Bool.not_true]
        rw [← diff_nodup]
        have := hd.out
        rwa [show i = l.length by have := hl.out; have := hi.out; omega] at this
      subst hRF
      go_wp2_with fail
      go_ret
      exact ⟨rfl, hb⟩
end Go.Proofs.YtlngbphchhbpbaaGreat

/- append, on slices of the call's own of one-cell values. -/
namespace Go.Proofs.YtlngbphchhbpbaaGreat
open Go.ChangeShapes Go.WideShapes Go.ChangeAt Go.RowKit
set_option linter.unusedVariables false

/-- v is a slice of the call's own of one-cell values vs of type e, its block not below base -/
def Own1 (w : World) (base : Nat) (e : TypeId) (v : Value) (vs : List Value) : Prop := w.ownsRow base e 1 v vs.length vs
theorem Own1.nil (w : World) (base : Nat) (e : TypeId) : Own1 w base e (.slice none 0 0) [] := World.ownsRow_nil w base e 1
theorem Own1.alloc {w : World} {base : Nat} {e : TypeId} {v : Value} {l : List Value} (h : Own1 w base e v l) (o : Obj) : Own1 (w.alloc o) base e v l := World.ownsRow.alloc h o
theorem Own1.empty (w : World) (base : Nat) (e : TypeId) (h : base ≤ w.heap.size) : Own1 (w.alloc (.cells #[] e)) base e (.slice (some ⟨w.heap.size, 0, none⟩) 0 0) [] :=
  ⟨rfl, .inr ⟨w.heap.size, 0, #[], rfl, h, heap_alloc_new w _, Nat.le_refl _, by simp [maxLen], rfl, rfl⟩⟩
theorem Own1.step {w w' : World} {base : Nat} {e : TypeId} {v : Value} {l : List Value} (h : Own1 w base e v l) (hb : Below w.heap.size w w') : Own1 w' base e v l := by
  refine ⟨h.1, ?_⟩
  rcases h.2 with hn | ⟨g, cap, cur, rfl, hg0, hg, rest⟩
  · exact .inl hn
  · exact .inr ⟨g, cap, cur, rfl, hg0, (hb.block g (Array.getElem?_eq_some_iff.1 hg).1).trans hg, rest⟩
theorem Own1.mono {w : World} {base b' : Nat} {e : TypeId} {v : Value} {l : List Value} (h : Own1 w base e v l) (hb : b' ≤ base) : Own1 w b' e v l := by
  refine ⟨h.1, ?_⟩
  rcases h.2 with hn | ⟨g, cap, cur, rfl, hg0, hg, rest⟩
  · exact .inl hn
  · exact .inr ⟨g, cap, cur, rfl, by omega, hg, rest⟩
theorem Own1.reads {w : World} {base : Nat} {e : TypeId} {v : Value} {l : List Value} (h : Own1 w base e v l) : ∃ A c, v = .slice A l.length c ∧ Rd1 w w.heap.size A l.length l ∧ l.length ≤ c ∧ c ≤ maxLen ∧ (∀ a, A = some a → base ≤ a.block) := by
  rcases h.2 with ⟨rfl, h0⟩ | ⟨g, cap, cur, rfl, hb, hg, hnc, hcm, hcs, ht⟩
  · refine ⟨none, 0, by rw [h0], ⟨rfl, .inl h0⟩, by omega, by simp [maxLen], by simp⟩
  · refine ⟨some ⟨g, 0, none⟩, cap, rfl, ⟨rfl, ?_⟩, hnc, hcm, by simp; exact hb⟩
    refine .inr ⟨g, 0, rfl, (Array.getElem?_eq_some_iff.1 hg).1, fun i x hx => ?_⟩
    have hlt := (List.getElem?_eq_some_iff.1 hx).1
    rw [← ht, List.getElem?_take, if_pos (by omega)] at hx
    rw [cell_of_row w g _ cur e (0, 0) hg, Nat.zero_add]
    simpa using hx

section
variable (w : World) {P : Program} {ops : Array Oper} {rest : List Oper} {o : Oper} {a : Act} {K : Act → World → Prop} {Q : Exit → Act → World → Prop} {E : Prop}
theorem step_of_wp (hgd : o.guard = none) (h : Oper.wp P o a w K Q) : if Region.wanted o (yielded ops a.tmps) = true then Oper.wp P o a w K Q else E := by
  have hw : Region.wanted o (yielded ops a.tmps) = true := by simp [Region.wanted, hgd]
  rw [if_pos hw]
  exact h
/-- 'append(s, xs...)' of one-cell values that are read -/
theorem wp_join1 (s x : Operand) (t : TypeId) (ho : o.op = .call { callee := .builtin .append, args := #[s, x], argTypes := #[t, t] })
    (base : Nat) (e : TypeId) (z : Value) (bytes : Nat) (ht : P.underlying t = some (.slice e)) (hi : (P.info? e).map (fun i => (i.zero, i.size, i.bytes)) = some (some z, 1, bytes)) (hzs : z.cells.size = 1)
    (v : Value) (l : List Value) (hs : a.eval s = v) (hown : Own1 w base e v l) (B : Nat) (A : Option Addr) (m c : Nat) (k : List Value) (hx : a.eval x = .slice A m c) (hr : Rd1 w B A m k) (h1 : ∀ u ∈ k, u.oneCell' = true)
    (h63 : l.length + m ≤ 1000000) (hbytes : bytes ≤ 1000000) (hbase : base ≤ w.heap.size)
    (h : ∀ v' w', Own1 w' base e v' (l ++ k) → w.grownBy w' v.ownBlock → (v'.ownBlock = v.ownBlock ∨ v'.ownBlock = some w.heap.size) → (∀ W0, Below base W0 w → Below base W0 w') → K (a.put o.dst v') w') : Oper.wp P o a w K Q := by
  obtain ⟨i0, hi0, hz0, hz1, hz2⟩ := info_parts hi
  rcases A with _ | ad
  · have hm : m = 0 := by
      rcases hr.2 with h0 | ⟨_, _, h0, _⟩
      · exact h0
      · cases h0
    subst hm
    have hk : k = [] := List.eq_nil_of_length_eq_zero hr.1
    subst hk
    have hrun : (Builtin.append_ #[t, t] o.type #[v, .slice none 0 c]).run P w = .ok v w := by
      rcases hown.2 with ⟨rfl, _⟩ | ⟨g, cap, cur, rfl, _, _, hnc, _⟩
      · simp [Builtin.append_, run_underlying ht, sizeOf, typeInfo, hi0, Builtin.lenOf, Builtin.firstCells]
      · simp [Builtin.append_, run_underlying ht, sizeOf, typeInfo, hi0, Builtin.lenOf, Builtin.firstCells, hnc, storeCells]
    unfold Oper.wp execOp
    simp only [ho, resolve, invoke, builtin, Sem.run_bind, Sem.run_pure, Result.andThen_ok, List.map_toArray, List.map_cons, List.map_nil, hs, hx, hrun]
    exact h v w (by simpa using hown) (World.grownBy.refl w _) (.inl rfl) fun _ h => h
  · have hnews : ∀ j u, k[j]? = some u → w.cell? (ad.add j) = some u := by
      intro j u hu
      have hlt := (List.getElem?_eq_some_iff.1 hu).1
      rcases hr.2 with h0 | ⟨b, off, h0, _, hc⟩
      · have := hr.1; omega
      · cases h0
        have hadd : (⟨b, off, none⟩ : Addr).add j = ⟨b, off + j, none⟩ := by unfold Addr.add; split <;> simp_all
        rw [hadd]
        exact hc j u hu
    have hb2 := Nat.mul_le_mul h63 hbytes
    obtain ⟨v', w', hrun, h2, h3, h4, h5⟩ := run_append_own_at (P := P) w base t o.type e i0 z 1 bytes ht hi0 hz0 hz1 hz2 hzs (by omega) v l.length l hown ad m c k (by rw [hr.1]; omega) hnews h1 (by unfold maxLen; omega) (by omega) hbase
    unfold Oper.wp execOp
    simp only [ho, resolve, invoke, builtin, Sem.run_bind, Sem.run_pure, Result.andThen_ok, List.map_toArray, List.map_cons, List.map_nil, hs, hx, hrun]
    refine h v' w' ?_ h3 h5 fun W0 hB => hB.grown h3 hbase (fun k hk => (own_in hown k hk).1)
    unfold Own1
    rw [List.length_append, hr.1]
    exact h2
theorem wpList_join1 (hgd : o.guard = none) (s x : Operand) (t : TypeId) (ho : o.op = .call { callee := .builtin .append, args := #[s, x], argTypes := #[t, t] })
    (base : Nat) (e : TypeId) (z : Value) (bytes : Nat) (ht : P.underlying t = some (.slice e)) (hi : (P.info? e).map (fun i => (i.zero, i.size, i.bytes)) = some (some z, 1, bytes)) (hzs : z.cells.size = 1)
    (v : Value) (l : List Value) (hs : a.eval s = v) (hown : Own1 w base e v l) (B : Nat) (A : Option Addr) (m c : Nat) (k : List Value) (hx : a.eval x = .slice A m c) (hr : Rd1 w B A m k) (h1 : ∀ u ∈ k, u.oneCell' = true)
    (h63 : l.length + m ≤ 1000000) (hbytes : bytes ≤ 1000000) (hbase : base ≤ w.heap.size)
    (h : ∀ v' w', Own1 w' base e v' (l ++ k) → w.grownBy w' v.ownBlock → (v'.ownBlock = v.ownBlock ∨ v'.ownBlock = some w.heap.size) → (∀ W0, Below base W0 w → Below base W0 w') → wpList P ops Q rest (a.put o.dst v') w') : wpList P ops Q (o :: rest) a w :=
  wpList_plain hgd fun _ hK => wp_join1 w s x t ho base e z bytes ht hi hzs v l hs hown B A m c k hx hr h1 h63 hbytes hbase fun v' w' a b c d => hK _ _ (h v' w' a b c d)
/-- 'append(s, x)', x a one-cell value in a block of its own -/
theorem rd_blk {w : World} {g : Nat} {e : TypeId} {k : Value} (hb : Blk w g e #[k]) : Rd1 w w.heap.size (some ⟨g, 0, none⟩) 1 [k] := by
  refine ⟨rfl, .inr ⟨g, 0, rfl, hb.lt, fun i x hx => ?_⟩⟩
  have : i = 0 := by have := (List.getElem?_eq_some_iff.1 hx).1; simp at this; omega
  subst this
  rw [hb.cell]
  simpa using hx
end
theorem info9 : (Tryz.prog.info? 9).map (fun i => (i.zero, i.size, i.bytes)) = some (some (.string ByteArray.empty), 1, 16) := by kernel_rfl
theorem info3 : (Tryz.prog.info? 3).map (fun i => (i.zero, i.size, i.bytes)) = some (some (.int .i64 0), 1, 8) := by kernel_rfl
theorem under23 : Tryz.prog.underlying 22 = some (.slice 9) := by kernel_rfl
theorem under22 : Tryz.prog.underlying 26 = some (.slice 3) := by kernel_rfl
theorem strs_one {l : List ByteArray} : ∀ u ∈ strs l, u.oneCell' = true := by
  intro u hu; simp [strs] at hu; obtain ⟨s, _, rfl⟩ := hu; rfl
theorem ints_one {l : List Int} : ∀ u ∈ ints l, u.oneCell' = true := by
  intro u hu; simp [ints] at hu; obtain ⟨s, _, rfl⟩ := hu; rfl
end Go.Proofs.YtlngbphchhbpbaaGreat
