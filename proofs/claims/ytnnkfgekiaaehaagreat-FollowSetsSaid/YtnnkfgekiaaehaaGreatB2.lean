/- Walks and plain laws, part 2 of 11: Ascending lists of looks. Plain; The reference 14: sorted, cut, Check, Cut; The reference 14: Cut; the statements' own helpers on looks: has, SameLooks; The statements' own helper SameLooks; Grammars in memory; The grammar and the look that come in as arguments: opened; Grammars: what is right, plain; the reference 09: nonterm, terminal, full, twice; append, on slices of the call's own of one-cell values; The reference 09: prods, named; The reference 09: symbols, Check; The reference 09: Check; slices.All over the productions of a grammar; grammar.prods. Conditions: none beyond those that each theorem states. -/
import Derived.Test.YtnnkfgekiaaehaaGreatB1
import Derived.Deep.RegionHeld3
import Derived.IntWalk
import Derived.Deep.Strs
import Derived.Deep.SlicePairs
import Derived.OpenShut
import Derived.ChangeOld
import Derived.RegionTactic
import Derived.Deep.DeepCutAuto
import Derived.Deep.CutBlock
import Derived.RangeFuncNested
import Derived.RangeFuncBound
import Derived.RangeFuncCalls
import Derived.RangeFuncLeaves
import Derived.RangeFuncBox
import Derived.Shelf.Abstract
import Derived.Shelf.RegionOpen
import Derived.OwnWalkIn
import Derived.TacticsInMore
import Derived.LoopNIn
import Derived.LoopIn
/- Ascending lists of looks. Plain. -/
namespace Go.Proofs.YtnnkfgekiaaehaaGreat
set_option linter.unusedVariables false

/-- strictly ascending -/
def Asc (l : List Lk) : Prop := l.Pairwise fun x y => lcmp x y = -1
theorem lcmp_refl (x : Lk) : lcmp x x = 0 := cmpI_refl _
theorem lcmp_anti (x y : Lk) : lcmp y x = - lcmp x y := cmpI_anti _ _
theorem lcmp_vals (x y : Lk) : lcmp x y = -1 ∨ lcmp x y = 0 ∨ lcmp x y = 1 := cmpI_vals _ _
theorem lcmp_trans {x y z : Lk} (h1 : lcmp x y = -1) (h2 : lcmp y z = -1) : lcmp x z = -1 := cmpI_trans _ _ _ h1 h2
theorem lcmp_eq {x y : Lk} {m k : Int} (hx : x.right m) (hy : y.right k) (h : lcmp x y = 0) : x = y := right_ext hx hy (cmpI_eq _ _ h)
theorem asc_nil : Asc [] := List.Pairwise.nil
theorem asc_one (x : Lk) : Asc [x] := List.pairwise_singleton _ _
theorem asc_cons {x : Lk} {l : List Lk} : Asc (x :: l) ↔ (∀ y ∈ l, lcmp x y = -1) ∧ Asc l := List.pairwise_cons
theorem asc_uniq : ∀ {a b : List Lk}, Asc a → Asc b → (∀ x, x ∈ a ↔ x ∈ b) → a = b
  | [], [], _, _, _ => rfl
  | [], y :: b, _, _, h => absurd ((h y).2 (by simp)) (by simp)
  | x :: a, [], _, _, h => absurd ((h x).1 (by simp)) (by simp)
  | x :: a, y :: b, ha, hb, h => by
    obtain ⟨a1, a2⟩ := asc_cons.1 ha
    obtain ⟨b1, b2⟩ := asc_cons.1 hb
    have hxy : x = y := by
      have h1 := (h x).1 (by simp)
      have h2 := (h y).2 (by simp)
      rcases List.mem_cons.1 h1 with e | h1
      · exact e
      · rcases List.mem_cons.1 h2 with e | h2
        · exact e.symm
        · have e1 := a1 y h2
          have e2 := b1 x h1
          rw [lcmp_anti, e1] at e2
          omega
    subst hxy
    have hn : ∀ {l : List Lk}, (∀ y ∈ l, lcmp x y = -1) → x ∉ l := fun hl hm => by
      have := hl x hm
      rw [lcmp_refl] at this
      omega
    congr 1
    refine asc_uniq a2 b2 fun z => ?_
    constructor
    · intro hz
      rcases List.mem_cons.1 ((h z).1 (by simp [hz])) with e | h'
      · subst e; exact absurd hz (hn a1)
      · exact h'
    · intro hz
      rcases List.mem_cons.1 ((h z).2 (by simp [hz])) with e | h'
      · subst e; exact absurd hz (hn b1)
      · exact h'
theorem asc_nodup {l : List Lk} (h : Asc l) : l.Nodup := h.imp fun {a b} hab e => by
  subst e; rw [lcmp_refl] at hab; omega

theorem merge_mem {k : Int} : ∀ (a b : List Lk), (∀ x ∈ a, x.right k) → (∀ x ∈ b, x.right k) → ∀ z, z ∈ lmerge a b ↔ z ∈ a ∨ z ∈ b
  | [], b, _, _, z => by simp [lmerge]
  | x :: a, [], _, _, z => by rw [lmerge_nil]; simp
  | x :: a, y :: b, ha, hb, z => by
    have h1 := merge_mem a (y :: b) (fun z hz => ha z (by simp [hz])) hb z
    have h2 := merge_mem (x :: a) b ha (fun z hz => hb z (by simp [hz])) z
    have h3 := merge_mem a b (fun z hz => ha z (by simp [hz])) (fun z hz => hb z (by simp [hz])) z
    rw [lmerge_cons]
    split
    · rw [List.mem_cons, h1]; simp [or_assoc]
    · split
      · rw [List.mem_cons, h2]; simp [or_assoc, or_left_comm]
      · have e : x = y := lcmp_eq (ha x (by simp)) (hb y (by simp)) (by rcases lcmp_vals x y with h | h | h <;> omega)
        subst e
        rw [List.mem_cons, h3]; simp [or_assoc]
        constructor
        · rintro (h | h | h) <;> simp [h]
        · rintro (h | h | h | h) <;> simp [h]
termination_by a b => a.length + b.length
theorem merge_asc {k : Int} : ∀ (a b : List Lk), (∀ x ∈ a, x.right k) → (∀ x ∈ b, x.right k) → Asc a → Asc b → Asc (lmerge a b)
  | [], b, _, _, _, hb => hb
  | x :: a, [], _, _, ha, _ => by rw [lmerge_nil]; exact ha
  | x :: a, y :: b, ra, rb, ha, hb => by
    obtain ⟨a1, a2⟩ := asc_cons.1 ha
    obtain ⟨b1, b2⟩ := asc_cons.1 hb
    have ra' : ∀ x ∈ a, x.right k := fun z hz => ra z (by simp [hz])
    have rb' : ∀ x ∈ b, x.right k := fun z hz => rb z (by simp [hz])
    have h1 := merge_asc a (y :: b) ra' rb a2 hb
    have h2 := merge_asc (x :: a) b ra rb' ha b2
    have h3 := merge_asc a b ra' rb' a2 b2
    rw [lmerge_cons]
    split
    · rename_i hc
      have hc : lcmp x y = -1 := by rcases lcmp_vals x y with h | h | h <;> omega
      refine asc_cons.2 ⟨fun z hz => ?_, h1⟩
      rcases (merge_mem a (y :: b) ra' rb z).1 hz with h | h
      · exact a1 z h
      · rcases List.mem_cons.1 h with e | h
        · rw [e]; exact hc
        · exact lcmp_trans hc (b1 z h)
    · split
      · rename_i _ hc
        have hc : lcmp y x = -1 := by rw [lcmp_anti]; rcases lcmp_vals x y with h | h | h <;> omega
        refine asc_cons.2 ⟨fun z hz => ?_, h2⟩
        rcases (merge_mem (x :: a) b ra rb' z).1 hz with h | h
        · rcases List.mem_cons.1 h with e | h
          · rw [e]; exact hc
          · exact lcmp_trans hc (a1 z h)
        · exact b1 z h
      · have e : x = y := lcmp_eq (ra x (by simp)) (rb y (by simp)) (by rcases lcmp_vals x y with h | h | h <;> omega)
        subst e
        refine asc_cons.2 ⟨fun z hz => ?_, h3⟩
        rcases (merge_mem a b ra' rb' z).1 hz with h | h
        · exact a1 z h
        · exact b1 z h
termination_by a b => a.length + b.length
theorem merge_len : ∀ (a b : List Lk), (lmerge a b).length ≤ a.length + b.length
  | [], b => by simp [lmerge]
  | x :: a, [] => by rw [lmerge_nil]; simp
  | x :: a, y :: b => by
    have h1 := merge_len a (y :: b)
    have h2 := merge_len (x :: a) b
    have h3 := merge_len a b
    simp only [List.length_cons] at *
    rw [lmerge_cons]
    split
    · simp only [List.length_cons]; omega
    · split <;> (simp only [List.length_cons]; omega)
termination_by a b => a.length + b.length

/-- the looks of a list, ascending, each once -/
def lset (l : List Lk) : List Lk := l.foldr (fun x s => lmerge [x] s) []
theorem lset_cons (x : Lk) (l : List Lk) : lset (x :: l) = lmerge [x] (lset l) := rfl
theorem lset_facts {k : Int} : ∀ l : List Lk, (∀ x ∈ l, x.right k) → Asc (lset l) ∧ (∀ z, z ∈ lset l ↔ z ∈ l) ∧ (lset l).length ≤ l.length
  | [], _ => ⟨asc_nil, fun z => Iff.rfl, Nat.le_refl _⟩
  | x :: l, h => by
    obtain ⟨h1, h2, h3⟩ := lset_facts l fun z hz => h z (by simp [hz])
    have r1 : ∀ z ∈ [x], z.right k := fun z hz => by simp at hz; rw [hz]; exact h x (by simp)
    have r2 : ∀ z ∈ lset l, z.right k := fun z hz => h z (by simp [(h2 z).1 hz])
    rw [lset_cons]
    refine ⟨merge_asc _ _ r1 r2 (asc_one x) h1, fun z => ?_, ?_⟩
    · rw [merge_mem _ _ r1 r2, h2]; simp
    · have := merge_len [x] (lset l)
      simp only [List.length_cons, List.length_nil] at *
      omega
theorem lset_asc {k : Int} {l : List Lk} (h : ∀ x ∈ l, x.right k) : Asc (lset l) := (lset_facts l h).1
theorem lset_mem {k : Int} {l : List Lk} (h : ∀ x ∈ l, x.right k) (z : Lk) : z ∈ lset l ↔ z ∈ l := (lset_facts l h).2.1 z
theorem lset_len {k : Int} {l : List Lk} (h : ∀ x ∈ l, x.right k) : (lset l).length ≤ l.length := (lset_facts l h).2.2
theorem lset_right {k : Int} {l : List Lk} (h : ∀ x ∈ l, x.right k) : ∀ x ∈ lset l, x.right k := fun x hx => h x ((lset_mem h x).1 hx)
/-- an ascending list is the set of whatever has its looks -/
theorem lset_of {k : Int} {l s : List Lk} (h : ∀ x ∈ l, x.right k) (hs : Asc s) (hm : ∀ z, z ∈ s ↔ z ∈ l) : s = lset l :=
  asc_uniq hs (lset_asc h) fun z => by rw [hm, lset_mem h]
theorem lset_same {k : Int} {l m : List Lk} (h : ∀ x ∈ l, x.right k) (hm : ∀ z, z ∈ m ↔ z ∈ l) : lset m = lset l :=
  lset_of h (lset_asc fun x hx => h x ((hm x).1 hx)) fun z => by rw [lset_mem fun x hx => h x ((hm x).1 hx)]; exact hm z
theorem merge_set {k : Int} {a b : List Lk} (ha : ∀ x ∈ a, x.right k) (hb : ∀ x ∈ b, x.right k) (h1 : Asc a) (h2 : Asc b) : lmerge a b = lset (a ++ b) :=
  lset_of (fun x hx => (List.mem_append.1 hx).elim (ha x) (hb x)) (merge_asc a b ha hb h1 h2) fun z => by rw [merge_mem a b ha hb, List.mem_append]
end Go.Proofs.YtnnkfgekiaaehaaGreat

/- The reference 14: sorted, cut, Check, Cut. -/
namespace Go.Proofs.YtnnkfgekiaaehaaGreat
open Go.ChangeShapes Go.WideShapes Go.ChangeAt Go.RowKit
set_option linter.unusedVariables false

set_option maxHeartbeats 1000000 in
theorem sorted14_any : ∀ (N : Nat) (A : Option Addr) (n c : Nat) (l : List Lk) (w : World), n ≤ N → N ≤ 1000000 → RdL w w.heap.size A n l → (∀ x ∈ l, x.right 8) → n ≤ c → c ≤ maxLen →
    Calls Tryz.prog 84 #[.slice A n c] w (RetL w (lset l)) := by
  intro N
  induction N with
  | zero =>
    intro A n c l w hn hN ha hr hc hm
    obtain rfl : n = 0 := by omega
    have hl0 : l = [] := List.eq_nil_of_length_eq_zero ha.1
    subst hl0
    have hP := Lib.hid (fun (v : Value) (w' : World) (h1 : OwnL w' w.heap.size v []) (h2 : Below w.heap.size w w') => (show RetL w [] (.returned v) w' from ⟨v, rfl, h1, h2⟩))
    have hoe := OwnL.empty w w.heap.size (Nat.le_refl _)
    have ha' := ha.below ((Below.refl w.heap.size w).alloc (Nat.le_refl _) (.cells #[] 41))
    unfold maxLen at hm
    show Calls Tryz.prog 84 #[.slice A 0 c] w (RetL w [])
    go_enter Tryz.func84, Tryz.ntmps84
    go_wp2_with (at_builtin; refine wpList_joinL _ rfl _ _ rfl w.heap.size _ [] rfl hoe _ A 0 c [] rfl ha' (by simp) (by simp) ?_; intro v' w1 hown1 hg1 hat1 hb1)
    go_ret
    exact hP.out _ _ hown1 (hb1 w (bAlc (Below.refl _ _) _))
  | succ N ih =>
    intro A n c l w hn hN ha hr hc hm
    have hl := ha.1
    by_cases h2 : n < 2
    · have hset : lset l = l := by
        rcases l with _ | ⟨x, _ | ⟨y, l⟩⟩
        · rfl
        · rfl
        · simp at hl; omega
      rw [hset]
      clear hset
      have hP := Lib.hid (fun (v : Value) (w' : World) (h1 : OwnL w' w.heap.size v l) (h2 : Below w.heap.size w w') => (show RetL w l (.returned v) w' from ⟨v, rfl, h1, h2⟩))
      have hoe := OwnL.empty w w.heap.size (Nat.le_refl _)
      have ha' := ha.below ((Below.refl w.heap.size w).alloc (Nat.le_refl _) (.cells #[] 41))
      unfold maxLen at hm
      replace hl := Lib.hid hl
      go_enter Tryz.func84, Tryz.ntmps84
      go_wp2_with (at_builtin; refine wpList_joinL _ rfl _ _ rfl w.heap.size _ [] rfl hoe _ A n c l rfl ha' (by simp; omega) (by simp) ?_; intro v' w1 hown1 hg1 hat1 hb1)
      go_ret
      exact hP.out _ _ hown1 (hb1 w (bAlc (Below.refl _ _) _))
    · have ih' := Lib.hid ih
      clear ih
      obtain ⟨b, off, rfl⟩ : ∃ b off, A = some ⟨b, off, none⟩ := by
        rcases ha.2 with h0 | ⟨b, off, h, _⟩
        · omega
        · exact ⟨b, off, h⟩
      obtain ⟨p, hp⟩ : ∃ p, p = n / 2 := ⟨_, rfl⟩
      have hset : lset l = lmerge (lset (l.take p)) (lset (l.drop p)) := by
        clear hp
        have r1 : ∀ x ∈ l.take p, x.right 8 := fun x hx => hr x (List.mem_of_mem_take hx)
        have r2 : ∀ x ∈ l.drop p, x.right 8 := fun x hx => hr x (List.mem_of_mem_drop hx)
        rw [merge_set (lset_right r1) (lset_right r2) (lset_asc r1) (lset_asc r2)]
        refine lset_same (k := 8) (fun x hx => ?_) fun z => ?_
        · rcases List.mem_append.1 hx with h | h
          · exact lset_right r1 x h
          · exact lset_right r2 x h
        · rw [List.mem_append, lset_mem r1, lset_mem r2, ← List.mem_append, List.take_append_drop]
      rw [hset]
      have hP := Lib.hid (fun (v : Value) (w' : World) (h1 : OwnL w' w.heap.size v (lmerge (lset (l.take p)) (lset (l.drop p)))) (h2 : Below w.heap.size w w') => (show RetL w (lmerge (lset (l.take p)) (lset (l.drop p))) (.returned v) w' from ⟨v, rfl, h1, h2⟩))
      have hT := Lib.hid (ha.take p (by omega))
      have hD := ha.drop p c (by omega) hc
      have r1 : ∀ x ∈ l.take p, x.right 8 := fun x hx => hr x (List.mem_of_mem_take hx)
      have r2 : ∀ x ∈ l.drop p, x.right 8 := fun x hx => hr x (List.mem_of_mem_drop hx)
      have hlen : (lset (l.take p)).length + (lset (l.drop p)).length ≤ 1000000 := by
        have e1 := lset_len r1
        have e2 := lset_len r2
        rw [List.length_take] at e1
        rw [List.length_drop] at e2
        omega
      have hq : ((n : Int) / 2) = (p : Int) := by omega
      have hz1 : (0 : Int) ≤ p := by omega
      have hqa : (n : Int).tdiv 2 = (p : Int) := by rw [Int.tdiv_eq_ediv_of_nonneg (by omega)]; exact hq
      have hqb : IntKind.i64.wrap (p : Int) = p := IntWalk.i64_in _ (by omega)
      have hz2 : p ≤ c := by omega
      have hz3 : p ≤ n := by omega
      have hz4 : ¬ c = p := by omega
      have hz5 : ¬ c = 0 := by omega
      have hz6 : (p : Int) ≤ c := by omega
      have hz7 : (p : Int) ≤ n := by omega
      rw [if_neg hz4] at hD
      have hp0 : p * 5 ≠ 0 := by omega
      simp only [Option.map_some, Addr.add, hp0, if_false] at hD
      have hp1 : ¬ p = 0 := by omega
      clear hp0
      replace hD := Lib.hid hD
      unfold maxLen at hm
      clear hset
      replace hl := Lib.hid hl
      replace hp := Lib.hid hp
      go_enter Tryz.func84, Tryz.ntmps84
      go_wp2_with fail
      go_region_held3 (fun w' => Below w.heap.size w w') (first | assumption | exact (Below.refl _ _).drew | exact bStep (by assumption) (by assumption))
        (first
          | (go_at_call_of 84 (Value.slice (some ⟨b, off, none⟩) p c); refine (ih'.out _ p c (l.take p) _ (by omega) (by omega) ((hT.out.below (by assumption)).mono (Below.size (by assumption))) r1 (by omega) (by unfold maxLen; omega)).mono ?_; rintro e w1 ⟨v1, rfl, ho1, hb1⟩; obtain ⟨A1, k1, rfl, hd1, hk1, hm1, hg1⟩ := ho1.reads)
          | (go_at_call 84; refine (ih'.out _ (n - p) (c - p) (l.drop p) _ (by omega) (by omega) ((hD.out.below (by assumption)).mono (Below.size (by assumption))) r2 (by omega) (by unfold maxLen; omega)).mono ?_; rintro e w2 ⟨v2, rfl, ho2, hb2⟩; obtain ⟨A2, k2, rfl, hd2, hk2, hm2, hg2⟩ := ho2.reads)
          | (go_at_call 82; refine (merge_any A1 A2 _ _ k1 k2 (lset (l.take p)) (lset (l.drop p)) _ ((hd1.below hb2).mono hb2.size) hd2 (lset_right r1) (lset_right r2) hk1 hk2 hm1 hm2 hlen).mono ?_; rintro e w3 ⟨v3, rfl, ho3, hb3⟩))
      go_wp2_with fail
      go_ret
      have hb12 := bStep (bStep (bDrw (Below.refl _ _)) hb1) hb2
      exact hP.out _ _ (ho3.mono hb12.size) (bStep hb12 hb3)

/-- the looks cut to k, ascending -/
def lcut (k : Nat) (l : List Lk) : List Lk := lset (l.map fun x => lplus k x (Lk.of []))
theorem nil_right (m : Int) (h : 1 ≤ m ∧ m ≤ 8) : (Lk.of []).right m := of_right h (by simp) (by simp)

set_option maxHeartbeats 1000000 in
theorem cut14_any (k : Nat) (A : Option Addr) (n c : Nat) (l : List Lk) (w : World) (h1 : 1 ≤ k) (hk : k ≤ 4) (hn : n ≤ 100000) (ha : RdL w w.heap.size A n l) (hr : ∀ x ∈ l, x.right 8) (hc : n ≤ c) (hm : c ≤ maxLen) :
    Calls Tryz.prog 81 #[.int .i64 k, .slice A n c] w (RetL w (lcut k l)) := by
  have hP := Lib.hid (fun (v : Value) (w' : World) (h1 : OwnL w' w.heap.size v (lcut k l)) (h2 : Below w.heap.size w w') => (show RetL w (lcut k l) (.returned v) w' from ⟨v, rfl, h1, h2⟩))
  have hn8 := nil_right 8 (by omega)
  have hj := Lib.hid (fun (x : Lk) (hx : x.right 8) (w : World) => join14_right k x (Lk.of []) w h1 hk hx hn8)
  have hl := Lib.hid ha.1
  unfold maxLen at hm
  go_enter Tryz.func81, Tryz.ntmps81
  go_wp2_with fail
  go_loopg [5, 6] n (fun gk s5 s6 wr => ∃ i : Nat, s6 = .int .i64 i ∧ i + gk = n ∧ OwnL wr w.heap.size s5 ((l.take i).map fun x => lplus k x (Lk.of [])) ∧ RdL wr w.heap.size A n l ∧ Below w.heap.size w wr)
  case atStart => exact ⟨0, rfl, by omega, OwnL.nil _ _, ha, Below.refl _ _⟩
  case round =>
    clear ha
    obtain ⟨i, rfl, hi, ho, ha, hb⟩ := hrel
    replace hi := Lib.hid hi
    by_cases hin : i < n
    · have hil : i < l.length := by have := hl.out; omega
      have hx : l[i]? = some l[i] := List.getElem?_eq_getElem hil
      obtain ⟨b, off, rfl, hbt, x0, x1, x2, x3, x4⟩ := ha.get hx
      have hxr := hr _ (List.getElem_mem hil)
      have htk : l.take (i + 1) = l.take i ++ [l[i]] := List.take_succ_eq_append_getElem hil
      generalize l[i] = x at *
      have hjj := Lib.hid (hj.out x hxr)
      have hlt : ((l.take i).map fun x => lplus k x (Lk.of [])).length = i := by rw [List.length_map, List.length_take]; omega
      have hG : ((l.take (i + 1)).map fun x => lplus k x (Lk.of [])) = ((l.take i).map fun x => lplus k x (Lk.of [])) ++ [lplus k x (Lk.of [])] := by rw [htk]; simp
      replace hG := Lib.hid hG
      replace hlt := Lib.hid hlt
      clear htk
      replace hx := Lib.hid hx
      generalize hy : lplus k x (Lk.of []) = y at *
      replace hy := Lib.hid hy
      unfold Lk.v at hjj
      go_wp2_with (first
        | (go_at_call 83; refine (hjj.out _).mono ?_; rintro e w1 ⟨rfl, hb1⟩)
        | (at_builtin; refine wpList_pushL _ rfl _ _ rfl w.heap.size _ _ rfl ((ho.step hb1).alloc _) _ y rfl (Blk.new _ _ _) (by rw [hlt.out]; omega) (by have := hb.size; have := hb1.size; simp; omega) ?_; intro v' w2 hown1 hg1 hat1 hb2))
      have hb3 : Below w.heap.size wr w2 := hb2 wr ((hb1.mono hb.size).alloc (by have := hb.size; have := hb1.size; omega) _)
      go_roundg (n - (i + 1))
      case measure => have := hi.out; omega
      case rel => exact ⟨i + 1, by go_num, by have := hi.out; omega, by rw [hG.out]; exact hown1, ha.below hb3, hb2 w (bAlc (bStep hb hb1) _)⟩
    · have hil : l.take i = l := List.take_of_length_le (by have := hl.out; omega)
      rw [hil] at ho
      clear hil
      have hrm : ∀ y ∈ l.map (fun x => lplus k x (Lk.of [])), y.right 8 := by
        intro y hy
        obtain ⟨x, hx, rfl⟩ := List.mem_map.1 hy
        exact lplus_right hk (hr x hx) hn8
      have hPP := Lib.hid (show ∀ v w', OwnL w' w.heap.size v (lset (l.map fun x => lplus k x (Lk.of []))) → Below w.heap.size w w' → RetL w (lcut k l) (.returned v) w' from hP.out)
      have hln : (l.map fun x => lplus k x (Lk.of [])).length ≤ 100000 := by rw [List.length_map]; have := hl.out; omega
      generalize (l.map fun x => lplus k x (Lk.of [])) = m at *
      obtain ⟨A1, c1, rfl, hd1, hk1, hm1, hg1⟩ := ho.reads
      go_wp2_with (go_at_call 84; refine (sorted14_any 100000 A1 m.length c1 m _ hln (by omega) hd1 hrm hk1 hm1).mono ?_; rintro e w1 ⟨v, rfl, ho1, hb1⟩)
      go_ret
      exact hPP.out _ _ (ho1.mono hb.size) (bStep hb hb1)

theorem lk_ne (e : Int) (h : e ≠ 0) : (e != 0) = true := by simp [h]

set_option maxHeartbeats 2000000 in
/-- a set is right: ascending, of right looks, not too many -/
theorem check14_ok (m : Int) (A : Option Addr) (n c : Nat) (l : List Lk) (w : World) (hm1 : 1 ≤ m) (hm8 : m ≤ 8) (hn : n ≤ 4681) (ha : RdL w w.heap.size A n l) (hr : ∀ x ∈ l, x.right m) (has : Asc l) :
    Calls Tryz.prog 116 #[.int .i64 m, .slice A n c] w fun e w' => e = .returned (.int .i64 0) ∧ Below w.heap.size w w' := by
  have hl := Lib.hid ha.1
  have has' := Lib.hid has
  clear has
  go_enter Tryz.func116, Tryz.ntmps116
  go_wp2_with (go_at_call 119; refine (range8_any m _).mono ?_; rintro e w1 ⟨rfl, rfl⟩; rw [if_neg (by omega)])
  go_loopg [6] n (fun gk s6 wr => ∃ i : Nat, s6 = .int .i64 i ∧ i + gk = n ∧ RdL wr w.heap.size A n l ∧ Below w.heap.size w wr)
  case atStart => exact ⟨0, rfl, by omega, ha, Below.refl _ _⟩
  case round =>
    clear ha
    obtain ⟨i, rfl, hi, ha, hb⟩ := hrel
    replace hi := Lib.hid hi
    by_cases hin : i < n
    · have hil : i < l.length := by have := hl.out; omega
      have hx : l[i]? = some l[i] := List.getElem?_eq_getElem hil
      obtain ⟨b, off, rfl, hbt, x0, x1, x2, x3, x4⟩ := ha.get hx
      have hxr := hr _ (List.getElem_mem hil)
      have hchk := Lib.hid (fun w => lcheck_any l[i] m w)
      have hx8 := right_mono hxr hm8 (by omega)
      unfold Lk.v at hchk
      cases i with
      | zero =>
        simp only [Nat.zero_mul, Nat.add_zero] at x0 x1 x2 x3 x4
        generalize hy : l[0] = x at *
        replace hy := Lib.hid hy
        replace hx := Lib.hid hx
        go_wp2_with (go_at_call 55; refine (hchk.out _).mono ?_; rintro e w1 ⟨rfl, hb1⟩; rw [show lchk x m = 0 from hxr])
        refine wp_region_kept (by kernel_rfl) (by kernel_rfl) ?_
        repeat (go_big_quiet_step (fail))
        refine wpQuiet_nil ?_
        rintro _ ⟨p, rfl⟩
        have hpk := p.kept
        generalize p.world = w2 at hpk
        go_wp2_with fail
        have hb3 : Below w.heap.size wr w2 := (hb1.mono hb.size).trans (hpk.mono (by have := hb.size; have := hb1.size; omega))
        go_roundg (n - 1)
        case measure => have := hi.out; omega
        case rel => exact ⟨1, by go_num, by have := hi.out; omega, ha.below hb3, bStep (bStep hb hb1) hpk⟩
      | succ j =>
        have hjl : j < l.length := by omega
        have hyx : l[j]? = some l[j] := List.getElem?_eq_getElem hjl
        obtain ⟨b', off', hbb, hbt', y0, y1, y2, y3, y4⟩ := ha.get hyx
        cases hbb
        have hyr := right_mono (hr _ (List.getElem_mem hjl)) hm8 (by omega)
        have hlt : lcmp l[j] l[j + 1] = -1 := List.pairwise_iff_getElem.1 has'.out j (j + 1) hjl hil (by omega)
        have hC := Lib.hid (fun w => cmp14_right l[j] l[j + 1] w hyr hx8)
        rw [hlt] at hC
        unfold Lk.v at hC
        generalize hxx : l[j + 1] = x at *
        generalize hyy : l[j] = y at *
        have hin2 : j < n := by omega
        replace hxx := Lib.hid hxx
        replace hyy := Lib.hid hyy
        replace hx := Lib.hid hx
        replace hyx := Lib.hid hyx
        replace hlt := Lib.hid hlt
        go_wp2_with (go_at_call 55; refine (hchk.out _).mono ?_; rintro e w1 ⟨rfl, hb1⟩; rw [show lchk x m = 0 from hxr])
        have hz : decide (0 < j + 1) = true := by simp
        have zI : ((j + 1 : Nat) : Int) - 1 = (j : Int) := by omega
        have z2 : (0 : Int) ≤ j := by omega
        have z3 : ((j + 1 : Nat) : Int) < n := by omega
        have z5 : (j : Int) < n := by omega
        have k0 := cell_kept (cell_later hb1 x0)
        have k1 := cell_kept (cell_later hb1 x1)
        have k2 := cell_kept (cell_later hb1 x2)
        have k3 := cell_kept (cell_later hb1 x3)
        have k4 := cell_kept (cell_later hb1 x4)
        have l0 := cell_kept (cell_later hb1 y0)
        have l1 := cell_kept (cell_later hb1 y1)
        have l2 := cell_kept (cell_later hb1 y2)
        have l3 := cell_kept (cell_later hb1 y3)
        have l4 := cell_kept (cell_later hb1 y4)
        refine wp_region_kept (by kernel_rfl) (by kernel_rfl) ?_
        repeat (go_big_quiet_step ((go_at_call 117; exact Calls.kept_by (hC.out _))))
        refine wpQuiet_nil ?_
        rintro _ ⟨p, rfl⟩
        have hpk := p.kept
        generalize p.world = w2 at hpk
        clear k0 k1 k2 k3 k4 l0 l1 l2 l3 l4
        go_wp2_with fail
        have hb3 : Below w.heap.size wr w2 := (hb1.mono hb.size).trans (hpk.mono (by have := hb.size; have := hb1.size; omega))
        go_roundg (n - (j + 2))
        case measure => have := hi.out; omega
        case rel => exact ⟨j + 2, by go_num, by have := hi.out; omega, ha.below hb3, bStep (bStep hb hb1) hpk⟩
    · go_wp2_with fail
      go_ret
      exact ⟨rfl, hb⟩
end Go.Proofs.YtnnkfgekiaaehaaGreat

/- The reference 14: Cut; the statements' own helpers on looks: has, SameLooks. -/
namespace Go.Proofs.YtnnkfgekiaaehaaGreat
open Go.ChangeShapes Go.WideShapes Go.ChangeAt Go.RowKit
set_option linter.unusedVariables false

def RetL0 (w : World) (l : List Lk) (e : Ending) (w' : World) : Prop := ∃ v, e = .returned (.tuple #[v, .int .i64 0]) ∧ OwnL w' w.heap.size v l ∧ Below w.heap.size w w'

end Go.Proofs.YtnnkfgekiaaehaaGreat

/- The statements' own helper SameLooks. -/
namespace Go.Proofs.YtnnkfgekiaaehaaGreat
open Go.ChangeShapes Go.WideShapes Go.ChangeAt Go.RowKit
set_option linter.unusedVariables false

theorem take_eq_all {l m : List Lk} {i : Nat} (hl : l.length ≤ i) (hlm : l.length = m.length) (h : l.take i = m.take i) : l = m := by
  rwa [List.take_of_length_le hl, List.take_of_length_le (by omega)] at h
set_option maxHeartbeats 1000000 in
theorem samelooks_any (A A2 : Option Addr) (n m c c2 : Nat) (l k : List Lk) (w : World) (ha : RdL w w.heap.size A n l) (hb : RdL w w.heap.size A2 m k) (hr : ∀ y ∈ l, y.wf) (hr2 : ∀ y ∈ k, y.wf) (hn : n ≤ maxLen) (hm : m ≤ maxLen) :
    Calls Tryz.prog 10 #[.slice A n c, .slice A2 m c2] w fun e w' => e = .returned (.bool (decide (l = k))) ∧ Below w.heap.size w w' := by
  have hl := Lib.hid ha.1
  have hk := Lib.hid hb.1
  obtain ⟨R, hR⟩ : ∃ R, R = decide (l = k) := ⟨_, rfl⟩
  rw [← hR]
  replace hR := Lib.hid hR
  unfold maxLen at hn hm
  by_cases hnm : n = m
  · subst hnm
    have hE := Lib.hid (fun (y x : Lk) (hy : y ∈ l) (hx : x ∈ k) (w : World) => look_neq y x (hr y hy) (hr2 x hx) w)
    unfold Lk.v at hE
    go_enter Tryz.func10, Tryz.ntmps10
    go_wp2_with fail
    go_loopg [5] n (fun gk s5 wr => ∃ i : Nat, s5 = .int .i64 i ∧ i + gk = n ∧ l.take i = k.take i ∧ RdL wr w.heap.size A n l ∧ RdL wr w.heap.size A2 n k ∧ Below w.heap.size w wr)
    case atStart => exact ⟨0, rfl, by omega, by simp, ha, hb, Below.refl _ _⟩
    case round =>
      clear ha hb
      obtain ⟨i, rfl, hi, hni, ha, hb, hw⟩ := hrel
      replace hi := Lib.hid hi
      replace hni := Lib.hid hni
      by_cases hin : i < n
      · have hil : i < l.length := by have := hl.out; omega
        have hik : i < k.length := by have := hk.out; omega
        have hyi : l[i]? = some l[i] := List.getElem?_eq_getElem hil
        have hxi : k[i]? = some k[i] := List.getElem?_eq_getElem hik
        obtain ⟨b, off, rfl, hbt, x0, x1, x2, x3, x4⟩ := ha.get hyi
        obtain ⟨b', off', rfl, hbt', y0, y1, y2, y3, y4⟩ := hb.get hxi
        have htk : l.take (i + 1) = l.take i ++ [l[i]] := List.take_succ_eq_append_getElem hil
        have htk2 : k.take (i + 1) = k.take i ++ [k[i]] := List.take_succ_eq_append_getElem hik
        have hee := hE.out l[i] k[i] (List.getElem_mem hil) (List.getElem_mem hik)
        generalize hy : l[i] = y at *
        generalize hx : k[i] = x at *
        replace hy := Lib.hid hy
        replace hyi := Lib.hid hyi
        replace hx := Lib.hid hx
        replace hxi := Lib.hid hxi
        replace htk := Lib.hid htk
        replace htk2 := Lib.hid htk2
        have hzi : (0 : Int) ≤ i := by omega
        have hzn : (i : Int) < n := by omega
        by_cases hyx : y = x
        · simp only [hyx, decide_true, Bool.not_true] at hee
          have hG := Lib.hid (show l.take (i + 1) = k.take (i + 1) by rw [htk.out, htk2.out, hni.out, hyx])
          subst hyx
          go_wp2_with fail
          go_quiet (fail)
          go_wp2_with fail
          go_roundg (n - (i + 1))
          case measure => have := hi.out; omega
          case rel => exact ⟨i + 1, by go_num, by have := hi.out; omega, hG.out, ha.below (bDrwN' _ _), hb.below (bDrwN' _ _), bDrwN hw _⟩
        · have hRF : R = false := by
            rw [hR.out]; apply decide_eq_false
            rintro rfl
            exact hyx (hy.out.symm.trans hx.out)
          subst hRF
          simp only [hyx, decide_false, Bool.not_false] at hee
          clear hyx
          go_wp2_with fail
          go_quiet (fail)
          go_wp2_with fail
          go_ret
          exact ⟨rfl, bDrwN hw _⟩
      · have hRT : R = true := by
          rw [hR.out]; exact decide_eq_true (take_eq_all (by have := hl.out; omega) (by have := hl.out; have := hk.out; omega) hni.out)
        subst hRT
        go_wp2_with fail
        go_ret
        exact ⟨rfl, hw⟩
  · have hb1 : ((n : Int) != (m : Int)) = true := by simp; omega
    have hRF : R = false := by
      rw [hR.out]; apply decide_eq_false
      rintro rfl
      exact hnm (hl.out.symm.trans hk.out)
    subst hRF
    clear hnm
    go_enter Tryz.func10, Tryz.ntmps10
    go_wp2_with fail
    go_ret
    exact ⟨rfl, Below.refl _ _⟩
end Go.Proofs.YtnnkfgekiaaehaaGreat

/- Grammars in memory. -/
namespace Go.Proofs.YtnnkfgekiaaehaaGreat
open Go.ChangeShapes Go.WideShapes Go.ChangeAt Go.RowKit
set_option linter.unusedVariables false

/-- the slice at A reads as the one-cell values vs, in blocks below B -/
def Rd1 (w : World) (B : Nat) (A : Option Addr) (n : Nat) (vs : List Value) : Prop :=
  vs.length = n ∧ (n = 0 ∨ ∃ b off, A = some ⟨b, off, none⟩ ∧ b < B ∧ ∀ (i : Nat) (v : Value), vs[i]? = some v → w.cell? ⟨b, off + i, none⟩ = some v)
theorem Rd1.below {w w' : World} {B : Nat} {A : Option Addr} {n : Nat} {l : List Value} (h : Rd1 w B A n l) (hb : Below B w w') : Rd1 w' B A n l := by
  refine ⟨h.1, ?_⟩
  rcases h.2 with h0 | ⟨b, off, rfl, hlt, hc⟩
  · exact .inl h0
  · exact .inr ⟨b, off, rfl, hlt, fun i x hx => by rw [hb.cell (p := ⟨b, off + i, none⟩) hlt]; exact hc i x hx⟩
theorem Rd1.mono {w : World} {B B' : Nat} {A : Option Addr} {n : Nat} {l : List Value} (h : Rd1 w B A n l) (hb : B ≤ B') : Rd1 w B' A n l := by
  refine ⟨h.1, ?_⟩
  rcases h.2 with h0 | ⟨b, off, rfl, hlt, hc⟩
  · exact .inl h0
  · exact .inr ⟨b, off, rfl, by omega, hc⟩
theorem Rd1.get {w : World} {B : Nat} {A : Option Addr} {n : Nat} {l : List Value} (h : Rd1 w B A n l) {i : Nat} {v : Value} (hi : l[i]? = some v) :
    ∃ b off, A = some ⟨b, off, none⟩ ∧ b < B ∧ w.cell? ⟨b, off + i, none⟩ = some v := by
  have hlt := (List.getElem?_eq_some_iff.1 hi).1
  rcases h.2 with h0 | ⟨b, off, rfl, hb, hc⟩
  · have := h.1; omega
  · exact ⟨b, off, rfl, hb, hc i v hi⟩
theorem Rd1.nil (w : World) (B : Nat) (A : Option Addr) : Rd1 w B A 0 [] := ⟨rfl, .inl rfl⟩
/-- s[k:] -/
theorem Rd1.drop {w : World} {B : Nat} {A : Option Addr} {n : Nat} {l : List Value} (h : Rd1 w B A n l) (k c : Nat) (hk : k ≤ n) (hc : n ≤ c) : Rd1 w B (if c = k then A else A.map (·.add k)) (n - k) (l.drop k) := by
  refine ⟨by rw [List.length_drop, h.1], ?_⟩
  rcases h.2 with h0 | ⟨b, off, rfl, hlt, hcell⟩
  · left; omega
  · by_cases e : n - k = 0
    · exact .inl e
    · right
      rw [if_neg (by omega)]
      refine ⟨b, off + k, by simp [Addr.add], hlt, fun i x hx => ?_⟩
      have := hcell (k + i) x (by rw [List.getElem?_drop] at hx; exact hx)
      rw [← this]
      congr 2
      omega

def ints (l : List Int) : List Value := l.map (Value.int .i64)
def strs (l : List ByteArray) : List Value := l.map Value.string

/-- a production: its left side, its right side -/
structure Pr where
  left : Int
  right : List Int
  deriving DecidableEq, Inhabited
/-- a grammar -/
structure Gr where
  k : Int
  toks : List ByteArray
  sep : ByteArray
  names : List ByteArray
  start : Int
  prods : List Pr
  deriving Inhabited
/-- the slice at A reads as the productions ps, in blocks below B -/
def RdP (w : World) (B : Nat) (A : Option Addr) (n : Nat) (ps : List Pr) : Prop :=
  ps.length = n ∧ (n = 0 ∨ ∃ b off, A = some ⟨b, off, none⟩ ∧ b < B ∧ ∀ (i : Nat) (p : Pr), ps[i]? = some p → w.cell? ⟨b, off + i * 2, none⟩ = some (.int .i64 p.left) ∧
    ∃ RA c, w.cell? ⟨b, off + i * 2 + 1, none⟩ = some (.slice RA p.right.length c) ∧ Rd1 w B RA p.right.length (ints p.right) ∧ p.right.length ≤ c ∧ c ≤ maxLen)
theorem RdP.below {w w' : World} {B : Nat} {A : Option Addr} {n : Nat} {l : List Pr} (h : RdP w B A n l) (hb : Below B w w') : RdP w' B A n l := by
  refine ⟨h.1, ?_⟩
  rcases h.2 with h0 | ⟨b, off, rfl, hlt, hc⟩
  · exact .inl h0
  · refine .inr ⟨b, off, rfl, hlt, fun i x hx => ?_⟩
    obtain ⟨h1, RA, c, h2, h3, h4⟩ := hc i x hx
    exact ⟨by rw [hb.cell (p := ⟨b, off + i * 2, none⟩) hlt]; exact h1, RA, c, by rw [hb.cell (p := ⟨b, off + i * 2 + 1, none⟩) hlt]; exact h2, h3.below hb, h4⟩
theorem RdP.mono {w : World} {B B' : Nat} {A : Option Addr} {n : Nat} {l : List Pr} (h : RdP w B A n l) (hb : B ≤ B') : RdP w B' A n l := by
  refine ⟨h.1, ?_⟩
  rcases h.2 with h0 | ⟨b, off, rfl, hlt, hc⟩
  · exact .inl h0
  · refine .inr ⟨b, off, rfl, by omega, fun i x hx => ?_⟩
    obtain ⟨h1, RA, c, h2, h3, h4⟩ := hc i x hx
    exact ⟨h1, RA, c, h2, h3.mono hb, h4⟩
theorem RdP.get {w : World} {B : Nat} {A : Option Addr} {n : Nat} {l : List Pr} (h : RdP w B A n l) {i : Nat} {p : Pr} (hi : l[i]? = some p) :
    ∃ b off, A = some ⟨b, off, none⟩ ∧ b < B ∧ w.cell? ⟨b, off + i * 2, none⟩ = some (.int .i64 p.left) ∧
      ∃ RA c, w.cell? ⟨b, off + i * 2 + 1, none⟩ = some (.slice RA p.right.length c) ∧ Rd1 w B RA p.right.length (ints p.right) ∧ p.right.length ≤ c ∧ c ≤ maxLen := by
  have hlt := (List.getElem?_eq_some_iff.1 hi).1
  rcases h.2 with h0 | ⟨b, off, rfl, hb, hc⟩
  · have := h.1; omega
  · exact ⟨b, off, rfl, hb, hc i p hi⟩

/-- where a grammar's three slices lie -/
structure GA where
  ta : Option Addr
  tc : Nat
  na : Option Addr
  nc : Nat
  pa : Option Addr
  pc : Nat
def gcells (g : Gr) (a : GA) : Array Value := #[.int .i64 g.k, .slice a.ta g.toks.length a.tc, .string g.sep, .slice a.na g.names.length a.nc, .int .i64 g.start, .slice a.pa g.prods.length a.pc]
def gval (g : Gr) (a : GA) : Value := .agg (gcells g a)
/-- the grammar g lies at a, in blocks below B -/
structure GrAt (w : World) (B : Nat) (g : Gr) (a : GA) : Prop where
  toks : Rd1 w B a.ta g.toks.length (strs g.toks)
  tc : g.toks.length ≤ a.tc
  tm : a.tc ≤ maxLen
  names : Rd1 w B a.na g.names.length (strs g.names)
  nc : g.names.length ≤ a.nc
  nm : a.nc ≤ maxLen
  prods : RdP w B a.pa g.prods.length g.prods
  pc : g.prods.length ≤ a.pc
  pm : a.pc ≤ maxLen
  sep : g.sep.size ≤ maxLen
  ts : ∀ s ∈ g.toks, s.size ≤ maxLen
  ns : ∀ s ∈ g.names, s.size ≤ maxLen
theorem GrAt.below {w w' : World} {B : Nat} {g : Gr} {a : GA} (h : GrAt w B g a) (hb : Below B w w') : GrAt w' B g a :=
  ⟨h.toks.below hb, h.tc, h.tm, h.names.below hb, h.nc, h.nm, h.prods.below hb, h.pc, h.pm, h.sep, h.ts, h.ns⟩
theorem GrAt.mono {w : World} {B B' : Nat} {g : Gr} {a : GA} (h : GrAt w B g a) (hb : B ≤ B') : GrAt w B' g a :=
  ⟨h.toks.mono hb, h.tc, h.tm, h.names.mono hb, h.nc, h.nm, h.prods.mono hb, h.pc, h.pm, h.sep, h.ts, h.ns⟩
/-- the grammar in the world behind a call that only makes memory -/
theorem GrAt.step {w w' : World} {g : Gr} {a : GA} (h : GrAt w w.heap.size g a) (hb : Below w.heap.size w w') : GrAt w' w'.heap.size g a := (h.below hb).mono hb.size
end Go.Proofs.YtnnkfgekiaaehaaGreat

/- The grammar and the look that come in as arguments: opened. -/
namespace Go.Proofs.YtnnkfgekiaaehaaGreat
open Go.ChangeShapes Go.WideShapes Go.ChangeAt Go.RowKit
set_option linter.unusedVariables false

/-- numbers of 64 bits -/
def I64 (z : Int) : Prop := (Lit.int .i64 z).wf = true
structure GI64 (g : Gr) : Prop where
  k : I64 g.k
  start : I64 g.start
  left : ∀ p ∈ g.prods, I64 p.left
  right : ∀ p ∈ g.prods, ∀ s ∈ p.right, I64 s

theorem cell_lt {W : World} {p : Addr} {v : Value} (h : W.cell? p = some v) : p.block < W.heap.size := by
  unfold World.cell? at h
  cases hh : W.heap[p.block]? with
  | none => rw [hh] at h; simp at h
  | some o => exact (Array.getElem?_eq_some_iff.1 hh).1
theorem add_off (b o i : Nat) : (⟨b, o, none⟩ : Addr).add i = ⟨b, o + i, none⟩ := by
  unfold Addr.add; split <;> simp_all

section
variable {H : Type} {enc : TypeId × Value → H} {W : World}

theorem open_rd_strs {fuel : Nat} {cs : List Value} {x : DataW H × List MemPlace} (h : DataW.trod enc Tryz.prog W 0 (fun _ => true) true fuel 22 cs = some x) :
    ∃ a c l, cs = [.slice a l.length c] ∧ Rd1 W W.heap.size a l.length (strs l) ∧ l.length ≤ c ∧ c ≤ maxLen ∧ ∀ s ∈ l, s.size ≤ maxLen := by
  rcases Go.Deep.open_strs Tryz.underlying22 Tryz.underlying9 (by kernel_rfl) h with ⟨rfl, _⟩ | ⟨a, len, cap, m, Sx, rfl, _, hl, hm, hmm, _, hc⟩
  · exact ⟨none, 0, [], rfl, ⟨rfl, .inl rfl⟩, Nat.le_refl _, by decide, by simp⟩
  · simp at hmm
    subst hmm
    refine ⟨some a, m, (List.range len).map Sx, by simp, ?_, by simpa using hl, hm, ?_⟩
    · refine ⟨by simp [strs], ?_⟩
      by_cases h0 : len = 0
      · left; simpa using h0
      · right
        have h1 := (hc 0 (by omega)).1
        obtain ⟨b, o, sp⟩ := a
        have hsp : sp = none := by
          have := World.cell?_spot h1
          simpa [Addr.add] using this
        subst hsp
        refine ⟨b, o, rfl, cell_lt h1, fun i v hv => ?_⟩
        simp only [strs, List.map_map, List.getElem?_map] at hv
        by_cases hi : i < len
        · rw [List.getElem?_range hi] at hv
          simp at hv
          subst hv
          have := (hc i (by omega)).1
          rwa [add_off] at this
        · rw [List.getElem?_eq_none (by simpa using hi)] at hv
          simp at hv
    · intro s hs
      obtain ⟨i, hi, rfl⟩ := List.mem_map.1 hs
      exact (hc i (by have := List.mem_range.1 hi; omega)).2
theorem open_rd_ints {fuel : Nat} {cs : List Value} {x : DataW H × List MemPlace} (h : DataW.trod enc Tryz.prog W 0 (fun _ => true) true fuel 34 cs = some x) :
    ∃ a c l, cs = [.slice a l.length c] ∧ Rd1 W W.heap.size a l.length (ints l) ∧ l.length ≤ c ∧ c ≤ maxLen ∧ ∀ s ∈ l, I64 s := by
  rcases open_ints (by kernel_rfl) Tryz.underlying3 (by kernel_rfl) h with ⟨rfl, _⟩ | ⟨a, len, cap, zs, rfl, _, hl, hm, hz, _, hc, hw⟩
  · exact ⟨none, 0, [], rfl, ⟨rfl, .inl rfl⟩, Nat.le_refl _, by decide, by simp⟩
  · simp at hz
    subst hz
    have hlen : (zs.take len).length = len := by rw [List.length_take]; omega
    refine ⟨some a, zs.length, zs.take len, by rw [hlen], ?_, by rw [hlen]; exact hl, hm, fun s hs => hw s (List.mem_of_mem_take hs)⟩
    rw [hlen]
    refine ⟨by rw [ints, List.length_map, hlen], ?_⟩
    by_cases h0 : len = 0
    · exact .inl h0
    · right
      have h1 := hc 0 (by omega)
      obtain ⟨b, o, sp⟩ := a
      have hsp : sp = none := by
        have := World.cell?_spot h1
        simpa [Addr.add] using this
      subst hsp
      refine ⟨b, o, rfl, cell_lt h1, fun i v hv => ?_⟩
      simp only [ints, List.getElem?_map] at hv
      by_cases hi : i < len
      · rw [List.getElem?_take_of_lt hi, List.getElem?_eq_getElem (by omega)] at hv
        simp at hv
        subst hv
        have := hc i (by omega)
        rw [add_off, List.getD_eq_getElem?_getD, List.getElem?_eq_getElem (by omega)] at this
        simpa using this
      · rw [List.getElem?_eq_none (by rw [hlen]; omega)] at hv
        simp at hv
theorem fields47 : ∃ f0 f1 : Field, Tryz.prog.underlying 47 = some (.struct #[f0, f1]) ∧ f0.type = 3 ∧ f0.offset = 0 ∧ f1.type = 34 ∧ f1.offset = 1 := by
  have h : Tryz.prog.underlying 47 = some (.struct (Tryz.prog.fieldsOf 47)) := by kernel_rfl
  refine ⟨(Tryz.prog.fieldsOf 47)[0]!, (Tryz.prog.fieldsOf 47)[1]!, by kernel_rfl, by kernel_rfl, by kernel_rfl, by kernel_rfl, by kernel_rfl⟩
theorem open_rd_prods {fuel : Nat} {cs : List Value} {x : DataW H × List MemPlace} (h : DataW.trod enc Tryz.prog W 0 (fun _ => true) true fuel 23 cs = some x) :
    ∃ a c l, cs = [.slice a l.length c] ∧ RdP W W.heap.size a l.length l ∧ l.length ≤ c ∧ c ≤ maxLen ∧ ∀ p ∈ l, I64 p.left ∧ ∀ s ∈ p.right, I64 s := by
  obtain ⟨f0, f1, he, t0, o0, t1, o1⟩ := fields47
  rcases Go.Deep.open_slice_pairs Tryz.underlying23 he (by kernel_rfl) o0 o1 (by rw [t0]; kernel_rfl) (by rw [t1]; kernel_rfl) h with ⟨rfl, _⟩ | ⟨a, len, cap, m, n, V0, V1, D0, D1, P0, P1, rfl, _, hl, hm, hmm, _, hc⟩
  · exact ⟨none, 0, [], rfl, ⟨rfl, .inl rfl⟩, Nat.le_refl _, by decide, by simp⟩
  · simp at hmm
    subst hmm
    rw [t0, t1] at hc
    have each : ∀ i, i < m → ∃ q : Int × (Option Addr × Nat × List Int), V0 i = .int .i64 q.1 ∧ I64 q.1 ∧ V1 i = .slice q.2.1 q.2.2.2.length q.2.2.1 ∧ Rd1 W W.heap.size q.2.1 q.2.2.2.length (ints q.2.2.2) ∧ q.2.2.2.length ≤ q.2.2.1 ∧ q.2.2.1 ≤ maxLen ∧ ∀ s ∈ q.2.2.2, I64 s := by
      intro i hi
      obtain ⟨_, _, h0, h1⟩ := hc i hi
      obtain ⟨z, e1, _, e2⟩ := DataW.trod_int Tryz.underlying3 h0
      obtain ⟨a1, c1, l1, e3, e4, e5, e6, e7⟩ := open_rd_ints h1
      exact ⟨(z, a1, c1, l1), by simpa using e1, e2, by simpa using e3, e4, e5, e6, e7⟩
    obtain ⟨q, hq⟩ := Go.Deep.choose_lt each
    refine ⟨some a, m, (List.range len).map fun i => ⟨(q i).1, (q i).2.2.2⟩, by simp, ?_, by simpa using hl, hm, ?_⟩
    · refine ⟨by simp, ?_⟩
      by_cases h0 : len = 0
      · left; simpa using h0
      · right
        have h1 := (hc 0 (by omega)).1
        obtain ⟨b, o, sp⟩ := a
        have hsp : sp = none := by
          have := World.cell?_spot h1
          simpa [Addr.add] using this
        subst hsp
        refine ⟨b, o, rfl, cell_lt h1, fun i p hp => ?_⟩
        by_cases hi : i < len
        · rw [List.getElem?_map, List.getElem?_range hi] at hp
          simp at hp
          subst hp
          obtain ⟨g0, g1, _, _⟩ := hc i (by omega)
          obtain ⟨e1, _, e3, e4, e5, e6, _⟩ := hq i (by omega)
          rw [add_off] at g0 g1
          rw [e1] at g0; rw [e3] at g1
          exact ⟨g0, _, _, g1, e4, e5, e6⟩
        · rw [List.getElem?_eq_none (by simpa using hi)] at hp
          simp at hp
    · intro p hp
      obtain ⟨i, hi, rfl⟩ := List.mem_map.1 hp
      obtain ⟨_, e2, _, _, _, _, e7⟩ := hq i (by have := List.mem_range.1 hi; omega)
      exact ⟨e2, e7⟩

theorem six_of {α : Type} {l : List α} (h : l.length = 6) : ∃ a b c d e f, l = [a, b, c, d, e, f] := by
  match l, h with
  | [a, b, c, d, e, f], _ => exact ⟨a, b, c, d, e, f, rfl⟩
theorem fields25 : ∃ f0 f1 f2 f3 f4 f5 : Field, Tryz.prog.underlying 25 = some (.struct #[f0, f1, f2, f3, f4, f5]) ∧ f0.type = 3 ∧ f0.offset = 0 ∧ f1.type = 22 ∧ f1.offset = 1 ∧ f2.type = 9 ∧ f2.offset = 2 ∧ f3.type = 22 ∧ f3.offset = 3 ∧ f4.type = 3 ∧ f4.offset = 4 ∧ f5.type = 23 ∧ f5.offset = 5 :=
  ⟨(Tryz.prog.fieldsOf 25)[0]!, (Tryz.prog.fieldsOf 25)[1]!, (Tryz.prog.fieldsOf 25)[2]!, (Tryz.prog.fieldsOf 25)[3]!, (Tryz.prog.fieldsOf 25)[4]!, (Tryz.prog.fieldsOf 25)[5]!, by kernel_rfl, by kernel_rfl, by kernel_rfl, by kernel_rfl, by kernel_rfl, by kernel_rfl, by kernel_rfl, by kernel_rfl, by kernel_rfl, by kernel_rfl, by kernel_rfl, by kernel_rfl, by kernel_rfl⟩
theorem c3 : Tryz.prog.cellsOf 3 = 1 := by kernel_rfl
theorem c9 : Tryz.prog.cellsOf 9 = 1 := by kernel_rfl
theorem c22 : Tryz.prog.cellsOf 22 = 1 := by kernel_rfl
theorem c23 : Tryz.prog.cellsOf 23 = 1 := by kernel_rfl
theorem c25 : Tryz.prog.cellsOf 25 = 6 := by kernel_rfl
theorem c39 : Tryz.prog.cellsOf 39 = 4 := by kernel_rfl
theorem c41 : Tryz.prog.cellsOf 41 = 5 := by kernel_rfl

/-- a grammar that comes in -/
theorem open_gram {fuel : Nat} {cs : List Value} {x : DataW H × List MemPlace} (h : DataW.trod enc Tryz.prog W 0 (fun _ => true) true fuel 25 cs = some x) :
    ∃ g a, cs = (gcells g a).toList ∧ GrAt W W.heap.size g a ∧ GI64 g := by
  obtain ⟨f0, f1, f2, f3, f4, f5, he, t0, o0, t1, o1, t2, o2, t3, o3, t4, o4, t5, o5⟩ := fields25
  obtain ⟨xs, n, _, _, hlen, hxl, hf⟩ := DataW.trod_struct he h
  rw [c25] at hlen
  obtain ⟨v0, v1, v2, v3, v4, v5, rfl⟩ := six_of hlen
  have g0 := hf 0 f0 rfl
  have g1 := hf 1 f1 rfl
  have g2 := hf 2 f2 rfl
  have g3 := hf 3 f3 rfl
  have g4 := hf 4 f4 rfl
  have g5 := hf 5 f5 rfl
  simp only [t0, t1, t2, t3, t4, t5, o0, o1, o2, o3, o4, o5, c3, c9, c22, c23, List.drop_zero, List.drop_succ_cons, List.take_succ_cons, List.take_zero] at g0 g1 g2 g3 g4 g5
  have some_of : ∀ {i : Nat}, i < 6 → ∃ y, xs[i]? = some y := fun {i} hi => ⟨_, List.getElem?_eq_getElem (show i < xs.length by rw [hxl]; exact hi)⟩
  obtain ⟨y0, e0⟩ := some_of (i := 0) (by decide)
  obtain ⟨y1, e1⟩ := some_of (i := 1) (by decide)
  obtain ⟨y2, e2⟩ := some_of (i := 2) (by decide)
  obtain ⟨y3, e3⟩ := some_of (i := 3) (by decide)
  obtain ⟨y4, e4⟩ := some_of (i := 4) (by decide)
  obtain ⟨y5, e5⟩ := some_of (i := 5) (by decide)
  rw [e0] at g0; rw [e1] at g1; rw [e2] at g2; rw [e3] at g3; rw [e4] at g4; rw [e5] at g5
  obtain ⟨k, r0, _, w0⟩ := DataW.trod_int Tryz.underlying3 g0
  obtain ⟨ta, tc, tl, r1, p1, p2, p3, p4⟩ := open_rd_strs g1
  obtain ⟨sep, r2, _, w2⟩ := DataW.trod_string Tryz.underlying9 g2
  obtain ⟨na, nc, nl, r3, q1, q2, q3, q4⟩ := open_rd_strs g3
  obtain ⟨st, r4, _, w4⟩ := DataW.trod_int Tryz.underlying3 g4
  obtain ⟨pa, pc, pl, r5, s1, s2, s3, s4⟩ := open_rd_prods g5
  refine ⟨⟨k, tl, sep, nl, st, pl⟩, ⟨ta, tc, na, nc, pa, pc⟩, ?_, ⟨p1, p2, p3, q1, q2, q3, s1, s2, s3, w2, p4, q4⟩, ⟨w0, w4, fun p hp => (s4 p hp).1, fun p hp => (s4 p hp).2⟩⟩
  simp at r0 r1 r2 r3 r4 r5
  subst r0 r1 r2 r3 r4 r5
  rfl

theorem five_of {α : Type} {l : List α} (h : l.length = 5) : ∃ a b c d e, l = [a, b, c, d, e] := by
  match l, h with
  | [a, b, c, d, e], _ => exact ⟨a, b, c, d, e, rfl⟩
end
end Go.Proofs.YtnnkfgekiaaehaaGreat

/- Grammars: what is right, plain; the reference 09: nonterm, terminal, full, twice. -/
namespace Go.Proofs.YtnnkfgekiaaehaaGreat
open Go.ChangeShapes Go.WideShapes Go.ChangeAt Go.RowKit
set_option linter.unusedVariables false

def ntB (g : Gr) (s : Int) : Bool := decide (16 ≤ s ∧ s < 16 + (g.names.length : Int))
def tmB (g : Gr) (s : Int) : Bool := decide (0 ≤ s ∧ s < (g.toks.length : Int))
def fullB (g : Gr) : Bool := decide (g.toks.length ≤ 8) && (decide (g.names.length ≤ 8) && (decide (g.prods.length ≤ 24) && g.prods.all fun p => decide (p.right.length ≤ 6)))
def shortB (g : Gr) : Bool := decide (g.toks.length = 0) || decide (g.names.length = 0)
def nameB (g : Gr) : Bool := (g.toks ++ [g.sep]).all smallB && g.names.all capB
def diffB (g : Gr) : Bool := decide (g.toks ++ [g.sep]).Nodup && decide g.names.Nodup
def symB (g : Gr) : Bool := ntB g g.start && g.prods.all fun p => ntB g p.left && p.right.all fun s => tmB g s || ntB g s
def ordL : List Int → Bool
  | a :: b :: l => decide (a ≤ b) && ordL (b :: l)
  | _ => true
def ordB (g : Gr) : Bool := (List.range g.prods.length).all fun i => decide (i = 0) || decide ((g.prods.getD (i - 1) default).left ≤ (g.prods.getD i default).left)
def compB (g : Gr) : Bool := (List.range g.names.length).all fun i => g.prods.any fun p => decide (p.left = 16 + (i : Int))
/-- the error of a grammar -/
def gchk (g : Gr) : Int :=
  if g.k < 1 ∨ 4 < g.k then 2 else if fullB g = false then 6 else if shortB g = true then 5 else if nameB g = false then 12 else if diffB g = false then 8 else if symB g = false then 14 else if ordB g = false then 9 else if compB g = false then 7 else 0

set_option maxHeartbeats 1000000 in
theorem rnonterm_any (g : Gr) (a : GA) (s : Int) (w : World) (hn : g.names.length ≤ 1000000) : Calls Tryz.prog 98 #[gval g a, .int .i64 s] w fun e w' => e = .returned (.bool (ntB g s)) ∧ Below w.heap.size w w' := by
  unfold gval gcells
  by_cases h1 : 16 ≤ s
  · by_cases h2 : s < 16 + (g.names.length : Int)
    · rw [show ntB g s = true from decide_eq_true ⟨h1, h2⟩]
      go_enter Tryz.func98, Tryz.ntmps98
      go_wp2_with fail
      go_ret
      exact ⟨rfl, bAlc (Below.refl _ _) _⟩
    · rw [show ntB g s = false from decide_eq_false fun h => h2 h.2]
      go_enter Tryz.func98, Tryz.ntmps98
      go_wp2_with fail
      go_ret
      exact ⟨rfl, bAlc (Below.refl _ _) _⟩
  · rw [show ntB g s = false from decide_eq_false fun h => h1 h.1]
    go_enter Tryz.func98, Tryz.ntmps98
    go_wp2_with fail
    go_ret
    exact ⟨rfl, bAlc (Below.refl _ _) _⟩
set_option maxHeartbeats 1000000 in
theorem nonterm_any (g : Gr) (a : GA) (s : Int) (w : World) (hn : g.names.length ≤ 1000000) : Calls Tryz.prog 103 #[gval g a, .int .i64 s] w fun e w' => e = .returned (.bool (ntB g s)) ∧ Below w.heap.size w w' := by
  unfold gval gcells
  by_cases h1 : 16 ≤ s
  · by_cases h2 : s < 16 + (g.names.length : Int)
    · rw [show ntB g s = true from decide_eq_true ⟨h1, h2⟩]
      go_enter Tryz.func103, Tryz.ntmps103
      go_wp2_with fail
      go_ret
      exact ⟨rfl, bAlc (Below.refl _ _) _⟩
    · rw [show ntB g s = false from decide_eq_false fun h => h2 h.2]
      go_enter Tryz.func103, Tryz.ntmps103
      go_wp2_with fail
      go_ret
      exact ⟨rfl, bAlc (Below.refl _ _) _⟩
  · rw [show ntB g s = false from decide_eq_false fun h => h1 h.1]
    go_enter Tryz.func103, Tryz.ntmps103
    go_wp2_with fail
    go_ret
    exact ⟨rfl, bAlc (Below.refl _ _) _⟩
set_option maxHeartbeats 1000000 in
theorem rterminal_any (g : Gr) (a : GA) (s : Int) (w : World) (hn : g.toks.length ≤ 1000000) : Calls Tryz.prog 115 #[gval g a, .int .i64 s] w fun e w' => e = .returned (.bool (tmB g s)) ∧ Below w.heap.size w w' := by
  unfold gval gcells
  by_cases h1 : 0 ≤ s
  · by_cases h2 : s < (g.toks.length : Int)
    · rw [show tmB g s = true from decide_eq_true ⟨h1, h2⟩]
      go_enter Tryz.func115, Tryz.ntmps115
      go_wp2_with fail
      go_ret
      exact ⟨rfl, bAlc (Below.refl _ _) _⟩
    · rw [show tmB g s = false from decide_eq_false fun h => h2 h.2]
      go_enter Tryz.func115, Tryz.ntmps115
      go_wp2_with fail
      go_ret
      exact ⟨rfl, bAlc (Below.refl _ _) _⟩
  · rw [show tmB g s = false from decide_eq_false fun h => h1 h.1]
    go_enter Tryz.func115, Tryz.ntmps115
    go_wp2_with fail
    go_ret
    exact ⟨rfl, bAlc (Below.refl _ _) _⟩
set_option maxHeartbeats 1000000 in
theorem terminal_any (g : Gr) (a : GA) (s : Int) (w : World) (hn : g.toks.length ≤ 1000000) : Calls Tryz.prog 106 #[gval g a, .int .i64 s] w fun e w' => e = .returned (.bool (tmB g s)) ∧ Below w.heap.size w w' := by
  unfold gval gcells
  by_cases h1 : 0 ≤ s
  · by_cases h2 : s < (g.toks.length : Int)
    · rw [show tmB g s = true from decide_eq_true ⟨h1, h2⟩]
      go_enter Tryz.func106, Tryz.ntmps106
      go_wp2_with fail
      go_ret
      exact ⟨rfl, bAlc (Below.refl _ _) _⟩
    · rw [show tmB g s = false from decide_eq_false fun h => h2 h.2]
      go_enter Tryz.func106, Tryz.ntmps106
      go_wp2_with fail
      go_ret
      exact ⟨rfl, bAlc (Below.refl _ _) _⟩
  · rw [show tmB g s = false from decide_eq_false fun h => h1 h.1]
    go_enter Tryz.func106, Tryz.ntmps106
    go_wp2_with fail
    go_ret
    exact ⟨rfl, bAlc (Below.refl _ _) _⟩

set_option maxHeartbeats 1000000 in
theorem rfull_any (g : Gr) (a : GA) (w : World) (hg : GrAt w w.heap.size g a) (ht : g.toks.length ≤ 1000000) (hn : g.names.length ≤ 1000000) (hp : g.prods.length ≤ 1000000) (hr : ∀ p ∈ g.prods, p.right.length ≤ 1000000) :
    Calls Tryz.prog 76 #[gval g a] w fun e w' => e = .returned (.int .i64 (if fullB g = false then 6 else 0)) ∧ Below w.heap.size w w' := by
  obtain ⟨ta, tc, na, nc, pa, pc⟩ := a
  by_cases h1 : g.toks.length ≤ 8 ∧ g.names.length ≤ 8 ∧ g.prods.length ≤ 24
  · obtain ⟨h1, h2, h3⟩ := h1
    obtain ⟨R, hR⟩ : ∃ R, R = fullB g := ⟨_, rfl⟩
    rw [← hR]
    have hR1 : R = g.prods.all fun p => decide (p.right.length ≤ 6) := by rw [hR]; simp [fullB, h1, h2, h3]
    replace hR1 := Lib.hid hR1
    clear hR
    have q0 := Blk.new w 25 (gcells g ⟨ta, tc, na, nc, pa, pc⟩)
    have hg0 := hg.below (bAlc (Below.refl w.heap.size w) (.cells (gcells g ⟨ta, tc, na, nc, pa, pc⟩) 25))
    have hb0 := bAlc (Below.refl w.heap.size w) (.cells (gcells g ⟨ta, tc, na, nc, pa, pc⟩) 25)
    clear hg
    unfold gval
    unfold gcells at *
    dsimp only at *
    go_enter Tryz.func76, Tryz.ntmps76
    go_wp2_with fail
    go_loopg [3] g.prods.length (fun gk s3 wr => ∃ i : Nat, s3 = .int .i64 i ∧ i + gk = g.prods.length ∧ (∀ p ∈ g.prods.take i, p.right.length ≤ 6) ∧
      Blk wr w.heap.size 25 #[.int .i64 g.k, .slice ta g.toks.length tc, .string g.sep, .slice na g.names.length nc, .int .i64 g.start, .slice pa g.prods.length pc] ∧ GrAt wr w.heap.size g ⟨ta, tc, na, nc, pa, pc⟩ ∧ Below w.heap.size w wr)
    case atStart => exact ⟨0, rfl, by omega, by simp, q0, hg0, hb0⟩
    case round =>
      clear q0 hg0 hb0
      obtain ⟨i, rfl, hi, hP, q0, hga, hb⟩ := hrel
      replace hi := Lib.hid hi
      replace hP := Lib.hid hP
      have c5 := q0.cell 5
      simp only [List.getElem?_toArray, List.getElem?_cons_zero, List.getElem?_cons_succ] at c5
      by_cases hin : i < g.prods.length
      · have hxi : g.prods[i]? = some g.prods[i] := List.getElem?_eq_getElem hin
        obtain ⟨b, off, hA, hbt, x0, RA, rc, x1, hx2, hx3, hx4⟩ := hga.prods.get hxi
        dsimp only at hA
        subst hA
        have hmem := List.getElem_mem hin
        have hrl := hr _ hmem
        have htk : g.prods.take (i + 1) = g.prods.take i ++ [g.prods[i]] := List.take_succ_eq_append_getElem hin
        generalize g.prods[i] = p at *
        replace htk := Lib.hid htk
        replace hxi := Lib.hid hxi
        replace hmem := Lib.hid hmem
        have hzi : (0 : Int) ≤ i := by omega
        have hzn : (i : Int) < g.prods.length := by omega
        by_cases h6 : p.right.length ≤ 6
        · have hG := Lib.hid (show ∀ q ∈ g.prods.take (i + 1), q.right.length ≤ 6 by
            intro q hq
            rw [htk.out] at hq
            rcases List.mem_append.1 hq with h | h
            · exact hP.out q h
            · simp at h; rw [h]; exact h6)
          go_wp2_with fail
          go_roundg (g.prods.length - (i + 1))
          case measure => have := hi.out; omega
          case rel => exact ⟨i + 1, by go_num, by have := hi.out; omega, hG.out, q0, hga, hb⟩
        · have hRF : R = false := by
            rw [hR1.out, List.all_eq_false]
            exact ⟨p, hmem.out, by simpa using h6⟩
          subst hRF
          go_wp2_with fail
          go_ret
          exact ⟨rfl, hb⟩
      · have hRT : R = true := by
          rw [hR1.out, List.all_eq_true]
          intro q hq
          refine decide_eq_true (hP.out q ?_)
          rwa [List.take_of_length_le (by omega)]
        subst hRT
        go_wp2_with fail
        go_ret
        exact ⟨rfl, hb⟩
  · have hF : fullB g = false := by
      cases h : fullB g
      · rfl
      · simp [fullB] at h; exact absurd ⟨h.1, h.2.1, h.2.2.1⟩ h1
    rw [hF, if_pos rfl]
    unfold gval gcells
    dsimp only
    by_cases h2 : 8 < g.toks.length
    · clear h1
      go_enter Tryz.func76, Tryz.ntmps76
      go_wp2_with fail
      go_ret
      exact ⟨rfl, bAlc (Below.refl _ _) _⟩
    · by_cases h3 : 8 < g.names.length
      · clear h1
        go_enter Tryz.func76, Tryz.ntmps76
        go_wp2_with fail
        go_ret
        exact ⟨rfl, bAlc (Below.refl _ _) _⟩
      · have h4 : 24 < g.prods.length := by omega
        clear h1
        go_enter Tryz.func76, Tryz.ntmps76
        go_wp2_with fail
        go_ret
        exact ⟨rfl, bAlc (Below.refl _ _) _⟩

/-- no two of the first i strings are equal -/
def DiffTo (l : List ByteArray) (i : Nat) : Prop := ∀ p q : Nat, p < q → q < i → l[p]? ≠ l[q]?
theorem diff_nodup (l : List ByteArray) : DiffTo l l.length ↔ l.Nodup := by
  unfold DiffTo List.Nodup
  rw [List.pairwise_iff_getElem]
  constructor
  · intro h i j hi hj hij e
    refine h i j hij hj ?_
    rw [List.getElem?_eq_getElem hi, List.getElem?_eq_getElem hj, e]
  · intro h p q hpq hq e
    rw [List.getElem?_eq_getElem (by omega), List.getElem?_eq_getElem hq] at e
    exact h p q (by omega) hq hpq (by simpa using e)

set_option maxHeartbeats 1000000 in
theorem rtwice_any (A : Option Addr) (n c : Nat) (l : List ByteArray) (w : World) (ha : Rd1 w w.heap.size A n (strs l)) (hn : n ≤ 1000000) :
    Calls Tryz.prog 114 #[.slice A n c] w fun e w' => e = .returned (.bool (!decide l.Nodup)) ∧ Below w.heap.size w w' := by
  have hl : l.length = n := by have := ha.1; simpa [strs] using this
  obtain ⟨R, hR⟩ : ∃ R, R = !decide l.Nodup := ⟨_, rfl⟩
  rw [← hR]
  replace hR := Lib.hid hR
  replace hl := Lib.hid hl
  go_enter Tryz.func114, Tryz.ntmps114
  go_wp2_with fail
  go_loopg [3] n (fun gk s3 wr => ∃ i : Nat, s3 = .int .i64 i ∧ i + gk = n ∧ DiffTo l i ∧ Rd1 wr w.heap.size A n (strs l) ∧ Below w.heap.size w wr)
  case atStart => exact ⟨0, rfl, by omega, by intro p q _ h; omega, ha, Below.refl _ _⟩
  case round =>
    clear ha
    obtain ⟨i, rfl, hi, hd, ha, hb⟩ := hrel
    replace hi := Lib.hid hi
    replace hd := Lib.hid hd
    by_cases hin : i < n
    · go_wp2_with fail
      obtain ⟨wo, rfl⟩ : ∃ wo : World, wo = wr := ⟨_, rfl⟩
      go_loopg [4] i (fun gk s4 wr => ∃ j : Nat, s4 = .int .i64 j ∧ j + gk = i ∧ (∀ p : Nat, p < j → l[p]? ≠ l[i]?) ∧ Rd1 wr w.heap.size A n (strs l) ∧ Below w.heap.size w wr)
      case atStart => exact ⟨0, rfl, by omega, by intro p h; omega, ha, hb⟩
      case round =>
        clear ha hb
        obtain ⟨j, rfl, hj, hne, ha, hb⟩ := hrel
        replace hj := Lib.hid hj
        replace hne := Lib.hid hne
        by_cases hji : j < i
        · have hil : i < l.length := by have := hl.out; omega
          have hjl : j < l.length := by omega
          have hxi : l[i]? = some l[i] := List.getElem?_eq_getElem hil
          have hxj : l[j]? = some l[j] := List.getElem?_eq_getElem hjl
          obtain ⟨b, off, rfl, hbt, x0⟩ := ha.get (i := i) (v := .string l[i]) (by simp [strs, hxi])
          obtain ⟨b', off', hbb, hbt', y0⟩ := ha.get (i := j) (v := .string l[j]) (by simp [strs, hxj])
          cases hbb
          generalize l[i] = x at *
          generalize l[j] = y at *
          have hzi : (0 : Int) ≤ i := by omega
          have hzn : (i : Int) < n := by omega
          have hzj : (0 : Int) ≤ j := by omega
          have hzm : (j : Int) < n := by omega
          replace hxi := Lib.hid hxi
          replace hxj := Lib.hid hxj
          by_cases hxy : x = y
          · have hRT : R = true := by
              rw [hR.out, decide_eq_false, Bool.not_false]
              rw [← diff_nodup]
              intro hd'
              exact hd' j i hji (by have := hl.out; omega) (by rw [hxi.out, hxj.out, hxy])
            subst hRT
            subst hxy
            go_wp2_with fail
            go_quiet (fail)
            go_wp2_with fail
            go_ret
            exact ⟨rfl, bDrwN hb _⟩
          · have hf := eqF x y hxy
            have hG := Lib.hid (show ∀ p : Nat, p < j + 1 → l[p]? ≠ l[i]? by
              intro p hp
              by_cases e : p = j
              · rw [e, hxi.out, hxj.out]; intro e2; exact hxy (by simpa using e2.symm)
              · exact hne.out p (by omega))
            clear hxy
            go_wp2_with fail
            go_quiet (fail)
            go_wp2_with fail
            go_roundg (i - (j + 1))
            case measure => have := hj.out; omega
            case rel => exact ⟨j + 1, by go_num, by have := hj.out; omega, hG.out, ha.below (bDrwN' _ _), bDrwN hb _⟩
        · have hG := Lib.hid (show DiffTo l (i + 1) by
            intro p q hpq hq
            by_cases e : q = i
            · rw [e]; exact hne.out p (by omega)
            · exact hd.out p q hpq (by omega))
          go_wp2_with fail
          go_roundg (n - (i + 1))
          case measure => have := hi.out; omega
          case rel => exact ⟨i + 1, by go_num, by have := hi.out; omega, hG.out, ha, hb⟩
    · have hRF : R = false := by
        rw [hR.out, decide_eq_true, Bool.not_true]
        rw [← diff_nodup]
        have := hd.out
        rwa [show i = l.length by have := hl.out; have := hi.out; omega] at this
      subst hRF
      go_wp2_with fail
      go_ret
      exact ⟨rfl, hb⟩
end Go.Proofs.YtnnkfgekiaaehaaGreat

/- append, on slices of the call's own of one-cell values. -/
namespace Go.Proofs.YtnnkfgekiaaehaaGreat
open Go.ChangeShapes Go.WideShapes Go.ChangeAt Go.RowKit
set_option linter.unusedVariables false

/-- v is a slice of the call's own of one-cell values vs of type e, its block not below base -/
def Own1 (w : World) (base : Nat) (e : TypeId) (v : Value) (vs : List Value) : Prop := w.ownsRow base e 1 v vs.length vs
theorem Own1.nil (w : World) (base : Nat) (e : TypeId) : Own1 w base e (.slice none 0 0) [] := World.ownsRow_nil w base e 1
theorem Own1.alloc {w : World} {base : Nat} {e : TypeId} {v : Value} {l : List Value} (h : Own1 w base e v l) (o : Obj) : Own1 (w.alloc o) base e v l := World.ownsRow.alloc h o
theorem Own1.empty (w : World) (base : Nat) (e : TypeId) (h : base ≤ w.heap.size) : Own1 (w.alloc (.cells #[] e)) base e (.slice (some ⟨w.heap.size, 0, none⟩) 0 0) [] :=
  ⟨rfl, .inr ⟨w.heap.size, 0, #[], rfl, h, heap_alloc_new w _, Nat.le_refl _, by simp [maxLen], rfl, rfl⟩⟩
theorem Own1.step {w w' : World} {base : Nat} {e : TypeId} {v : Value} {l : List Value} (h : Own1 w base e v l) (hb : Below w.heap.size w w') : Own1 w' base e v l := by
  refine ⟨h.1, ?_⟩
  rcases h.2 with hn | ⟨g, cap, cur, rfl, hg0, hg, rest⟩
  · exact .inl hn
  · exact .inr ⟨g, cap, cur, rfl, hg0, (hb.block g (Array.getElem?_eq_some_iff.1 hg).1).trans hg, rest⟩
theorem Own1.mono {w : World} {base b' : Nat} {e : TypeId} {v : Value} {l : List Value} (h : Own1 w base e v l) (hb : b' ≤ base) : Own1 w b' e v l := by
  refine ⟨h.1, ?_⟩
  rcases h.2 with hn | ⟨g, cap, cur, rfl, hg0, hg, rest⟩
  · exact .inl hn
  · exact .inr ⟨g, cap, cur, rfl, by omega, hg, rest⟩
theorem Own1.reads {w : World} {base : Nat} {e : TypeId} {v : Value} {l : List Value} (h : Own1 w base e v l) : ∃ A c, v = .slice A l.length c ∧ Rd1 w w.heap.size A l.length l ∧ l.length ≤ c ∧ c ≤ maxLen ∧ (∀ a, A = some a → base ≤ a.block) := by
  rcases h.2 with ⟨rfl, h0⟩ | ⟨g, cap, cur, rfl, hb, hg, hnc, hcm, hcs, ht⟩
  · refine ⟨none, 0, by rw [h0], ⟨rfl, .inl h0⟩, by omega, by simp [maxLen], by simp⟩
  · refine ⟨some ⟨g, 0, none⟩, cap, rfl, ⟨rfl, ?_⟩, hnc, hcm, by simp; exact hb⟩
    refine .inr ⟨g, 0, rfl, (Array.getElem?_eq_some_iff.1 hg).1, fun i x hx => ?_⟩
    have hlt := (List.getElem?_eq_some_iff.1 hx).1
    rw [← ht, List.getElem?_take, if_pos (by omega)] at hx
    rw [cell_of_row w g _ cur e (0, 0) hg, Nat.zero_add]
    simpa using hx

section
variable (w : World) {P : Program} {ops : Array Oper} {rest : List Oper} {o : Oper} {a : Act} {K : Act → World → Prop} {Q : Exit → Act → World → Prop} {E : Prop}
theorem step_of_wp (hgd : o.guard = none) (h : Oper.wp P o a w K Q) : if Region.wanted o (yielded ops a.tmps) = true then Oper.wp P o a w K Q else E := by
  have hw : Region.wanted o (yielded ops a.tmps) = true := by simp [Region.wanted, hgd]
  rw [if_pos hw]
  exact h
/-- 'append(s, xs...)' of one-cell values that are read -/
theorem wp_join1 (s x : Operand) (t : TypeId) (ho : o.op = .call { callee := .builtin .append, args := #[s, x], argTypes := #[t, t] })
    (base : Nat) (e : TypeId) (z : Value) (bytes : Nat) (ht : P.underlying t = some (.slice e)) (hi : (P.info? e).map (fun i => (i.zero, i.size, i.bytes)) = some (some z, 1, bytes)) (hzs : z.cells.size = 1)
    (v : Value) (l : List Value) (hs : a.eval s = v) (hown : Own1 w base e v l) (B : Nat) (A : Option Addr) (m c : Nat) (k : List Value) (hx : a.eval x = .slice A m c) (hr : Rd1 w B A m k) (h1 : ∀ u ∈ k, u.oneCell' = true)
    (h63 : l.length + m ≤ 1000000) (hbytes : bytes ≤ 1000000) (hbase : base ≤ w.heap.size)
    (h : ∀ v' w', Own1 w' base e v' (l ++ k) → w.grownBy w' v.ownBlock → (v'.ownBlock = v.ownBlock ∨ v'.ownBlock = some w.heap.size) → (∀ W0, Below base W0 w → Below base W0 w') → K (a.put o.dst v') w') : Oper.wp P o a w K Q := by
  obtain ⟨i0, hi0, hz0, hz1, hz2⟩ := info_parts hi
  rcases A with _ | ad
  · have hm : m = 0 := by
      rcases hr.2 with h0 | ⟨_, _, h0, _⟩
      · exact h0
      · cases h0
    subst hm
    have hk : k = [] := List.eq_nil_of_length_eq_zero hr.1
    subst hk
    have hrun : (Builtin.append_ #[t, t] o.type #[v, .slice none 0 c]).run P w = .ok v w := by
      rcases hown.2 with ⟨rfl, _⟩ | ⟨g, cap, cur, rfl, _, _, hnc, _⟩
      · simp [Builtin.append_, run_underlying ht, sizeOf, typeInfo, hi0, Builtin.lenOf, Builtin.firstCells]
      · simp [Builtin.append_, run_underlying ht, sizeOf, typeInfo, hi0, Builtin.lenOf, Builtin.firstCells, hnc, storeCells]
    unfold Oper.wp execOp
    simp only [ho, resolve, invoke, builtin, Sem.run_bind, Sem.run_pure, Result.andThen_ok, List.map_toArray, List.map_cons, List.map_nil, hs, hx, hrun]
    exact h v w (by simpa using hown) (World.grownBy.refl w _) (.inl rfl) fun _ h => h
  · have hnews : ∀ j u, k[j]? = some u → w.cell? (ad.add j) = some u := by
      intro j u hu
      have hlt := (List.getElem?_eq_some_iff.1 hu).1
      rcases hr.2 with h0 | ⟨b, off, h0, _, hc⟩
      · have := hr.1; omega
      · cases h0
        have hadd : (⟨b, off, none⟩ : Addr).add j = ⟨b, off + j, none⟩ := by unfold Addr.add; split <;> simp_all
        rw [hadd]
        exact hc j u hu
    have hb2 := Nat.mul_le_mul h63 hbytes
    obtain ⟨v', w', hrun, h2, h3, h4, h5⟩ := run_append_own_at (P := P) w base t o.type e i0 z 1 bytes ht hi0 hz0 hz1 hz2 hzs (by omega) v l.length l hown ad m c k (by rw [hr.1]; omega) hnews h1 (by unfold maxLen; omega) (by omega) hbase
    unfold Oper.wp execOp
    simp only [ho, resolve, invoke, builtin, Sem.run_bind, Sem.run_pure, Result.andThen_ok, List.map_toArray, List.map_cons, List.map_nil, hs, hx, hrun]
    refine h v' w' ?_ h3 h5 fun W0 hB => hB.grown h3 hbase (fun k hk => (own_in hown k hk).1)
    unfold Own1
    rw [List.length_append, hr.1]
    exact h2
theorem wpList_join1 (hgd : o.guard = none) (s x : Operand) (t : TypeId) (ho : o.op = .call { callee := .builtin .append, args := #[s, x], argTypes := #[t, t] })
    (base : Nat) (e : TypeId) (z : Value) (bytes : Nat) (ht : P.underlying t = some (.slice e)) (hi : (P.info? e).map (fun i => (i.zero, i.size, i.bytes)) = some (some z, 1, bytes)) (hzs : z.cells.size = 1)
    (v : Value) (l : List Value) (hs : a.eval s = v) (hown : Own1 w base e v l) (B : Nat) (A : Option Addr) (m c : Nat) (k : List Value) (hx : a.eval x = .slice A m c) (hr : Rd1 w B A m k) (h1 : ∀ u ∈ k, u.oneCell' = true)
    (h63 : l.length + m ≤ 1000000) (hbytes : bytes ≤ 1000000) (hbase : base ≤ w.heap.size)
    (h : ∀ v' w', Own1 w' base e v' (l ++ k) → w.grownBy w' v.ownBlock → (v'.ownBlock = v.ownBlock ∨ v'.ownBlock = some w.heap.size) → (∀ W0, Below base W0 w → Below base W0 w') → wpList P ops Q rest (a.put o.dst v') w') : wpList P ops Q (o :: rest) a w :=
  wpList_plain hgd fun _ hK => wp_join1 w s x t ho base e z bytes ht hi hzs v l hs hown B A m c k hx hr h1 h63 hbytes hbase fun v' w' a b c d => hK _ _ (h v' w' a b c d)
/-- 'append(s, x)', x a one-cell value in a block of its own -/
theorem rd_blk {w : World} {g : Nat} {e : TypeId} {k : Value} (hb : Blk w g e #[k]) : Rd1 w w.heap.size (some ⟨g, 0, none⟩) 1 [k] := by
  refine ⟨rfl, .inr ⟨g, 0, rfl, hb.lt, fun i x hx => ?_⟩⟩
  have : i = 0 := by have := (List.getElem?_eq_some_iff.1 hx).1; simp at this; omega
  subst this
  rw [hb.cell]
  simpa using hx
end
theorem info9 : (Tryz.prog.info? 9).map (fun i => (i.zero, i.size, i.bytes)) = some (some (.string ByteArray.empty), 1, 16) := by kernel_rfl
theorem info3 : (Tryz.prog.info? 3).map (fun i => (i.zero, i.size, i.bytes)) = some (some (.int .i64 0), 1, 8) := by kernel_rfl
theorem under23 : Tryz.prog.underlying 22 = some (.slice 9) := by kernel_rfl
theorem under22 : Tryz.prog.underlying 34 = some (.slice 3) := by kernel_rfl
theorem strs_one {l : List ByteArray} : ∀ u ∈ strs l, u.oneCell' = true := by
  intro u hu; simp [strs] at hu; obtain ⟨s, _, rfl⟩ := hu; rfl
theorem ints_one {l : List Int} : ∀ u ∈ ints l, u.oneCell' = true := by
  intro u hu; simp [ints] at hu; obtain ⟨s, _, rfl⟩ := hu; rfl
end Go.Proofs.YtnnkfgekiaaehaaGreat

/- The reference 09: prods, named. -/
namespace Go.Proofs.YtnnkfgekiaaehaaGreat
open Go.ChangeShapes Go.WideShapes Go.ChangeAt Go.RowKit
set_option linter.unusedVariables false

/-- the numbers of the productions of s among the first n -/
def prIdx (ps : List Pr) (s : Int) (n : Nat) : List Int := ((List.range n).filter fun i => decide ((ps.getD i default).left = s)).map fun i : Nat => (i : Int)
theorem prIdx_succ (ps : List Pr) (s : Int) (n : Nat) : prIdx ps s (n + 1) = if (ps.getD n default).left = s then prIdx ps s n ++ [(n : Int)] else prIdx ps s n := by
  unfold prIdx
  rw [List.range_succ, List.filter_append, List.map_append]
  by_cases h : (ps.getD n default).left = s
  · rw [if_pos h, List.filter_cons, if_pos (decide_eq_true h)]; rfl
  · rw [if_neg h, List.filter_cons, if_neg (by simpa using h)]; simp
theorem prIdx_len (ps : List Pr) (s : Int) (n : Nat) : (prIdx ps s n).length ≤ n := by
  unfold prIdx
  rw [List.length_map]
  exact Nat.le_trans (List.length_filter_le _ _) (by simp)
def RetI (w : World) (l : List Int) (e : Ending) (w' : World) : Prop := ∃ v, e = .returned v ∧ Own1 w' w.heap.size 3 v (ints l) ∧ Below w.heap.size w w'

set_option maxHeartbeats 1000000 in
theorem rprods_any (g : Gr) (a : GA) (s : Int) (w : World) (hg : GrAt w w.heap.size g a) (hp : g.prods.length ≤ 100000) :
    Calls Tryz.prog 51 #[gval g a, .int .i64 s] w (RetI w (prIdx g.prods s g.prods.length)) := by
  obtain ⟨ta, tc, na, nc, pa, pc⟩ := a
  have hP := Lib.hid (fun (v : Value) (w' : World) (h1 : Own1 w' w.heap.size 3 v (ints (prIdx g.prods s g.prods.length))) (h2 : Below w.heap.size w w') => (show RetI w (prIdx g.prods s g.prods.length) (.returned v) w' from ⟨v, rfl, h1, h2⟩))
  have q0 := Blk.new w 25 (gcells g ⟨ta, tc, na, nc, pa, pc⟩)
  have hg0 := hg.below (bAlc (Below.refl w.heap.size w) (.cells (gcells g ⟨ta, tc, na, nc, pa, pc⟩) 25))
  have hb0 := bAlc (Below.refl w.heap.size w) (.cells (gcells g ⟨ta, tc, na, nc, pa, pc⟩) 25)
  clear hg
  unfold gval
  unfold gcells at *
  dsimp only at *
  go_enter Tryz.func51, Tryz.ntmps51
  go_wp2_with fail
  go_loopg [5, 6] g.prods.length (fun gk s5 s6 wr => ∃ i : Nat, s6 = .int .i64 i ∧ i + gk = g.prods.length ∧ Own1 wr w.heap.size 3 s5 (ints (prIdx g.prods s i)) ∧
    Blk wr w.heap.size 25 #[.int .i64 g.k, .slice ta g.toks.length tc, .string g.sep, .slice na g.names.length nc, .int .i64 g.start, .slice pa g.prods.length pc] ∧ GrAt wr w.heap.size g ⟨ta, tc, na, nc, pa, pc⟩ ∧ Below w.heap.size w wr ∧ (∀ k, s5.ownBlock = some k → k ≠ w.heap.size))
  case atStart => exact ⟨0, rfl, by omega, Own1.nil _ _ _, q0, hg0, hb0, by simp [Value.ownBlock]⟩
  case round =>
    clear q0 hg0 hb0
    obtain ⟨i, rfl, hi, ho, q0, hga, hb, hne⟩ := hrel
    replace hi := Lib.hid hi
    have c5 := q0.cell 5
    have hq0 := q0.lt
    simp only [List.getElem?_toArray, List.getElem?_cons_zero, List.getElem?_cons_succ] at c5
    by_cases hin : i < g.prods.length
    · have hxi : g.prods[i]? = some g.prods[i] := List.getElem?_eq_getElem hin
      obtain ⟨b, off, hA, hbt, x0, RA, rc, x1, hx2, hx3, hx4⟩ := hga.prods.get hxi
      dsimp only at hA
      subst hA
      have hsucc := prIdx_succ g.prods s i
      have hgd : g.prods.getD i default = g.prods[i] := by simp [List.getD_eq_getElem?_getD, hxi]
      rw [hgd] at hsucc
      have hlen := prIdx_len g.prods s i
      generalize g.prods[i] = p at *
      replace hxi := Lib.hid hxi
      replace hgd := Lib.hid hgd
      have hzi : (0 : Int) ≤ i := by omega
      have hzn : (i : Int) < g.prods.length := by omega
      by_cases h6 : p.left = s
      · have hsb : (p.left == s) = true := by simp [h6]
        rw [if_pos h6] at hsucc
        replace hsucc := Lib.hid hsucc
        clear h6
        go_wp2_with (at_builtin; refine wpList_join1 _ rfl _ _ 34 rfl w.heap.size 3 _ 8 under22 info3 rfl _ _ rfl (ho.alloc _) _ _ 1 1 [.int .i64 (i : Int)] rfl (rd_blk (Blk.new _ _ _)) (by simp [Value.oneCell']) (by simp only [ints, List.length_map]; omega) (by simp) (by have := hb.size; simp; omega) ?_; intro v' w1 hown1 hg1 hat1 hb1)
        have hb2 : Below w.heap.size wr w1 := hb1 wr ((Below.refl _ _).alloc hb.size _)
        have hne1 : ∀ k, v'.ownBlock = some k → k ≠ w.heap.size := by
          intro k hk
          rcases hat1 with h | h
          · exact hne k (h ▸ hk)
          · rw [h] at hk
            have : k = (wr.alloc (.cells #[.int .i64 (i : Int)] 3)).heap.size := by injection hk with hk; exact hk.symm
            rw [this]; simp; omega
        have q1 : Blk w1 w.heap.size 25 #[.int .i64 g.k, .slice ta g.toks.length tc, .string g.sep, .slice na g.names.length nc, .int .i64 g.start, .slice (some ⟨b, off, none⟩) g.prods.length pc] :=
          (q0.alloc _).grown hg1 (fun e => hne _ e.symm rfl)
        go_roundg (g.prods.length - (i + 1))
        case measure => have := hi.out; omega
        case rel => exact ⟨i + 1, by go_num, by have := hi.out; omega, by rw [hsucc.out, ints, List.map_append]; exact hown1, q1, hga.below hb2, hb1 w (bAlc hb _), hne1⟩
      · have hsb : (p.left == s) = false := by simp [h6]
        rw [if_neg h6] at hsucc
        replace hsucc := Lib.hid hsucc
        clear h6
        go_wp2_with fail
        go_roundg (g.prods.length - (i + 1))
        case measure => have := hi.out; omega
        case rel => exact ⟨i + 1, by go_num, by have := hi.out; omega, by rw [hsucc.out]; exact ho, q0, hga, hb, hne⟩
    · have hii : i = g.prods.length := by have := hi.out; omega
      subst hii
      go_wp2_with fail
      go_ret
      exact hP.out _ _ ho hb

theorem Own1.drew {w : World} {base : Nat} {e : TypeId} {v : Value} {l : List Value} (h : Own1 w base e v l) : Own1 w.drew base e v l := h
theorem Own1.emptyAt (w : World) (base : Nat) (e : TypeId) (g : Nat) (hg : g = w.heap.size) (h : base ≤ w.heap.size) : Own1 (w.alloc (.cells #[] e)) base e (.slice (some ⟨g, 0, none⟩) 0 0) [] := by
  subst hg; exact Own1.empty w base e h
theorem own1_far {w : World} {base : Nat} {e : TypeId} {v : Value} {l : List Value} (h : Own1 w base e v l) {w1 : World} (hg : w.grownBy w1 none) : Own1 w1 base e v l := World.ownsRow.kept h hg (by cases hv : v.ownBlock <;> simp)
/-- a world of the region that lays small names: the grammar's box, the grammar, what was there -/
def SN (w w0 : World) (g : Gr) (a : GA) (w' : World) : Prop := Blk w' w.heap.size 25 (gcells g a) ∧ GrAt w' w.heap.size g a ∧ Below w.heap.size w w' ∧ Below w.heap.size w0 w'
theorem SN.drew {w w0 : World} {g : Gr} {a : GA} {w' : World} (h : SN w w0 g a w') : SN w w0 g a w'.drew := ⟨h.1, h.2.1.below (Below.refl _ _).drew, h.2.2.1.drew, h.2.2.2.drew⟩
theorem SN.alloc {w w0 : World} {g : Gr} {a : GA} {w' : World} (h : SN w w0 g a w') (o : Obj) : SN w w0 g a (w'.alloc o) :=
  ⟨h.1.alloc o, h.2.1.below ((Below.refl _ _).alloc h.2.2.1.size o), bAlc h.2.2.1 o, h.2.2.2.alloc h.2.2.1.size o⟩
theorem SN.grown {w w0 : World} {g : Gr} {a : GA} {w' w1 : World} {v : Value} (h : SN w w0 g a w') (hg : w'.grownBy w1 v.ownBlock) (hv : ∀ k, v.ownBlock = some k → w.heap.size < k) : SN w w0 g a w1 := by
  have hr : ∀ k, v.ownBlock = some k → w.heap.size ≤ k := fun k hk => by have := hv k hk; omega
  exact ⟨h.1.grown hg (fun e => by have := hv _ e.symm; omega), h.2.1.below ((Below.refl _ _).grown hg h.2.2.1.size hr), h.2.2.1.grown hg h.2.2.1.size hr, h.2.2.2.grown hg h.2.2.1.size hr⟩
theorem SN.all {w w0 : World} {g : Gr} {a : GA} {w' : World} (h : SN w w0 g a w') : w'.cell? ⟨w.heap.size, 1, none⟩ = some (.slice a.ta g.toks.length a.tc) ∧ w'.cell? ⟨w.heap.size, 2, none⟩ = some (.string g.sep) ∧ SN w w0 g a w' :=
  ⟨h.1.cell 1, h.1.cell 2, h⟩
theorem SN.size {w w0 : World} {g : Gr} {a : GA} {w' : World} (h : SN w w0 g a w') : w.heap.size < w'.heap.size := h.1.lt

set_option maxHeartbeats 1000000 in
theorem rnamed_any (g : Gr) (a : GA) (w : World) (hg : GrAt w w.heap.size g a) (ht : g.toks.length ≤ 100000) (hn : g.names.length ≤ 100000) :
    Calls Tryz.prog 77 #[gval g a] w fun e w' => e = .returned (.int .i64 (if nameB g = false then 12 else if diffB g = false then 8 else 0)) ∧ Below w.heap.size w w' := by
  obtain ⟨ta, tc, na, nc, pa, pc⟩ := a
  obtain ⟨R, hR⟩ : ∃ R : Int, R = if nameB g = false then 12 else if diffB g = false then 8 else 0 := ⟨_, rfl⟩
  rw [← hR]
  replace hR := Lib.hid hR
  have q0 := Blk.new w 25 (gcells g ⟨ta, tc, na, nc, pa, pc⟩)
  have hg0 := hg.below (bAlc (Below.refl w.heap.size w) (.cells (gcells g ⟨ta, tc, na, nc, pa, pc⟩) 25))
  have hb0 := bAlc (Below.refl w.heap.size w) (.cells (gcells g ⟨ta, tc, na, nc, pa, pc⟩) 25)
  clear hg
  unfold gval
  unfold gcells at *
  dsimp only at *
  go_enter Tryz.func77, Tryz.ntmps77
  go_wp2_with fail
  obtain ⟨w0, hw0⟩ : ∃ w0, w0 = w.alloc (.cells #[.int .i64 g.k, .slice ta g.toks.length tc, .string g.sep, .slice na g.names.length nc, .int .i64 g.start, .slice pa g.prods.length pc] 25) := ⟨_, rfl⟩
  have hsz : w.heap.size < w0.heap.size := by rw [hw0]; simp
  rw [← hw0] at q0 hg0 hb0 ⊢
  clear hw0
  have c1 := q0.cell 1
  have c2 := q0.cell 2
  simp only [List.getElem?_toArray, List.getElem?_cons_zero, List.getElem?_cons_succ] at c1 c2
  go_cut [3] (fun s3 wx => Own1 wx w.heap.size 9 s3 (strs (g.toks ++ [g.sep])) ∧ Blk wx w.heap.size 25 #[.int .i64 g.k, .slice ta g.toks.length tc, .string g.sep, .slice na g.names.length nc, .int .i64 g.start, .slice pa g.prods.length pc] ∧ GrAt wx w.heap.size g ⟨ta, tc, na, nc, pa, pc⟩ ∧ Below w.heap.size w wx)
  case first =>
    have hsn : SN w w0 g ⟨ta, tc, na, nc, pa, pc⟩ w0 := ⟨q0, hg0, hb0, Below.refl _ _⟩
    clear q0 hg0 hb0 c1 c2
    have e1 : Own1 (w0.alloc (.cells #[] 9)).drew (w.heap.size + 1) 9 (.slice (some ⟨w0.heap.size, 0, none⟩) 0 0) [] := Own1.emptyAt w0 _ 9 _ rfl (by omega)
    have e2 : Own1 ((w0.alloc (.cells #[] 9)).alloc (.cells #[.string g.sep] 9)).drew (w.heap.size + 1) 9 (.slice (some ⟨w0.heap.size, 0, none⟩) 0 0) [] := (Own1.emptyAt w0 (w.heap.size + 1) 9 _ rfl (by omega)).alloc _
    have e3 : Own1 ((w0.alloc (.cells #[.string g.sep] 9)).alloc (.cells #[] 9)).drew (w.heap.size + 1) 9 (.slice (some ⟨w0.heap.size + 1, 0, none⟩) 0 0) [] := Own1.emptyAt (w0.alloc _) _ 9 _ (by simp) (by simp; omega)
    have n1 : SN w w0 g ⟨ta, tc, na, nc, pa, pc⟩ (w0.alloc (.cells #[] 9)).drew := (hsn.alloc _).drew
    have n2 : SN w w0 g ⟨ta, tc, na, nc, pa, pc⟩ ((w0.alloc (.cells #[] 9)).alloc (.cells #[.string g.sep] 9)).drew := ((hsn.alloc _).alloc _).drew
    have n3 : SN w w0 g ⟨ta, tc, na, nc, pa, pc⟩ ((w0.alloc (.cells #[.string g.sep] 9)).alloc (.cells #[] 9)).drew := ((hsn.alloc _).alloc _).drew
    have d2 : Blk ((w0.alloc (.cells #[] 9)).alloc (.cells #[.string g.sep] 9)).drew (w0.heap.size + 1) 9 #[.string g.sep] := Blk.newAt (w0.alloc _) _ _ _ (by simp)
    have d3 : Blk ((w0.alloc (.cells #[.string g.sep] 9)).alloc (.cells #[] 9)).drew w0.heap.size 9 #[.string g.sep] := (Blk.new w0 9 _).alloc _
    have ne2 : some (w0.heap.size + 1) ≠ some w0.heap.size := by simp
    have ne3 : some w0.heap.size ≠ some (w0.heap.size + 1) := by simp
    have m2 : ∀ k, some w0.heap.size = some k → w.heap.size < k := by intro k hk; injection hk with hk; omega
    have m3 : ∀ k, some (w0.heap.size + 1) = some k → w.heap.size < k := by intro k hk; injection hk with hk; omega
    go_region_held3 (fun w' => w'.cell? ⟨w.heap.size, 1, none⟩ = some (.slice ta g.toks.length tc) ∧ w'.cell? ⟨w.heap.size, 2, none⟩ = some (.string g.sep) ∧ SN w w0 g ⟨ta, tc, na, nc, pa, pc⟩ w')
      ((refine SN.all (a := ⟨ta, tc, na, nc, pa, pc⟩) ?_; repeat (first | assumption | refine SN.drew ?_ | refine SN.alloc ?_ _)))
      (first
        | (refine step_of_wp _ (by rfl) (wp_join1 _ _ _ 22 (by rfl) (w.heap.size + 1) 9 _ 16 under23 info9 (by rfl) v1 (strs g.toks) (by rfl) (by first | exact hown1 | exact hown1.alloc _) _ _ 1 1 [.string g.sep] (by rfl) (by first | exact rd_blk (Blk.new _ _ _) | exact rd_blk (d2.grown hg1 ne2) | exact rd_blk (d3.grown hg1 ne3)) (by simp [Value.oneCell']) (by simp [strs]; omega) (by simp) (by have := hs1.size; simp; omega) ?_); intro v2 w2 hown2 hg2 hat2 hb2
           have hs2 : SN w w0 g ⟨ta, tc, na, nc, pa, pc⟩ w2 := SN.grown (by first | exact hs1 | exact hs1.alloc _) hg2 (fun k hk => (own_in hown1 k hk).1))
        | (refine step_of_wp _ (by rfl) (wp_join1 _ _ _ 22 (by rfl) (w.heap.size + 1) 9 _ 16 under23 info9 (by rfl) _ [] (by rfl) (by first | exact e1 | exact e2 | exact e3) w.heap.size ta g.toks.length tc (strs g.toks) (by rfl) (by first | exact n1.2.1.toks | exact n2.2.1.toks | exact n3.2.1.toks) strs_one (by simp; omega) (by simp) (by simp; omega) ?_); intro v1 w1 hown1 hg1 hat1 hb1; simp only [List.nil_append] at hown1
           have hs1 : SN w w0 g ⟨ta, tc, na, nc, pa, pc⟩ w1 := (by first | exact SN.grown n1 hg1 m2 | exact SN.grown n2 hg1 m2 | exact SN.grown n3 hg1 m3)))
    all_goals
      go_wp2_with fail
      go_meet
      exact ⟨by rw [strs, List.map_append]; exact hown2.mono (by omega), hs2.1, hs2.2.1, hs2.2.2.1⟩
  case rest =>
    clear q0 hg0 hb0 c1 c2 hsz
    obtain ⟨ho, q0, hga, hb⟩ := hcut
    obtain ⟨A, c, rfl, hrd, hc1, hc2, hbl⟩ := ho.reads
    have hsl : (strs (g.toks ++ [g.sep])).length = (g.toks ++ [g.sep]).length := by simp [strs]
    rw [hsl] at hrd hc1
    rw [hsl]
    clear hsl ho
    have hsz : ∀ s ∈ g.toks ++ [g.sep], s.size ≤ maxLen := by
      intro s hs
      rcases List.mem_append.1 hs with h | h
      · exact hga.ts s h
      · simp at h; rw [h]; exact hga.sep
    obtain ⟨L, hL⟩ : ∃ L, L = g.toks ++ [g.sep] := ⟨_, rfl⟩
    have hNB : nameB g = (L.all smallB && g.names.all capB) := by rw [hL]; rfl
    have hDB : diffB g = (decide L.Nodup && decide g.names.Nodup) := by rw [hL]; rfl
    have hLl : L.length ≤ 100001 := by rw [hL]; simp; omega
    rw [← hL] at hrd hc1 hsz ⊢
    clear hL
    replace hNB := Lib.hid hNB
    replace hDB := Lib.hid hDB
    have c3 := q0.cell 3
    simp only [List.getElem?_toArray, List.getElem?_cons_zero, List.getElem?_cons_succ] at c3
    have hcap := Lib.hid (fun (s : ByteArray) (hs : s ∈ g.names) (w : World) => rcap_any s w (hga.ns s hs))
    have hsm := Lib.hid (fun (s : ByteArray) (hs : s ∈ L) (w : World) => rsmall_any s w (hsz s hs))
    go_wp2_with fail
    go_loopg [4] L.length (fun gk s4 wr => ∃ i : Nat, wr = wc ∧ s4 = .int .i64 i ∧ i + gk = L.length ∧ ∀ s ∈ L.take i, smallB s = true)
    case atStart => exact ⟨0, rfl, rfl, by omega, by simp⟩
    case round =>
      obtain ⟨i, rfl, rfl, hi, hP⟩ := hrel
      replace hi := Lib.hid hi
      replace hP := Lib.hid hP
      by_cases hin : i < L.length
      · have hxi : L[i]? = some L[i] := List.getElem?_eq_getElem hin
        obtain ⟨b, off, rfl, hbt, x0⟩ := hrd.get (i := i) (v := .string L[i]) (by simp [strs, hxi])
        have hmem := List.getElem_mem hin
        have htk : L.take (i + 1) = L.take i ++ [L[i]] := List.take_succ_eq_append_getElem hin
        have hsi := Lib.hid (hsm.out L[i] hmem)
        generalize L[i] = x at *
        have hzi : (0 : Int) ≤ i := by omega
        have hzn : (i : Int) < L.length := by omega
        replace hxi := Lib.hid hxi
        replace htk := Lib.hid htk
        replace hmem := Lib.hid hmem
        cases hsb : smallB x with
        | true =>
          have hG := Lib.hid (show ∀ s ∈ L.take (i + 1), smallB s = true by
            intro s hs
            rw [htk.out] at hs
            rcases List.mem_append.1 hs with h | h
            · exact hP.out s h
            · simp at h; rw [h]; exact hsb)
          rw [hsb] at hsi
          replace hsb := Lib.hid hsb
          go_wp2_with (go_at_call 112; refine (hsi.out _).mono ?_; rintro e w' ⟨rfl, rfl⟩)
          go_roundg (L.length - (i + 1))
          case measure => have := hi.out; omega
          case rel => exact ⟨i + 1, rfl, by go_num, by have := hi.out; omega, hG.out⟩
        | false =>
          have hnF : R = 12 := by
            rw [hR.out, if_pos]
            rw [hNB.out, Bool.and_eq_false_iff]
            left
            rw [List.all_eq_false]
            exact ⟨x, hmem.out, by simp [hsb]⟩
          subst hnF
          rw [hsb] at hsi
          replace hsb := Lib.hid hsb
          go_wp2_with (go_at_call 112; refine (hsi.out _).mono ?_; rintro e w' ⟨rfl, rfl⟩)
          go_ret
          exact ⟨rfl, hb⟩
      · have hAll : L.all smallB = true := by
          rw [List.all_eq_true]
          intro s hs
          refine hP.out s ?_
          rwa [List.take_of_length_le (by omega)]
        have hNB2 := hNB.out
        rw [hAll, Bool.true_and] at hNB2
        replace hNB2 := Lib.hid hNB2
        clear hAll hNB
        go_wp2_with fail
        go_loopg [5] g.names.length (fun gk s5 wr2 => ∃ i : Nat, wr2 = wr ∧ s5 = .int .i64 i ∧ i + gk = g.names.length ∧ ∀ s ∈ g.names.take i, capB s = true)
        case atStart => exact ⟨0, rfl, rfl, by omega, by simp⟩
        case round =>
          obtain ⟨i, rfl, rfl, hi, hP⟩ := hrel
          replace hi := Lib.hid hi
          replace hP := Lib.hid hP
          by_cases hin : i < g.names.length
          · have hxi : g.names[i]? = some g.names[i] := List.getElem?_eq_getElem hin
            obtain ⟨b, off, hA, hbt, x0⟩ := hga.names.get (i := i) (v := .string g.names[i]) (by simp [strs, hxi])
            dsimp only at hA
            subst hA
            have hmem := List.getElem_mem hin
            have htk : g.names.take (i + 1) = g.names.take i ++ [g.names[i]] := List.take_succ_eq_append_getElem hin
            have hsi := Lib.hid (hcap.out g.names[i] hmem)
            generalize g.names[i] = x at *
            have hzi : (0 : Int) ≤ i := by omega
            have hzn : (i : Int) < g.names.length := by omega
            replace hxi := Lib.hid hxi
            replace htk := Lib.hid htk
            replace hmem := Lib.hid hmem
            cases hsb : capB x with
            | true =>
              have hG := Lib.hid (show ∀ s ∈ g.names.take (i + 1), capB s = true by
                intro s hs
                rw [htk.out] at hs
                rcases List.mem_append.1 hs with h | h
                · exact hP.out s h
                · simp at h; rw [h]; exact hsb)
              rw [hsb] at hsi
              replace hsb := Lib.hid hsb
              go_wp2_with (go_at_call 113; refine (hsi.out _).mono ?_; rintro e w' ⟨rfl, rfl⟩)
              go_roundg (g.names.length - (i + 1))
              case measure => have := hi.out; omega
              case rel => exact ⟨i + 1, rfl, by go_num, by have := hi.out; omega, hG.out⟩
            | false =>
              have hnF : R = 12 := by
                rw [hR.out, if_pos]
                rw [hNB2.out, List.all_eq_false]
                exact ⟨x, hmem.out, by simp [hsb]⟩
              subst hnF
              rw [hsb] at hsi
              replace hsb := Lib.hid hsb
              go_wp2_with (go_at_call 113; refine (hsi.out _).mono ?_; rintro e w' ⟨rfl, rfl⟩)
              go_ret
              exact ⟨rfl, hb⟩
          · have hAll : g.names.all capB = true := by
              rw [List.all_eq_true]
              intro s hs
              refine hP.out s ?_
              rwa [List.take_of_length_le (by omega)]
            have hR2 : R = if diffB g = false then 8 else 0 := by rw [hR.out, if_neg (by rw [hNB2.out, hAll]; simp)]
            rw [hDB.out] at hR2
            have hcc := bcell (Below.refl wr.heap.size wr)
            have hq0 := q0.lt
            cases hd1 : decide L.Nodup with
            | false =>
              rw [hd1, Bool.false_and, if_pos rfl] at hR2
              subst hR2
              have hT := Lib.hid (fun (w : World) (hrd) => rtwice_any A L.length c L w hrd (by omega))
              rw [hd1] at hT
              replace hd1 := Lib.hid hd1
              go_wp2_with (go_at_call 114; refine (hT.out _ hrd).mono ?_; rintro e w1 ⟨rfl, hb1⟩)
              go_ret
              exact ⟨rfl, bStep hb hb1⟩
            | true =>
              rw [hd1, Bool.true_and] at hR2
              have hT := Lib.hid (fun (w : World) (hrd) => rtwice_any A L.length c L w hrd (by omega))
              have hT2 := Lib.hid (fun (w : World) (hrd) => rtwice_any na g.names.length nc g.names w hrd (by omega))
              rw [hd1] at hT
              replace hd1 := Lib.hid hd1
              cases hd2 : decide g.names.Nodup with
              | false =>
                rw [hd2, if_pos rfl] at hR2
                subst hR2
                rw [hd2] at hT2
                replace hd2 := Lib.hid hd2
                go_wp2_with fail
                refine (hT.out _ hrd).mono ?_
                rintro e w1 ⟨rfl, hb1⟩
                have q1 := (q0.step hb1).cell 3
                have hn1 := (hga.names.below (hb1.mono hb.size)).mono (Nat.le_trans hb.size hb1.size)
                simp only [List.getElem?_toArray, List.getElem?_cons_zero, List.getElem?_cons_succ] at q1
                go_wp2_with fail
                refine (hT2.out _ hn1).mono ?_
                rintro e w2 ⟨rfl, hb2⟩
                go_wp2_with fail
                go_ret
                exact ⟨rfl, bStep (bStep hb hb1) hb2⟩
              | true =>
                rw [hd2, if_neg (by simp)] at hR2
                subst hR2
                rw [hd2] at hT2
                replace hd2 := Lib.hid hd2
                go_wp2_with fail
                refine (hT.out _ hrd).mono ?_
                rintro e w1 ⟨rfl, hb1⟩
                have q1 := (q0.step hb1).cell 3
                have hn1 := (hga.names.below (hb1.mono hb.size)).mono (Nat.le_trans hb.size hb1.size)
                simp only [List.getElem?_toArray, List.getElem?_cons_zero, List.getElem?_cons_succ] at q1
                go_wp2_with fail
                refine (hT2.out _ hn1).mono ?_
                rintro e w2 ⟨rfl, hb2⟩
                go_wp2_with fail
                go_ret
                exact ⟨rfl, bStep (bStep hb hb1) hb2⟩
end Go.Proofs.YtnnkfgekiaaehaaGreat

/- The reference 09: symbols, Check. -/
namespace Go.Proofs.YtnnkfgekiaaehaaGreat
open Go.ChangeShapes Go.WideShapes Go.ChangeAt Go.RowKit
set_option linter.unusedVariables false

/-- the grammar lies in its box, and where it was; what was there is there -/
def GB (w : World) (g : Gr) (a : GA) (W : World) : Prop := Blk W w.heap.size 25 (gcells g a) ∧ GrAt W w.heap.size g a ∧ Below w.heap.size w W
theorem GB.start {w : World} {g : Gr} {a : GA} (h : GrAt w w.heap.size g a) : GB w g a (w.alloc (.cells (gcells g a) 25)) :=
  ⟨Blk.new w 25 _, h.below (bAlc (Below.refl w.heap.size w) _), bAlc (Below.refl w.heap.size w) _⟩
theorem GB.step {w : World} {g : Gr} {a : GA} {W W1 : World} (h : GB w g a W) (hb : Below W.heap.size W W1) : GB w g a W1 :=
  ⟨h.1.step hb, h.2.1.below (hb.mono h.2.2.size), bStep h.2.2 hb⟩
theorem GB.alloc {w : World} {g : Gr} {a : GA} {W : World} (h : GB w g a W) (o : Obj) : GB w g a (W.alloc o) := h.step ((Below.refl _ _).alloc (Nat.le_refl _) o)
theorem GB.drewN {w : World} {g : Gr} {a : GA} {W : World} (h : GB w g a W) (n : Nat) : GB w g a (W.drewN n) := h.step (bDrwN' W n)
theorem GB.lt {w : World} {g : Gr} {a : GA} {W : World} (h : GB w g a W) : w.heap.size < W.heap.size := h.1.lt
theorem GB.far {w : World} {g : Gr} {a : GA} {W : World} (h : GB w g a W) (p : Addr) (v : Value) (hp : w.heap.size < p.block) : GB w g a (W.setCell p v) :=
  ⟨h.1.far (by omega) v, h.2.1.below ((Below.refl _ _).setCell (by omega) v), bSet h.2.2 p v (by omega)⟩
theorem GB.cells {w : World} {g : Gr} {a : GA} {W : World} (h : GB w g a W) : W.cell? ⟨w.heap.size, 0, none⟩ = some (.int .i64 g.k) ∧ W.cell? ⟨w.heap.size, 1, none⟩ = some (.slice a.ta g.toks.length a.tc) ∧ W.cell? ⟨w.heap.size, 2, none⟩ = some (.string g.sep) ∧
    W.cell? ⟨w.heap.size, 3, none⟩ = some (.slice a.na g.names.length a.nc) ∧ W.cell? ⟨w.heap.size, 4, none⟩ = some (.int .i64 g.start) ∧ W.cell? ⟨w.heap.size, 5, none⟩ = some (.slice a.pa g.prods.length a.pc) :=
  ⟨h.1.cell 0, h.1.cell 1, h.1.cell 2, h.1.cell 3, h.1.cell 4, h.1.cell 5⟩

def syB (g : Gr) (s : Int) : Bool := tmB g s || ntB g s
def prB (g : Gr) (p : Pr) : Bool := ntB g p.left && p.right.all (syB g)
def syTo (g : Gr) (i : Nat) : Bool := ntB g g.start && (g.prods.take i).all (prB g)
theorem syTo_all (g : Gr) : syTo g g.prods.length = symB g := by
  unfold syTo symB
  rw [List.take_of_length_le (Nat.le_refl _)]
  rfl

theorem prIdx_none (ps : List Pr) (s : Int) : (prIdx ps s ps.length).length = 0 ↔ ps.any (fun p => decide (p.left = s)) = false := by
  rw [List.length_eq_zero_iff, List.any_eq_false]
  unfold prIdx
  rw [List.map_eq_nil_iff, List.filter_eq_nil_iff]
  constructor
  · intro h p hp
    obtain ⟨i, hi, rfl⟩ := List.mem_iff_getElem.1 hp
    have := h i (List.mem_range.2 hi)
    simpa [List.getD_eq_getElem?_getD, List.getElem?_eq_getElem hi] using this
  · intro h i hi
    have hi := List.mem_range.1 hi
    have := h ps[i] (List.getElem_mem hi)
    simpa [List.getD_eq_getElem?_getD, List.getElem?_eq_getElem hi] using this
theorem ord_iff (g : Gr) : ordB g = true ↔ ∀ (j : Nat) (p q : Pr), g.prods[j]? = some p → g.prods[j + 1]? = some q → p.left ≤ q.left := by
  unfold ordB
  rw [List.all_eq_true]
  constructor
  · intro h j p q hp hq
    have hlt := (List.getElem?_eq_some_iff.1 hq).1
    have := h (j + 1) (List.mem_range.2 hlt)
    simpa [List.getD_eq_getElem?_getD, hp, hq] using this
  · intro h i hi
    have hi := List.mem_range.1 hi
    cases i with
    | zero => simp
    | succ j =>
      have hp : g.prods[j]? = some g.prods[j] := List.getElem?_eq_getElem (by omega)
      have hq : g.prods[j + 1]? = some g.prods[j + 1] := List.getElem?_eq_getElem hi
      have := h j _ _ hp hq
      simpa [List.getD_eq_getElem?_getD, hp, hq] using this

set_option maxHeartbeats 2000000 in
theorem rsymbols_any (g : Gr) (a : GA) (w : World) (hg : GrAt w w.heap.size g a) (ht : g.toks.length ≤ 100000) (hn : g.names.length ≤ 100000) (hp : g.prods.length ≤ 100000) (hr : ∀ p ∈ g.prods, p.right.length ≤ 1000000) :
    Calls Tryz.prog 78 #[gval g a] w fun e w' => e = .returned (.int .i64 (if symB g = false then 14 else if ordB g = false then 9 else if compB g = false then 7 else 0)) ∧ Below w.heap.size w w' := by
  obtain ⟨ta, tc, na, nc, pa, pc⟩ := a
  obtain ⟨R, hR⟩ : ∃ R : Int, R = if symB g = false then 14 else if ordB g = false then 9 else if compB g = false then 7 else 0 := ⟨_, rfl⟩
  rw [← hR]
  replace hR := Lib.hid hR
  have hG0 := GB.start hg
  clear hg
  have hT := Lib.hid (fun s w => rterminal_any g ⟨ta, tc, na, nc, pa, pc⟩ s w (by omega))
  have hN := Lib.hid (fun s w => rnonterm_any g ⟨ta, tc, na, nc, pa, pc⟩ s w (by omega))
  unfold gval at *
  unfold gcells at hT hN hG0 ⊢
  dsimp only at *
  go_enter Tryz.func78, Tryz.ntmps78
  go_wp2_with fail
  refine (hN.out _ _).mono ?_
  rintro e w1 ⟨rfl, hb1⟩
  have hG := hG0.step hb1
  clear hG0 hb1
  have hs0 : ntB g g.start = syTo g 0 := by simp [syTo]
  rw [hs0]
  replace hs0 := Lib.hid hs0
  go_wp2_with fail
  go_loopg [3, 4] g.prods.length (fun gk s3 s4 wr => ∃ i : Nat, s3 = .bool (syTo g i) ∧ s4 = .int .i64 i ∧ i + gk = g.prods.length ∧ GB w g ⟨ta, tc, na, nc, pa, pc⟩ wr)
  case atStart => exact ⟨0, rfl, rfl, by omega, hG⟩
  case round =>
    clear hG
    obtain ⟨i, rfl, rfl, hi, hG⟩ := hrel
    replace hi := Lib.hid hi
    obtain ⟨c0, c1, c2, c3, c4, c5⟩ := hG.cells
    dsimp only at c1 c3 c5
    by_cases hin : i < g.prods.length
    · have hxi : g.prods[i]? = some g.prods[i] := List.getElem?_eq_getElem hin
      obtain ⟨b, off, hA, hbt, x0, RA, rc, x1, hx2, hx3, hx4⟩ := hG.2.1.prods.get hxi
      dsimp only at hA
      subst hA
      have hmem := List.getElem_mem hin
      have hrl := hr _ hmem
      have htk : g.prods.take (i + 1) = g.prods.take i ++ [g.prods[i]] := List.take_succ_eq_append_getElem hin
      have hsucc : syTo g (i + 1) = (syTo g i && prB g g.prods[i]) := by unfold syTo; rw [htk, List.all_append, List.all_cons, List.all_nil, Bool.and_true, Bool.and_assoc]
      clear htk
      generalize g.prods[i] = p at *
      replace hxi := Lib.hid hxi
      replace hsucc := Lib.hid hsucc
      replace hmem := Lib.hid hmem
      have hzi : (0 : Int) ≤ i := by omega
      have hzn : (i : Int) < g.prods.length := by omega
      generalize syTo g i = ok at *
      go_upto_region 6 with (fail)
      have hG1 := hG.alloc (.cells #[.int .i64 p.left, .slice RA p.right.length rc] 47)
      have hP1 := Blk.new wr 47 #[.int .i64 p.left, .slice RA p.right.length rc]
      have hwlt := hG.lt
      have hRr : ∀ W, Below w.heap.size wr W → Rd1 W w.heap.size RA p.right.length (ints p.right) := fun W h => hx2.below h
      have hbW : Below w.heap.size wr (wr.alloc (.cells #[.int .i64 p.left, .slice RA p.right.length rc] 47)) := (Below.refl _ _).alloc hG.2.2.size _
      obtain ⟨wq, hwq⟩ : ∃ wq, wq = wr.alloc (.cells #[.int .i64 p.left, .slice RA p.right.length rc] 47) := ⟨_, rfl⟩
      rw [← hwq] at hG1 hP1 hbW ⊢
      replace hRr := Lib.hid hRr
      have hlt2 : wr.heap.size < wq.heap.size := by rw [hwq]; simp
      clear hwq
      clear c0 c1 c2 c3 c4 c5 x0 x1 hx2 hG
      obtain ⟨c0, c1, c2, c3, c4, c5⟩ := hG1.cells
      dsimp only at c1 c3 c5
      have p0 := hP1.cell 0
      have p1 := hP1.cell 1
      simp only [List.getElem?_toArray, List.getElem?_cons_zero, List.getElem?_cons_succ] at p0 p1
      go_cut [3] (fun s3 wx => s3 = .bool (ok && ntB g p.left) ∧ GB w g ⟨ta, tc, na, nc, some ⟨b, off, none⟩, pc⟩ wx ∧ Blk wx wr.heap.size 47 #[.int .i64 p.left, .slice RA p.right.length rc] ∧ Below w.heap.size wr wx ∧ wr.heap.size < wx.heap.size)
      case first =>
        cases ok with
        | false =>
          go_wp2_with fail
          go_meet
          exact ⟨rfl, hG1, hP1, hbW, hlt2⟩
        | true =>
          go_wp2_with fail
          refine (hN.out _ _).mono ?_
          rintro e w2 ⟨rfl, hb2⟩
          go_wp2_with fail
          go_meet
          exact ⟨rfl, hG1.step hb2, hP1.step hb2, hbW.trans (hb2.mono hG1.2.2.size), Nat.lt_of_lt_of_le hlt2 hb2.size⟩
      case rest =>
        clear hG1 hP1 hbW hlt2 c0 c1 c2 c3 c4 c5 p0 p1
        obtain ⟨rfl, hG, hP1, hbW, hlt2⟩ := hcut
        generalize hcc : (ok && ntB g p.left) = c
        replace hcc := Lib.hid hcc
        go_wp2_with fail
        go_loopg [3, 6] p.right.length (fun gk s3 s6 wx => ∃ k : Nat, s3 = .bool (c && (p.right.take k).all (syB g)) ∧ s6 = .int .i64 k ∧ k + gk = p.right.length ∧ GB w g ⟨ta, tc, na, nc, some ⟨b, off, none⟩, pc⟩ wx ∧ Blk wx wr.heap.size 47 #[.int .i64 p.left, .slice RA p.right.length rc] ∧ Below w.heap.size wr wx)
        case atStart => exact ⟨0, by simp, rfl, by omega, hG, hP1, hbW⟩
        case round =>
          clear hG hP1 hbW hlt2
          obtain ⟨k, rfl, rfl, hk, hG, hP1, hbW⟩ := hrel
          replace hk := Lib.hid hk
          obtain ⟨c0, c1, c2, c3, c4, c5⟩ := hG.cells
          dsimp only at c1 c3 c5
          have p0 := hP1.cell 0
          have p1 := hP1.cell 1
          simp only [List.getElem?_toArray, List.getElem?_cons_zero, List.getElem?_cons_succ] at p0 p1
          by_cases hkn : k < p.right.length
          · have hsk : p.right[k]? = some p.right[k] := List.getElem?_eq_getElem hkn
            obtain ⟨b2, off2, rfl, hbt2, y0⟩ := (hRr.out _ hbW).get (i := k) (v := .int .i64 p.right[k]) (by simp [ints, hsk])
            have htk : p.right.take (k + 1) = p.right.take k ++ [p.right[k]] := List.take_succ_eq_append_getElem hkn
            have hsucc2 : (c && (p.right.take (k + 1)).all (syB g)) = ((c && (p.right.take k).all (syB g)) && syB g p.right[k]) := by rw [htk, List.all_append, List.all_cons, List.all_nil, Bool.and_true, Bool.and_assoc]
            clear htk
            generalize p.right[k] = s at *
            replace hsk := Lib.hid hsk
            replace hsucc2 := Lib.hid hsucc2
            have hzk : (0 : Int) ≤ k := by omega
            have hzkn : (k : Int) < p.right.length := by omega
            generalize hd : (c && (p.right.take k).all (syB g)) = d
            replace hd := Lib.hid hd
            have z0 := cell_kept c0
            have z1 := cell_kept c1
            have z2 := cell_kept c2
            have z3 := cell_kept c3
            have z4 := cell_kept c4
            have z5 := cell_kept c5
            have zp := cell_kept p1
            have zy := cell_kept y0
            cases d with
            | false =>
              go_wp2_with fail
              refine wp_region_kept (by kernel_rfl) (by kernel_rfl) ?_
              repeat (go_big_quiet_step (fail))
              refine wpQuiet_nil ?_
              rintro _ ⟨q, rfl⟩
              have hqk := q.kept
              generalize q.world = w2 at hqk
              clear z0 z1 z2 z3 z4 z5 zp zy
              go_wp2_with fail
              go_roundg (p.right.length - (k + 1))
              case measure => have := hk.out; omega
              case rel => exact ⟨k + 1, by rw [hsucc2.out, hd.out]; rfl, by go_num, by have := hk.out; omega, hG.step hqk, hP1.step hqk, hbW.trans (hqk.mono hG.2.2.size)⟩
            | true =>
              cases ht1 : tmB g s with
              | true =>
                have hT2 := Lib.hid (hT.out s)
                rw [ht1] at hT2
                have hsy : syB g s = true := by unfold syB; rw [ht1]; rfl
                replace ht1 := Lib.hid ht1
                go_wp2_with fail
                refine wp_region_kept (by kernel_rfl) (by kernel_rfl) ?_
                repeat (go_big_quiet_step ((go_at_call 115; exact Calls.kept_by (hT2.out _))))
                refine wpQuiet_nil ?_
                rintro _ ⟨q, rfl⟩
                have hqk := q.kept
                generalize q.world = w2 at hqk
                clear z0 z1 z2 z3 z4 z5 zp zy
                go_wp2_with fail
                go_roundg (p.right.length - (k + 1))
                case measure => have := hk.out; omega
                case rel => exact ⟨k + 1, by rw [hsucc2.out, hd.out, hsy]; rfl, by go_num, by have := hk.out; omega, hG.step hqk, hP1.step hqk, hbW.trans (hqk.mono hG.2.2.size)⟩
              | false =>
                have hT2 := Lib.hid (hT.out s)
                have hN2 := Lib.hid (hN.out s)
                rw [ht1] at hT2
                have hsy : syB g s = ntB g s := by unfold syB; rw [ht1]; rfl
                replace ht1 := Lib.hid ht1
                generalize hnn : ntB g s = nn at *
                replace hnn := Lib.hid hnn
                go_wp2_with fail
                refine wp_region_kept (by kernel_rfl) (by kernel_rfl) ?_
                repeat (go_big_quiet_step ((first | (go_at_call 115; exact Calls.kept_by (hT2.out _)) | (go_at_call 98; exact Calls.kept_by (hN2.out _)))))
                refine wpQuiet_nil ?_
                rintro _ ⟨q, rfl⟩
                have hqk := q.kept
                generalize q.world = w2 at hqk
                clear z0 z1 z2 z3 z4 z5 zp zy
                go_wp2_with fail
                go_roundg (p.right.length - (k + 1))
                case measure => have := hk.out; omega
                case rel => exact ⟨k + 1, by rw [hsucc2.out, hd.out, hsy]; rfl, by go_num, by have := hk.out; omega, hG.step hqk, hP1.step hqk, hbW.trans (hqk.mono hG.2.2.size)⟩
          · have hall : (p.right.take k).all (syB g) = p.right.all (syB g) := by rw [List.take_of_length_le (by omega)]
            go_wp2_with fail
            go_roundg (g.prods.length - (i + 1))
            case measure => have := hi.out; omega
            case rel => exact ⟨i + 1, by rw [hsucc.out, hall, ← hcc.out]; simp [prB, Bool.and_assoc], by go_num, by have := hi.out; omega, hG⟩
    · have hall : syTo g i = symB g := by rw [← syTo_all, show i = g.prods.length by have := hi.out; omega]
      cases hsy : symB g with
      | false =>
        have hR1 : R = 14 := by rw [hR.out, if_pos hsy]
        subst hR1
        rw [hall, hsy]
        go_wp2_with fail
        go_ret
        exact ⟨rfl, hG.2.2⟩
      | true =>
        have hR1 : R = if ordB g = false then 9 else if compB g = false then 7 else 0 := by rw [hR.out, if_neg (by rw [hsy]; simp)]
        have hO := Lib.hid (ord_iff g)
        generalize ordB g = ob at hO hR1
        generalize hcb : compB g = cb at hR1
        replace hcb := Lib.hid hcb
        rw [hall, hsy]
        replace hR1 := Lib.hid hR1
        clear hall
        replace hsy := Lib.hid hsy
        go_wp2_with fail
        go_loopg [7] g.prods.length (fun gk s7 wx => ∃ j : Nat, s7 = .int .i64 (j + 1 : Nat) ∧ (j + gk = g.prods.length) ∧ GB w g ⟨ta, tc, na, nc, pa, pc⟩ wx ∧ ∀ (k : Nat) (p q : Pr), k < j → g.prods[k]? = some p → g.prods[k + 1]? = some q → p.left ≤ q.left)
        case atStart => exact ⟨0, rfl, by omega, hG, by intro k p q h; omega⟩
        case round =>
          clear hG c0 c1 c2 c3 c4 c5
          obtain ⟨j, rfl, hj, hG, hP⟩ := hrel
          replace hj := Lib.hid hj
          replace hP := Lib.hid hP
          obtain ⟨c0, c1, c2, c3, c4, c5⟩ := hG.cells
          dsimp only at c1 c3 c5
          by_cases hjn : j + 1 < g.prods.length
          · have hxj : g.prods[j]? = some g.prods[j] := List.getElem?_eq_getElem (by omega)
            have hxi : g.prods[j + 1]? = some g.prods[j + 1] := List.getElem?_eq_getElem hjn
            obtain ⟨b, off, hA, hbt, x0, RA, rc, x1, hx2, hx3, hx4⟩ := hG.2.1.prods.get hxi
            dsimp only at hA
            subst hA
            obtain ⟨b', off', hA', hbt', y0, RA', rc', y1, hy2, hy3, hy4⟩ := hG.2.1.prods.get hxj
            cases hA'
            generalize g.prods[j] = p at *
            generalize g.prods[j + 1] = q at *
            replace hxi := Lib.hid hxi
            replace hxj := Lib.hid hxj
            have zI : ((j + 1 : Nat) : Int) - 1 = (j : Int) := by omega
            have zw : IntKind.i64.wrap (j : Int) = j := IntWalk.i64_in _ (by omega)
            have z2 : (0 : Int) ≤ j := by omega
            have z3 : ((j + 1 : Nat) : Int) < g.prods.length := by omega
            have z5 : (j : Int) < g.prods.length := by omega
            by_cases hle : q.left < p.left
            · have hoF : ob = false := by
                cases ob
                · rfl
                · have := hO.out.1 rfl j p q hxj.out hxi.out; omega
              subst hoF
              have hR2 := hR1.out
              rw [if_pos rfl] at hR2
              subst hR2
              go_wp2_with fail
              go_quiet (fail)
              go_wp2_with fail
              go_ret
              exact ⟨rfl, bDrwN hG.2.2 _⟩
            · have hGG := Lib.hid (show ∀ (k : Nat) (p q : Pr), k < j + 1 → g.prods[k]? = some p → g.prods[k + 1]? = some q → p.left ≤ q.left by
                intro k p' q' hk hp' hq'
                by_cases e : k = j
                · subst e
                  rw [hxj.out] at hp'; rw [hxi.out] at hq'
                  cases hp'; cases hq'; omega
                · exact hP.out k p' q' (by omega) hp' hq')
              go_wp2_with fail
              go_quiet (fail)
              go_wp2_with fail
              go_roundg (g.prods.length - (j + 1))
              case measure => have := hj.out; omega
              case rel => exact ⟨j + 1, by go_num, by have := hj.out; omega, hG.drewN _, hGG.out⟩
          · have hoT : ob = true := by
              rw [hO.out]
              intro k p q hp' hq'
              have := (List.getElem?_eq_some_iff.1 hq').1
              exact hP.out k p q (by omega) hp' hq'
            subst hoT
            have hR2 := hR1.out
            rw [if_neg (by simp)] at hR2
            replace hR2 := Lib.hid hR2
            go_wp2_with fail
            go_loopg [8] g.names.length (fun gk s8 wx => ∃ k : Nat, s8 = .int .i64 k ∧ (k + gk = g.names.length) ∧ GB w g ⟨ta, tc, na, nc, pa, pc⟩ wx ∧ ∀ i : Nat, i < k → g.prods.any (fun p => decide (p.left = 16 + (i : Int))) = true)
            case atStart => exact ⟨0, rfl, by omega, hG, by intro i h; omega⟩
            case round =>
              clear hG c0 c1 c2 c3 c4 c5
              obtain ⟨k, rfl, hk, hG, hK⟩ := hrel
              replace hk := Lib.hid hk
              replace hK := Lib.hid hK
              obtain ⟨c0, c1, c2, c3, c4, c5⟩ := hG.cells
              dsimp only at c1 c3 c5
              by_cases hkn : k < g.names.length
              · have hPr := Lib.hid (fun (w : World) (hg : GrAt w w.heap.size g ⟨ta, tc, na, nc, pa, pc⟩) => rprods_any g ⟨ta, tc, na, nc, pa, pc⟩ (16 + (k : Int)) w hg hp)
                unfold gval at hPr
                unfold gcells at hPr
                dsimp only at hPr
                have hnone := Lib.hid (prIdx_none g.prods (16 + (k : Int)))
                have hcb2 := Lib.hid (show g.prods.any (fun p => decide (p.left = 16 + (k : Int))) = false → cb = false from fun h => by
                  rw [← hcb.out]
                  unfold compB
                  rw [List.all_eq_false]
                  exact ⟨k, List.mem_range.2 hkn, by rw [h]; simp⟩)
                have zw : IntKind.i64.wrap (16 + (k : Int)) = 16 + (k : Int) := IntWalk.i64_in _ (by omega)
                go_wp2_with fail
                refine (hPr.out _ (hG.2.1.mono hG.2.2.size)).mono ?_
                rintro e w2 ⟨v, rfl, ho, hb2⟩
                obtain ⟨A, c, rfl, hd1, hk1, hm1, hg1⟩ := ho.reads
                have hil : (ints (prIdx g.prods (16 + (k : Int)) g.prods.length)).length = (prIdx g.prods (16 + (k : Int)) g.prods.length).length := by simp [ints]
                rw [hil]
                clear ho hd1 hk1 hil
                generalize (prIdx g.prods (16 + (k : Int)) g.prods.length).length = m at *
                by_cases hm : m = 0
                · have hcF : cb = false := hcb2.out (hnone.out.1 hm)
                  have hR3 : R = 7 := by rw [hR2.out, if_pos hcF]
                  subst hR3
                  have hmb : ((m : Int) == 0) = true := by simp [hm]
                  clear hm
                  go_wp2_with fail
                  go_ret
                  exact ⟨rfl, bStep hG.2.2 hb2⟩
                · have hmb : ((m : Int) == 0) = false := by simp [hm]
                  have hKK := Lib.hid (show ∀ i : Nat, i < k + 1 → g.prods.any (fun p => decide (p.left = 16 + (i : Int))) = true by
                    intro i hi
                    by_cases e : i = k
                    · subst e
                      cases hany : g.prods.any (fun p => decide (p.left = 16 + (i : Int)))
                      · exact absurd (hnone.out.2 hany) hm
                      · rfl
                    · exact hK.out i (by omega))
                  clear hm
                  go_wp2_with fail
                  go_roundg (g.names.length - (k + 1))
                  case measure => have := hk.out; omega
                  case rel => exact ⟨k + 1, by go_num, by have := hk.out; omega, hG.step hb2, hKK.out⟩
              · have hcT : cb = true := by
                  rw [← hcb.out]
                  unfold compB
                  rw [List.all_eq_true]
                  intro i hi
                  exact hK.out i (by have := List.mem_range.1 hi; omega)
                have hR3 : R = 0 := by rw [hR2.out, if_neg (by rw [hcT]; simp)]
                subst hR3
                go_wp2_with fail
                go_ret
                exact ⟨rfl, hG.2.2⟩
end Go.Proofs.YtnnkfgekiaaehaaGreat

/- The reference 09: Check. -/
namespace Go.Proofs.YtnnkfgekiaaehaaGreat
open Go.ChangeShapes Go.WideShapes Go.ChangeAt Go.RowKit
set_option linter.unusedVariables false

/-- a grammar within the reach of the statements -/
structure Small (g : Gr) : Prop where
  t : g.toks.length ≤ 100000
  n : g.names.length ≤ 100000
  p : g.prods.length ≤ 100000
  r : ∀ p ∈ g.prods, p.right.length ≤ 1000000

theorem gchk_1 {g : Gr} (h : g.k < 1 ∨ 4 < g.k) : gchk g = 2 := by unfold gchk; rw [if_pos h]
theorem gchk_2 {g : Gr} (h : ¬ (g.k < 1 ∨ 4 < g.k)) (h2 : fullB g = false) : gchk g = 6 := by unfold gchk; rw [if_neg h, if_pos h2]
theorem gchk_3 {g : Gr} (h : ¬ (g.k < 1 ∨ 4 < g.k)) (h2 : fullB g = true) (h3 : shortB g = true) : gchk g = 5 := by unfold gchk; rw [if_neg h, if_neg (by simp [h2]), if_pos h3]
theorem gchk_4 {g : Gr} (h : ¬ (g.k < 1 ∨ 4 < g.k)) (h2 : fullB g = true) (h3 : shortB g = false) (h4 : nameB g = false) : gchk g = 12 := by unfold gchk; rw [if_neg h, if_neg (by simp [h2]), if_neg (by simp [h3]), if_pos h4]
theorem gchk_5 {g : Gr} (h : ¬ (g.k < 1 ∨ 4 < g.k)) (h2 : fullB g = true) (h3 : shortB g = false) (h4 : nameB g = true) (h5 : diffB g = false) : gchk g = 8 := by
  unfold gchk; rw [if_neg h, if_neg (by simp [h2]), if_neg (by simp [h3]), if_neg (by simp [h4]), if_pos h5]
theorem gchk_6 {g : Gr} (h : ¬ (g.k < 1 ∨ 4 < g.k)) (h2 : fullB g = true) (h3 : shortB g = false) (h4 : nameB g = true) (h5 : diffB g = true) :
    gchk g = if symB g = false then 14 else if ordB g = false then 9 else if compB g = false then 7 else 0 := by
  unfold gchk; rw [if_neg h, if_neg (by simp [h2]), if_neg (by simp [h3]), if_neg (by simp [h4]), if_neg (by simp [h5])]

set_option maxHeartbeats 2000000 in
theorem rcheckg_any (g : Gr) (a : GA) (w : World) (hg : GrAt w w.heap.size g a) (hs : Small g) : Calls Tryz.prog 39 #[gval g a] w fun e w' => e = .returned (.int .i64 (gchk g)) ∧ Below w.heap.size w w' := by
  obtain ⟨ta, tc, na, nc, pa, pc⟩ := a
  obtain ⟨R, hR⟩ : ∃ R : Int, R = gchk g := ⟨_, rfl⟩
  rw [← hR]
  replace hR := Lib.hid hR
  have hs1 := hs.t
  have hs2 := hs.n
  have hs3 := hs.p
  have hs4 := Lib.hid hs.r
  clear hs
  have hF := Lib.hid (fun w h => rfull_any g ⟨ta, tc, na, nc, pa, pc⟩ w h (by omega) (by omega) (by omega) hs4.out)
  have hN := Lib.hid (fun w h => rnamed_any g ⟨ta, tc, na, nc, pa, pc⟩ w h hs1 hs2)
  have hY := Lib.hid (fun w h => rsymbols_any g ⟨ta, tc, na, nc, pa, pc⟩ w h hs1 hs2 hs3 hs4.out)
  have hG0 := GB.start hg
  clear hg
  unfold gval at *
  unfold gcells at hF hN hY hG0 ⊢
  dsimp only at *
  by_cases k1 : g.k < 1
  · have hR1 : R = 2 := hR.out.trans (gchk_1 (.inl k1))
    subst hR1
    go_enter Tryz.func39, Tryz.ntmps39
    go_wp2_with fail
    go_ret
    exact ⟨rfl, hG0.2.2⟩
  by_cases k2 : 4 < g.k
  · have hR1 : R = 2 := hR.out.trans (gchk_1 (.inr k2))
    subst hR1
    go_enter Tryz.func39, Tryz.ntmps39
    go_wp2_with fail
    go_ret
    exact ⟨rfl, hG0.2.2⟩
  have hk : ¬ (g.k < 1 ∨ 4 < g.k) := by omega
  replace hk := Lib.hid hk
  cases hf : fullB g with
  | false =>
    have hR1 : R = 6 := hR.out.trans (gchk_2 hk.out hf)
    subst hR1
    rw [hf] at hF
    replace hf := Lib.hid hf
    go_enter Tryz.func39, Tryz.ntmps39
    go_wp2_with fail
    refine (hF.out _ (hG0.2.1.mono hG0.2.2.size)).mono ?_
    rintro e w1 ⟨rfl, hb1⟩
    have hG := hG0.step hb1
    clear hG0 hb1
    rw [if_pos trivial]
    go_wp2_with fail
    go_ret
    exact ⟨rfl, hG.2.2⟩
  | true =>
    rw [hf] at hF
    cases hsh : shortB g with
    | true =>
      have hR1 : R = 5 := hR.out.trans (gchk_3 hk.out hf hsh)
      subst hR1
      replace hf := Lib.hid hf
      simp only [shortB, Bool.or_eq_true, decide_eq_true_eq] at hsh
      by_cases hs0 : g.toks.length = 0
      · have hsb : ((g.toks.length : Int) == 0) = true := by simp [hs0]
        clear hsh hs0
        go_enter Tryz.func39, Tryz.ntmps39
        go_wp2_with fail
        refine (hF.out _ (hG0.2.1.mono hG0.2.2.size)).mono ?_
        rintro e w1 ⟨rfl, hb1⟩
        have hG := hG0.step hb1
        clear hG0 hb1
        rw [if_neg (by simp)]
        obtain ⟨c0, c1, c2, c3, c4, c5⟩ := hG.cells
        dsimp only at c1 c3 c5
        go_wp2_with fail
        go_ret
        exact ⟨rfl, hG.2.2⟩
      · have hsb : ((g.toks.length : Int) == 0) = false := by simp [hs0]
        have hsc : ((g.names.length : Int) == 0) = true := by rcases hsh with h | h; · exact absurd h hs0
                                                              · simp [h]
        clear hsh hs0
        go_enter Tryz.func39, Tryz.ntmps39
        go_wp2_with fail
        refine (hF.out _ (hG0.2.1.mono hG0.2.2.size)).mono ?_
        rintro e w1 ⟨rfl, hb1⟩
        have hG := hG0.step hb1
        clear hG0 hb1
        rw [if_neg (by simp)]
        obtain ⟨c0, c1, c2, c3, c4, c5⟩ := hG.cells
        dsimp only at c1 c3 c5
        go_wp2_with fail
        go_ret
        exact ⟨rfl, hG.2.2⟩
    | false =>
      have hsh' := hsh
      simp only [shortB, Bool.or_eq_false_iff, decide_eq_false_iff_not] at hsh'
      have hsb : ((g.toks.length : Int) == 0) = false := by simpa using hsh'.1
      have hsc : ((g.names.length : Int) == 0) = false := by simpa using hsh'.2
      clear hsh'
      obtain ⟨E1, hE1⟩ : ∃ E : Int, E = if nameB g = false then 12 else if diffB g = false then 8 else 0 := ⟨_, rfl⟩
      rw [← hE1] at hN
      by_cases h0 : E1 = 0
      · have hn : nameB g = true := by
          cases h : nameB g
          · rw [h, if_pos rfl] at hE1; omega
          · rfl
        have hd : diffB g = true := by
          cases h : diffB g
          · rw [hn, h, if_neg (by simp), if_pos rfl] at hE1; omega
          · rfl
        have hR1 := hR.out.trans (gchk_6 hk.out hf hsh hn hd)
        rw [← hR1] at hY
        replace hf := Lib.hid hf
        replace hsh := Lib.hid hsh
        replace hn := Lib.hid hn
        replace hd := Lib.hid hd
        replace hR1 := Lib.hid hR1
        clear hE1
        subst h0
        go_enter Tryz.func39, Tryz.ntmps39
        go_wp2_with fail
        refine (hF.out _ (hG0.2.1.mono hG0.2.2.size)).mono ?_
        rintro e w1 ⟨rfl, hb1⟩
        have hG := hG0.step hb1
        clear hG0 hb1
        rw [if_neg (by simp)]
        obtain ⟨c0, c1, c2, c3, c4, c5⟩ := hG.cells
        dsimp only at c1 c3 c5
        go_wp2_with fail
        refine (hN.out _ (hG.2.1.mono hG.2.2.size)).mono ?_
        rintro e w2 ⟨rfl, hb2⟩
        have hG2 := hG.step hb2
        clear c0 c1 c2 c3 c4 c5 hG hb2
        obtain ⟨c0, c1, c2, c3, c4, c5⟩ := hG2.cells
        dsimp only at c1 c3 c5
        go_wp2_with fail
        refine (hY.out _ (hG2.2.1.mono hG2.2.2.size)).mono ?_
        rintro e w3 ⟨rfl, hb3⟩
        go_wp2_with fail
        go_ret
        exact ⟨rfl, bStep hG2.2.2 hb3⟩
      · have hR1 : R = E1 := by
          rw [hR.out, hE1]
          cases hn : nameB g
          · rw [gchk_4 hk.out hf hsh hn]; rfl
          · cases hd : diffB g
            · rw [gchk_5 hk.out hf hsh hn hd]; rfl
            · rw [hn, hd] at hE1; simp at hE1; exact absurd hE1 h0
        subst hR1
        have h0b : (R == 0) = false := by simp [h0]
        clear h0
        replace hf := Lib.hid hf
        replace hsh := Lib.hid hsh
        replace hE1 := Lib.hid hE1
        go_enter Tryz.func39, Tryz.ntmps39
        go_wp2_with fail
        refine (hF.out _ (hG0.2.1.mono hG0.2.2.size)).mono ?_
        rintro e w1 ⟨rfl, hb1⟩
        have hG := hG0.step hb1
        clear hG0 hb1
        rw [if_neg (by simp)]
        obtain ⟨c0, c1, c2, c3, c4, c5⟩ := hG.cells
        dsimp only at c1 c3 c5
        go_wp2_with fail
        refine (hN.out _ (hG.2.1.mono hG.2.2.size)).mono ?_
        rintro e w2 ⟨rfl, hb2⟩
        go_wp2_with fail
        go_ret
        exact ⟨rfl, bStep hG.2.2 hb2⟩
end Go.Proofs.YtnnkfgekiaaehaaGreat

/- slices.All over the productions of a grammar; grammar.prods. -/
namespace Go.Proofs.YtnnkfgekiaaehaaGreat
open Go.RowKit Go.Shelf
set_option linter.unusedVariables false
attribute [local go_sem] Oper.semAt_some

/-- a production with the place of its right side -/
structure PV where
  p : Pr
  ra : Option Addr
  rc : Nat
  deriving Inhabited
def PV.v (x : PV) : Value := .agg #[.int .i64 x.p.left, .slice x.ra x.p.right.length x.rc]
/-- what stands behind a production's value -/
def PVok (w : World) (B : Nat) (x : PV) : Prop := Rd1 w B x.ra x.p.right.length (ints x.p.right) ∧ x.p.right.length ≤ x.rc ∧ x.rc ≤ maxLen
/-- the productions with their places -/
def RdV (w : World) (B : Nat) (A : Option Addr) (n : Nat) (vs : List PV) : Prop :=
  vs.length = n ∧ (n = 0 ∨ ∃ b off, A = some ⟨b, off, none⟩ ∧ b < B ∧ ∀ (i : Nat) (x : PV), vs[i]? = some x → w.cell? ⟨b, off + i * 2, none⟩ = some (.int .i64 x.p.left) ∧ w.cell? ⟨b, off + i * 2 + 1, none⟩ = some (.slice x.ra x.p.right.length x.rc))
theorem RdP.vals {w : World} {B : Nat} {A : Option Addr} {n : Nat} {ps : List Pr} (h : RdP w B A n ps) : ∃ vs : List PV, vs.map PV.p = ps ∧ RdV w B A n vs ∧ ∀ x ∈ vs, PVok w B x := by
  rcases h.2 with h0 | ⟨b, off, rfl, hb, hc⟩
  · have : ps = [] := List.eq_nil_of_length_eq_zero (by rw [h.1]; exact h0)
    subst this
    exact ⟨[], rfl, ⟨h.1, .inl h0⟩, by simp⟩
  · have key : ∀ (i : Nat) (p : Pr), ps[i]? = some p → ∃ x : PV, x.p = p ∧ w.cell? ⟨b, off + i * 2, none⟩ = some (.int .i64 x.p.left) ∧ w.cell? ⟨b, off + i * 2 + 1, none⟩ = some (.slice x.ra x.p.right.length x.rc) ∧ PVok w B x := by
      intro i p hp
      obtain ⟨h1, RA, c, h2, h3, h4, h5⟩ := hc i p hp
      exact ⟨⟨p, RA, c⟩, rfl, h1, h2, h3, h4, h5⟩
    have : ∀ m, m ≤ ps.length → ∃ vs : List PV, vs.map PV.p = ps.take m ∧ (∀ (i : Nat) (x : PV), vs[i]? = some x → w.cell? ⟨b, off + i * 2, none⟩ = some (.int .i64 x.p.left) ∧ w.cell? ⟨b, off + i * 2 + 1, none⟩ = some (.slice x.ra x.p.right.length x.rc)) ∧ ∀ x ∈ vs, PVok w B x := by
      intro m
      induction m with
      | zero => intro _; exact ⟨[], by simp, by simp, by simp⟩
      | succ m ih =>
        intro hm
        obtain ⟨vs, h1, h2, h3⟩ := ih (by omega)
        have hl : vs.length = m := by have := congrArg List.length h1; simp at this; omega
        obtain ⟨x, hx, hx1, hx2, hx3⟩ := key m ps[m] (List.getElem?_eq_getElem (by omega))
        refine ⟨vs ++ [x], ?_, ?_, ?_⟩
        · rw [List.map_append, h1, List.take_succ_eq_append_getElem (by omega)]; simp [hx]
        · intro i y hy
          rw [List.getElem?_append] at hy
          split at hy
          · exact h2 i y hy
          · rename_i hge
            have : i = m := by have := (List.getElem?_eq_some_iff.1 hy).1; simp at this; omega
            subst this
            rw [hl, Nat.sub_self] at hy
            have : x = y := by simpa using hy
            subst this
            exact ⟨hx1, hx2⟩
        · intro y hy
          rcases List.mem_append.1 hy with hy | hy
          · exact h3 y hy
          · simp at hy; rw [hy]; exact hx3
    obtain ⟨vs, h1, h2, h3⟩ := this ps.length (Nat.le_refl _)
    rw [List.take_of_length_le (Nat.le_refl _)] at h1
    exact ⟨vs, h1, ⟨by rw [← h.1, ← h1]; simp, .inr ⟨b, off, rfl, hb, h2⟩⟩, h3⟩
theorem RdV.below {w w' : World} {B : Nat} {A : Option Addr} {n : Nat} {vs : List PV} (h : RdV w B A n vs) (hb : Below B w w') : RdV w' B A n vs := by
  refine ⟨h.1, ?_⟩
  rcases h.2 with h0 | ⟨b, off, rfl, hlt, hc⟩
  · exact .inl h0
  · refine .inr ⟨b, off, rfl, hlt, fun i x hx => ?_⟩
    obtain ⟨h1, h2⟩ := hc i x hx
    exact ⟨by rw [hb.cell (p := ⟨b, off + i * 2, none⟩) hlt]; exact h1, by rw [hb.cell (p := ⟨b, off + i * 2 + 1, none⟩) hlt]; exact h2⟩
theorem PVok.below {w w' : World} {B : Nat} {x : PV} (h : PVok w B x) (hb : Below B w w') : PVok w' B x := ⟨h.1.below hb, h.2⟩

/-- what has come when k rounds are over -/
def prUpto (vs : List PV) (k : Nat) : List (Nat × PV) := (List.range k).map fun j => (j, vs.getD j default)
theorem prUpto_succ (vs : List PV) (k : Nat) : prUpto vs (k + 1) = prUpto vs k ++ [(k, vs.getD k default)] := by simp [prUpto, List.range_succ]
theorem prUpto_length (vs : List PV) (k : Nat) : (prUpto vs k).length = k := by simp [prUpto]
def encP (x : Nat × PV) : Array Value := #[.int .i64 (x.1 : Int), .agg #[.int .i64 x.2.p.left, .slice x.2.ra x.2.p.right.length x.2.rc]]

set_option maxRecDepth 100000 in
set_option maxHeartbeats 2000000 in
theorem all1_in (n : Nat) (hn : 1 ≤ n) (l Bs n₀ : Nat) (A : Option Addr) (len cap : Nat) (vs : List PV) (hlen : len ≤ 1000000) (J Jx : List (Nat × PV) → World → Prop)
    (hY : ∀ pre x W, J pre W → pre.length < len → YieldAt Fence.wide (n - 1) Tryz.prog l (encP x) W fun e W' =>
      (e = .returned (.bool true) ∧ J (pre ++ [x]) W' ∧ Below n₀ W W') ∨ (e = .returned (.bool false) ∧ Jx (pre ++ [x]) W'))
    (W : World) (hJ : AbidesFrom W.heap.size J) (hn0 : n₀ ≤ W.heap.size) (hBs : W.cell? ⟨Bs, 0, none⟩ = some (.slice A len cap)) (hR : RdV W n₀ A len vs) (h0 : J [] W) :
    CallsIn Fence.wide n Tryz.prog 160 #[.func (.yield l) #[] #[], .pointer (some ⟨Bs, 0, none⟩)] W fun e W' => (∃ v, e = .returned v) ∧
      ((∃ ys, ys = prUpto vs len ∧ J ys W') ∨ (∃ pre, (∃ k, k ≤ len ∧ pre = prUpto vs k) ∧ Jx pre W')) := by
  refine callsIn_of_wp Tryz.func160 rfl trivial ?_ rfl
  simp only [Tryz.ntmps160, List.size_toArray, List.length_cons, List.length_nil, Nat.reduceAdd, Nat.reduceSub, Array.replicate_succ, Array.replicate_zero, List.push_toArray, List.append_toArray, List.nil_append, List.cons_append]
  gi_wp2
  gi_loopw [7] (fun i wr => ∃ k : Nat, k ≤ len ∧ i = .int .i64 k ∧ J (prUpto vs k) wr ∧ Below n₀ W wr ∧ W.heap.size ≤ wr.heap.size)
    (fun i _ => len - (intOf i).toNat)
  case atStart => exact ⟨0, Nat.zero_le _, rfl, h0, Below.refl _ _, Nat.le_refl _⟩
  case round =>
    obtain ⟨k, hk, rfl, hJs, hnx, hge⟩ := hrel
    by_cases hlt : k < len
    · rcases hR.2 with hz | ⟨b, off, rfl, hb, hcs⟩
      · omega
      have hkl : k < vs.length := by rw [hR.1]; exact hlt
      obtain ⟨h1, h2⟩ := hcs k vs[k] (List.getElem?_eq_getElem hkl)
      have hgd : vs.getD k default = vs[k] := by simp [List.getD_eq_getElem?_getD, hkl]
      have x0 : wr.cell? ⟨b, off + k * 2, none⟩ = some (.int .i64 vs[k].p.left) := (hnx.cell (p := ⟨b, off + k * 2, none⟩) hb).trans h1
      have x1 : wr.cell? ⟨b, off + k * 2 + 1, none⟩ = some (.slice vs[k].ra vs[k].p.right.length vs[k].rc) := (hnx.cell (p := ⟨b, off + k * 2 + 1, none⟩) hb).trans h2
      have hsu := prUpto_succ vs k
      rw [hgd] at hsu
      replace hsu := Lib.hid hsu
      generalize vs[k] = x at *
      have hJ1 := hJ _ _ _ none hJs (World.grownBy_alloc wr (.cells #[.int .i64 x.p.left, .slice x.ra x.p.right.length x.rc] 47) none) (by simp)
      have hbA : Below n₀ wr (wr.alloc (.cells #[.int .i64 x.p.left, .slice x.ra x.p.right.length x.rc] 47)) := (Below.refl _ _).alloc (by omega) _
      obtain ⟨fn, tmps, assign, body, hy, hR2⟩ := hY _ (k, x) _ hJ1 (by rw [prUpto_length]; exact hlt)
      dsimp only [encP] at hy
      gi_wp2
      refine hR2.mono ?_
      rintro e W3 (⟨rfl, hJ3, hk3⟩ | ⟨rfl, hJx3⟩)
      · gi_wp2
        go_roundw
        case rel => exact ⟨k + 1, by omega, by simp, by rw [hsu.out]; exact hJ3, hnx.trans (hbA.trans hk3), by have := hk3.size; simp at this; omega⟩
        case measure => simp [intOf]; omega
      · gi_wp2
        refine bodyPost_ret (results_none rfl _ _ _) rfl ?_
        exact ⟨⟨_, rfl⟩, .inr ⟨_, ⟨k + 1, by omega, hsu.out.symm⟩, hJx3⟩⟩
    · obtain rfl : k = len := by omega
      gi_wp2
      go_end0
      exact ⟨⟨_, rfl⟩, .inl ⟨_, rfl, hJs⟩⟩

set_option maxHeartbeats 1000000 in
theorem all_in (n : Nat) (A : Option Addr) (len cap : Nat) (w : World) :
    CallsIn Fence.wide n Tryz.prog 138 #[.slice A len cap] w fun e w' => e = .returned (.func (.func 160) #[] #[.pointer (some ⟨w.heap.size, 0, none⟩)]) ∧ w' = w.alloc (.cells #[.slice A len cap] 23) := by
  refine callsIn_of_wp Tryz.func138 rfl trivial ?_ rfl
  simp only [Tryz.ntmps138, List.size_toArray, List.length_cons, List.length_nil, Nat.reduceAdd, Nat.reduceSub, Array.replicate_succ, Array.replicate_zero, List.push_toArray, List.append_toArray, List.nil_append, List.cons_append]
  gi_wp2
  go_ret
  exact ⟨rfl, rfl⟩

/-- what grammar.prods hands back: the closure over the box in which the slice of productions lies -/
def RetSeq (w : World) (g : Gr) (a : GA) (e : Ending) (w' : World) : Prop :=
  ∃ B, e = .returned (.func (.func 160) #[] #[.pointer (some ⟨B, 0, none⟩)]) ∧ w'.cell? ⟨B, 0, none⟩ = some (.slice a.pa g.prods.length a.pc) ∧ B < w'.heap.size ∧ Below w.heap.size w w'
theorem prods_any (g : Gr) (a : GA) (w : World) : Calls Tryz.prog 100 #[gval g a] w (RetSeq w g a) := by
  have h101 := Lib.hid (fun A len cap w => callsIn_wide.1 (all_in 3 A len cap w))
  have hP := Lib.hid (fun (B : Nat) (w' : World) (h1 : w'.cell? ⟨B, 0, none⟩ = some (.slice a.pa g.prods.length a.pc)) (h2 : B < w'.heap.size) (h3 : Below w.heap.size w w') =>
    (show RetSeq w g a (.returned (.func (.func 160) #[] #[.pointer (some ⟨B, 0, none⟩)])) w' from ⟨B, rfl, h1, h2, h3⟩))
  unfold gval gcells
  go_enter Tryz.func100, Tryz.ntmps100
  go_wp2_with fail
  refine (h101.out _ _ _ _).mono ?_
  rintro e w1 ⟨rfl, hw1⟩
  subst hw1
  rw [World.size_alloc]
  go_wp2_with fail
  go_ret
  refine hP.out _ _ ?_ ?_ ?_
  · exact (Blk.newAt _ _ _ _ (by simp)).cell 0
  · simp
  · exact bAlc (bAlc (Below.refl _ _) _) _

theorem all_stops (n : Nat) (hn : 1 ≤ n) (Bs n₀ : Nat) (A : Option Addr) (len cap : Nat) (vs : List PV) (hlen : len ≤ 1000000) (w : World) (hBs : Bs < w.heap.size) (hn₀ : n₀ ≤ w.heap.size)
    (hc : w.cell? ⟨Bs, 0, none⟩ = some (.slice A len cap)) (hI : RdV w n₀ A len vs) :
    SeqStopsK Fence.wide n Tryz.prog 160 #[.pointer (some ⟨Bs, 0, none⟩)] encP (Below n₀) (fun ys => ys = prUpto vs len) (fun pre => ∃ k, k ≤ len ∧ pre = prUpto vs k) len w := fun l J Jx W hW hJ _ hY h0 => by
  have hc' := (hW.cell (p := ⟨Bs, 0, none⟩) hBs).trans hc
  exact all1_in n hn l Bs n₀ A len cap vs hlen J Jx hY W hJ (Nat.le_trans hn₀ hW.size) hc' (hI.below (hW.mono hn₀)) h0
end Go.Proofs.YtnnkfgekiaaehaaGreat
