/- Walks and plain laws, part 5 of 11: The kit: Mod, At, OwnTexts, OwnInts; Grammars out of numbers, plainly; what a right grammar gives; Sets of looks in a slice of slices; the rounds of the reference 16, plainly; follow.begins; The reference 16: of. Conditions: none beyond those that each theorem states. -/
import Derived.Test.YtnnkfgekiaaehaaGreatB4
import Derived.Deep.RegionHeld3
import Derived.Deep.OwnRows
import Derived.WalkMore
/- The kit: Mod, At, OwnTexts, OwnInts. -/
namespace Go.Proofs.YtnnkfgekiaaehaaGreat
open Go.ChangeShapes Go.WideShapes Go.ChangeAt Go.RowKit
set_option linter.unusedVariables false

theorem mod_lo (a m : Int) (hm : 0 < m) (h : a.tmod m < 0) : a.tmod m + m = a % m := by
  have h1 := (Int.tmod_eq_emod : a.tmod m = _)
  have h2 := Int.emod_nonneg a (by omega : m ≠ 0)
  have h3 := Int.emod_lt_of_pos a hm
  split at h1 <;> omega
theorem mod_hi (a m : Int) (hm : 0 < m) (h : ¬ a.tmod m < 0) : a.tmod m = a % m := by
  have h1 := (Int.tmod_eq_emod : a.tmod m = _)
  have h2 := Int.emod_nonneg a (by omega : m ≠ 0)
  have h3 := Int.emod_lt_of_pos a hm
  split at h1 <;> omega
theorem mod_bd (a m : Int) (hm : 0 < m) : -m < a.tmod m ∧ a.tmod m < m := by
  have h1 := (Int.tmod_eq_emod : a.tmod m = _)
  have h2 := Int.emod_nonneg a (by omega : m ≠ 0)
  have h3 := Int.emod_lt_of_pos a hm
  split at h1 <;> omega

set_option maxHeartbeats 400000 in
theorem mod_any (a m : Int) (w : World) (wa : (Lit.int .i64 a).wf = true) (h1 : 1 ≤ m) (h2 : m ≤ 1099511627776) :
    Calls Tryz.prog 15 #[.int .i64 a, .int .i64 m] w fun e w' => e = .returned (.int .i64 (a % m)) ∧ w = w' := by
  have hb := mod_bd a m (by omega)
  have hne : ¬ m = 0 := by omega
  have hnb : (m == 0) = false := by simpa using hne
  by_cases h : a.tmod m < 0
  · have hL := Lib.hid (mod_lo a m (by omega) h)
    go_enter Tryz.func15, Tryz.ntmps15
    go_wp2_with fail
    go_ret
    exact ⟨ret_int hL.out, rfl⟩
  · have hL := Lib.hid (mod_hi a m (by omega) h)
    go_enter Tryz.func15, Tryz.ntmps15
    go_wp2_with fail
    go_ret
    exact ⟨ret_int hL.out, rfl⟩

set_option maxHeartbeats 400000 in
theorem at_any (A : Option Addr) (n c : Nat) (l : List Int) (i : Nat) (B : Nat) (w : World) (h : Rd1 w B A n (ints l)) (hn : n ≤ maxLen) (hi : i ≤ 1000000) :
    Calls Tryz.prog 16 #[.slice A n c, .int .i64 i] w fun e w' => e = .returned (.int .i64 (l.getD i 0)) ∧ w = w' := by
  have hl : l.length = n := by have := h.1; simpa [ints] using this
  by_cases hin : i < n
  · have hxi : (ints l)[i]? = some (.int .i64 (l.getD i 0)) := by
      have : i < l.length := by omega
      simp [ints, this]
    obtain ⟨b, off, rfl, hbt, x0⟩ := h.get hxi
    generalize l.getD i 0 = x at *
    have hz1 : (0 : Int) ≤ i := by omega
    have hz2 : (i : Int) < n := by omega
    replace hl := Lib.hid hl
    replace hxi := Lib.hid hxi
    go_enter Tryz.func16, Tryz.ntmps16
    go_wp2_with fail
    go_ret
    exact ⟨rfl, rfl⟩
  · have hx : l.getD i 0 = 0 := by simp [List.getD_eq_getElem?_getD, show l.length ≤ i by omega]
    rw [hx]
    have hz1 : (0 : Int) ≤ i := by omega
    have hz2 : (n : Int) ≤ i := by omega
    replace hl := Lib.hid hl
    replace hx := Lib.hid hx
    go_enter Tryz.func16, Tryz.ntmps16
    go_wp2_with fail
    go_ret
    exact ⟨rfl, rfl⟩

def RetS (w : World) (l : List ByteArray) (e : Ending) (w' : World) : Prop := ∃ v, e = .returned v ∧ Own1 w' w.heap.size 9 v (strs l) ∧ Below w.heap.size w w'
theorem owntexts_any (A : Option Addr) (n c : Nat) (l : List ByteArray) (w : World) (h : Rd1 w w.heap.size A n (strs l)) (hn : n ≤ 1000000) : Calls Tryz.prog 52 #[.slice A n c] w (RetS w l) := by
  have hP := Lib.hid (fun (v : Value) (w' : World) (h1 : Own1 w' w.heap.size 9 v (strs l)) (h2 : Below w.heap.size w w') => (show RetS w l (.returned v) w' from ⟨v, rfl, h1, h2⟩))
  have hoe := Own1.empty w w.heap.size 9 (Nat.le_refl _)
  have ha' := h.below ((Below.refl w.heap.size w).alloc (Nat.le_refl _) (.cells #[] 9))
  go_enter Tryz.func52, Tryz.ntmps52
  go_wp2_with (at_builtin; refine wpList_join1 _ rfl _ _ 22 rfl w.heap.size 9 _ 16 under23 info9 rfl _ [] rfl hoe w.heap.size A n c (strs l) rfl ha' strs_one (by simp; omega) (by omega) (by simp) ?_; intro v' w1 hown1 hg1 hat1 hb1)
  go_ret
  exact hP.out _ _ hown1 (hb1 w (bAlc (Below.refl _ _) _))
theorem ownints_any (A : Option Addr) (n c : Nat) (l : List Int) (w : World) (h : Rd1 w w.heap.size A n (ints l)) (hn : n ≤ 1000000) : Calls Tryz.prog 53 #[.slice A n c] w (RetI w l) := by
  have hP := Lib.hid (fun (v : Value) (w' : World) (h1 : Own1 w' w.heap.size 3 v (ints l)) (h2 : Below w.heap.size w w') => (show RetI w l (.returned v) w' from ⟨v, rfl, h1, h2⟩))
  have hoe := Own1.empty w w.heap.size 3 (Nat.le_refl _)
  have ha' := h.below ((Below.refl w.heap.size w).alloc (Nat.le_refl _) (.cells #[] 3))
  go_enter Tryz.func53, Tryz.ntmps53
  go_wp2_with (at_builtin; refine wpList_join1 _ rfl _ _ 34 rfl w.heap.size 3 _ 8 under22 info3 rfl _ [] rfl hoe w.heap.size A n c (ints l) rfl ha' ints_one (by simp; omega) (by omega) (by simp) ?_; intro v' w1 hown1 hg1 hat1 hb1)
  go_ret
  exact hP.out _ _ hown1 (hb1 w (bAlc (Below.refl _ _) _))
end Go.Proofs.YtnnkfgekiaaehaaGreat

/- Grammars out of numbers, plainly; what a right grammar gives. -/
namespace Go.Proofs.YtnnkfgekiaaehaaGreat
set_option linter.unusedVariables false

/-- a grammar that is right, as the sets use it -/
structure GOk (g : Gr) (k : Nat) : Prop where
  hk : g.k = (k : Int)
  k1 : 1 ≤ k
  k4 : k ≤ 4
  tk : 1 ≤ g.toks.length ∧ g.toks.length ≤ 8
  nm : 1 ≤ g.names.length ∧ g.names.length ≤ 8
  pl : g.prods.length ≤ 24
  st : 16 ≤ g.start ∧ g.start < 16 + (g.names.length : Int)
  pr : ∀ p ∈ g.prods, (16 ≤ p.left ∧ p.left < 16 + (g.names.length : Int)) ∧ p.right.length ≤ 6 ∧ ∀ s ∈ p.right, (0 ≤ s ∧ s < g.toks.length) ∨ (16 ≤ s ∧ s < 16 + (g.names.length : Int))
theorem fullB_iff (g : Gr) : fullB g = true ↔ g.toks.length ≤ 8 ∧ g.names.length ≤ 8 ∧ g.prods.length ≤ 24 ∧ ∀ p ∈ g.prods, p.right.length ≤ 6 := by
  simp [fullB]
theorem shortB_iff (g : Gr) : shortB g = false ↔ 1 ≤ g.toks.length ∧ 1 ≤ g.names.length := by
  unfold shortB
  rw [Bool.or_eq_false_iff, decide_eq_false_iff_not, decide_eq_false_iff_not]
  omega
theorem symB_iff (g : Gr) : symB g = true ↔ (16 ≤ g.start ∧ g.start < 16 + (g.names.length : Int)) ∧ ∀ p ∈ g.prods, (16 ≤ p.left ∧ p.left < 16 + (g.names.length : Int)) ∧ ∀ s ∈ p.right, (0 ≤ s ∧ s < (g.toks.length : Int)) ∨ (16 ≤ s ∧ s < 16 + (g.names.length : Int)) := by
  unfold symB ntB tmB
  rw [Bool.and_eq_true, decide_eq_true_iff, List.all_eq_true]
  refine and_congr Iff.rfl (forall_congr' fun p => imp_congr Iff.rfl ?_)
  rw [Bool.and_eq_true, decide_eq_true_iff, List.all_eq_true]
  refine and_congr Iff.rfl (forall_congr' fun s => imp_congr Iff.rfl ?_)
  rw [Bool.or_eq_true, decide_eq_true_iff, decide_eq_true_iff]
theorem gchk_iff (g : Gr) : gchk g = 0 ↔ (1 ≤ g.k ∧ g.k ≤ 4) ∧ fullB g = true ∧ shortB g = false ∧ nameB g = true ∧ diffB g = true ∧ symB g = true ∧ ordB g = true ∧ compB g = true := by
  unfold gchk
  by_cases h1 : g.k < 1 ∨ 4 < g.k
  · rw [if_pos h1]; constructor
    · intro h; cases h
    · rintro ⟨⟨a, b⟩, _⟩; omega
  · rw [if_neg h1]
    have h1' : 1 ≤ g.k ∧ g.k ≤ 4 := by omega
    cases fullB g <;> cases shortB g <;> cases nameB g <;> cases diffB g <;> cases symB g <;> cases ordB g <;> cases compB g <;> simp [h1']
theorem gok_of {g : Gr} (h : gchk g = 0) : GOk g g.k.toNat := by
  obtain ⟨⟨h1, h2⟩, h3, h4, _, _, h5, _, _⟩ := (gchk_iff g).1 h
  obtain ⟨f1, f2, f3, f4⟩ := (fullB_iff g).1 h3
  obtain ⟨s1, s2⟩ := (shortB_iff g).1 h4
  obtain ⟨y1, y2⟩ := (symB_iff g).1 h5
  exact ⟨by omega, by omega, by omega, ⟨s1, f1⟩, ⟨s2, f2⟩, f3, y1, fun p hp => ⟨(y2 p hp).1, f4 p hp, (y2 p hp).2⟩⟩

/-- number i, made small -/
def numA (l : List Int) (i : Nat) : Int := l.getD i 0 % 1073741824
theorem numA_bd (l : List Int) (i : Nat) : 0 ≤ numA l i ∧ numA l i < 1073741824 := by unfold numA; omega
def symA (t m z : Int) : Int := if z % 5 < 3 then z % t else 16 + z % m
def digA (y : Int) (s : Nat) : Int := y / 4 / (16 ^ s : Nat) % 16
def rightA (t m y : Int) : List Int := (List.range (y % 4).toNat).map fun s => symA t m (digA y s)
def prA (l : List Int) (t m : Int) (i j : Nat) : Pr := ⟨16 + (i : Int), rightA t m (numA l (4 + 3 * i + j))⟩
def addA (l : List Int) (t m : Int) (i : Nat) (ps : List Pr) (j : Nat) : List Pr := if ps.length < 7 then ps ++ [prA l t m i j] else ps
def rowA (l : List Int) (t m : Int) (i : Nat) (ps : List Pr) : List Pr := (List.range ((numA l (1 + i) % 3).toNat + 1)).foldl (addA l t m i) ps
def prodsA (l : List Int) (t m : Int) (n : Nat) : List Pr := (List.range n).foldl (fun ps i => rowA l t m i ps) []
def nameA (i : Nat) : ByteArray := ⟨#[UInt8.ofNat (83 + i)]⟩
def toksA (t : Nat) : List ByteArray := [(⟨#[97]⟩ : ByteArray), ⟨#[98]⟩].take t
def tA (l : List Int) : Nat := 1 + (numA l 0 / 2 % 2).toNat
def mA (l : List Int) : Nat := 1 + (numA l 0 / 4 % 3).toNat
def anyG (l : List Int) : Gr := ⟨1 + numA l 0 % 2, toksA (tA l), ⟨#[122]⟩, (List.range (mA l)).map nameA, 16, prodsA l (tA l) (mA l) (mA l)⟩

theorem tA_bd (l : List Int) : tA l = 1 ∨ tA l = 2 := by unfold tA; omega
theorem mA_bd (l : List Int) : mA l = 1 ∨ mA l = 2 ∨ mA l = 3 := by unfold mA; omega
theorem toksA_len (t : Nat) (h : t = 1 ∨ t = 2) : (toksA t).length = t := by rcases h with rfl | rfl <;> rfl

/-- a production made of numbers is right -/
def PrRight (t m : Nat) (p : Pr) : Prop := p.right.length ≤ 3 ∧ ∀ s ∈ p.right, (0 ≤ s ∧ s < (t : Int)) ∨ (16 ≤ s ∧ s < 16 + (m : Int))
theorem symA_right (t m : Nat) (ht : 1 ≤ t) (hm : 1 ≤ m) (z : Int) (hz : 0 ≤ z) : (0 ≤ symA t m z ∧ symA t m z < (t : Int)) ∨ (16 ≤ symA t m z ∧ symA t m z < 16 + (m : Int)) := by
  unfold symA
  split
  · left; exact ⟨Int.emod_nonneg _ (by omega), Int.emod_lt_of_pos _ (by omega)⟩
  · right
    have := Int.emod_nonneg z (show (m : Int) ≠ 0 by omega)
    have := Int.emod_lt_of_pos z (show (0 : Int) < m by omega)
    omega
theorem prA_right (l : List Int) (t m : Nat) (ht : 1 ≤ t) (hm : 1 ≤ m) (i j : Nat) : PrRight t m (prA l t m i j) := by
  refine ⟨by simp only [prA, rightA, List.length_map, List.length_range]; omega, ?_⟩
  intro s hs
  simp only [prA, rightA, List.mem_map] at hs
  obtain ⟨d, _, rfl⟩ := hs
  exact symA_right t m ht hm _ (by unfold digA; omega)
/-- what holds of the productions when i nonterminals have theirs -/
structure RowsA (t m i : Nat) (ps : List Pr) : Prop where
  right : ∀ p ∈ ps, PrRight t m p
  left : ∀ p ∈ ps, 16 ≤ p.left ∧ p.left < 16 + (i : Int)
  asc : ps.Pairwise fun p q => p.left ≤ q.left
  all : ∀ j : Nat, j < i → ∃ p ∈ ps, p.left = 16 + (j : Int)
  len : ps.length ≤ 7
theorem addA_facts (l : List Int) (t m : Nat) (ht : 1 ≤ t) (hm : 1 ≤ m) (i : Nat) {ps : List Pr} (h1 : ∀ p ∈ ps, PrRight t m p) (h2 : ∀ p ∈ ps, 16 ≤ p.left ∧ p.left < 16 + ((i + 1 : Nat) : Int)) (h3 : ps.Pairwise fun p q => p.left ≤ q.left) (h5 : ps.length ≤ 7) (j : Nat) :
    (∀ p ∈ addA l t m i ps j, PrRight t m p) ∧ (∀ p ∈ addA l t m i ps j, 16 ≤ p.left ∧ p.left < 16 + ((i + 1 : Nat) : Int)) ∧ (addA l t m i ps j).Pairwise (fun p q => p.left ≤ q.left) ∧ (addA l t m i ps j).length ≤ 7 ∧ (∀ p ∈ ps, p ∈ addA l t m i ps j) ∧ (addA l t m i ps j).length ≤ ps.length + 1 := by
  unfold addA
  split
  · rename_i h
    refine ⟨?_, ?_, ?_, by simp; omega, fun p hp => List.mem_append_left _ hp, by simp⟩
    · intro p hp
      rcases List.mem_append.1 hp with h | h
      · exact h1 p h
      · simp at h; subst h; exact prA_right l t m ht hm i j
    · intro p hp
      rcases List.mem_append.1 hp with h | h
      · exact h2 p h
      · simp at h; subst h; simp only [prA]; omega
    · rw [List.pairwise_append]
      refine ⟨h3, List.pairwise_singleton _ _, fun p hp q hq => ?_⟩
      simp at hq; subst hq
      have := h2 p hp
      simp only [prA]; omega
  · exact ⟨h1, h2, h3, h5, fun p hp => hp, by omega⟩
theorem foldA_facts (l : List Int) (t m : Nat) (ht : 1 ≤ t) (hm : 1 ≤ m) (i : Nat) : ∀ (js : List Nat) {ps : List Pr} (h1 : ∀ p ∈ ps, PrRight t m p) (h2 : ∀ p ∈ ps, 16 ≤ p.left ∧ p.left < 16 + ((i + 1 : Nat) : Int)) (h3 : ps.Pairwise fun p q => p.left ≤ q.left) (h5 : ps.length ≤ 7),
    (∀ p ∈ js.foldl (addA l t m i) ps, PrRight t m p) ∧ (∀ p ∈ js.foldl (addA l t m i) ps, 16 ≤ p.left ∧ p.left < 16 + ((i + 1 : Nat) : Int)) ∧ (js.foldl (addA l t m i) ps).Pairwise (fun p q => p.left ≤ q.left) ∧ (js.foldl (addA l t m i) ps).length ≤ 7 ∧ (∀ p ∈ ps, p ∈ js.foldl (addA l t m i) ps) ∧ (js.foldl (addA l t m i) ps).length ≤ ps.length + js.length
  | [], ps, h1, h2, h3, h5 => ⟨h1, h2, h3, h5, fun p hp => hp, by simp⟩
  | j :: js, ps, h1, h2, h3, h5 => by
    obtain ⟨a1, a2, a3, a4, a5, a6⟩ := addA_facts l t m ht hm i h1 h2 h3 h5 j
    obtain ⟨b1, b2, b3, b4, b5, b6⟩ := foldA_facts l t m ht hm i js a1 a2 a3 a4
    refine ⟨b1, b2, b3, b4, fun p hp => b5 p (a5 p hp), ?_⟩
    simp only [List.foldl_cons, List.length_cons]
    omega
theorem rowA_len (l : List Int) (t m : Nat) (ht : 1 ≤ t) (hm : 1 ≤ m) (i : Nat) {ps : List Pr} (h : RowsA t m i ps) : (rowA l t m i ps).length ≤ ps.length + 3 := by
  obtain ⟨_, _, _, _, _, b6⟩ := foldA_facts l t m ht hm i (List.range ((numA l (1 + i) % 3).toNat + 1)) h.right (fun p hp => by have := h.left p hp; omega) h.asc h.len
  rw [List.length_range] at b6
  unfold rowA; omega
theorem rowA_facts (l : List Int) (t m : Nat) (ht : 1 ≤ t) (hm : 1 ≤ m) (i : Nat) {ps : List Pr} (h : RowsA t m i ps) (h6 : ps.length ≤ 6) : RowsA t m (i + 1) (rowA l t m i ps) := by
  obtain ⟨b1, b2, b3, b4, b5, b6⟩ := foldA_facts l t m ht hm i (List.range ((numA l (1 + i) % 3).toNat + 1)) h.right (fun p hp => by have := h.left p hp; omega) h.asc h.len
  refine ⟨b1, b2, b3, fun j hj => ?_, b4⟩
  by_cases hji : j < i
  · obtain ⟨p, hp, e⟩ := h.all j hji
    exact ⟨p, b5 p hp, e⟩
  · have : j = i := by omega
    subst this
    unfold rowA
    rw [List.range_succ_eq_map, List.foldl_cons]
    have ha : addA l t m j ps 0 = ps ++ [prA l t m j 0] := by unfold addA; rw [if_pos (by omega)]
    obtain ⟨a1, a2, a3, a4, _, _⟩ := addA_facts l t m ht hm j h.right (fun p hp => by have := h.left p hp; omega) h.asc h.len 0
    obtain ⟨_, _, _, _, c5, _⟩ := foldA_facts l t m ht hm j ((List.range (numA l (1 + j) % 3).toNat).map Nat.succ) a1 a2 a3 a4
    exact ⟨prA l t m j 0, c5 _ (by rw [ha]; simp), rfl⟩
theorem prodsA_facts (l : List Int) (t m : Nat) (ht : 1 ≤ t) (hm : 1 ≤ m) : ∀ n, n ≤ 3 → RowsA t m n (prodsA l t m n) ∧ (prodsA l t m n).length ≤ 3 * n
  | 0, _ => ⟨⟨by simp [prodsA], by simp [prodsA], by simp [prodsA], by omega, by simp [prodsA]⟩, by simp [prodsA]⟩
  | n + 1, h => by
    obtain ⟨h1, h2⟩ := prodsA_facts l t m ht hm n (by omega)
    have e : prodsA l t m (n + 1) = rowA l t m n (prodsA l t m n) := by simp [prodsA, List.range_succ]
    rw [e]
    have := rowA_len l t m ht hm n h1
    exact ⟨rowA_facts l t m ht hm n h1 (by omega), by omega⟩
theorem ordB_asc {g : Gr} (h : g.prods.Pairwise fun p q => p.left ≤ q.left) : ordB g = true := by
  unfold ordB
  rw [List.all_eq_true]
  intro i hi
  have hi := List.mem_range.1 hi
  by_cases h0 : i = 0
  · simp [h0]
  · have := List.pairwise_iff_getElem.1 h (i - 1) i (by omega) hi (by omega)
    simp [List.getD_eq_getElem?_getD, hi, show i - 1 < g.prods.length by omega, this]
theorem namesA_ok (t m : Nat) (ht : t = 1 ∨ t = 2) (hm : m = 1 ∨ m = 2 ∨ m = 3) : nameB ⟨1, toksA t, ⟨#[122]⟩, (List.range m).map nameA, 16, []⟩ = true ∧ diffB ⟨1, toksA t, ⟨#[122]⟩, (List.range m).map nameA, 16, []⟩ = true := by
  rcases ht with rfl | rfl <;> rcases hm with rfl | rfl | rfl <;> exact ⟨by decide +kernel, by decide +kernel⟩
/-- a grammar made of numbers is right -/
theorem anyG_ok (l : List Int) : gchk (anyG l) = 0 := by
  obtain ⟨⟨r1, r2, r3, r4, r5⟩, _⟩ := prodsA_facts l (tA l) (mA l) (by unfold tA; omega) (by unfold mA; omega) (mA l) (by unfold mA; omega)
  have ht := tA_bd l
  have hm := mA_bd l
  have hn := numA_bd l 0
  have hts := toksA_len (tA l) ht
  have hml : ((anyG l).names.length : Int) = (mA l : Int) := by simp [anyG]
  have htl : ((anyG l).toks.length : Int) = (tA l : Int) := by simp [anyG, hts]
  rw [gchk_iff]
  refine ⟨by simp only [anyG]; omega, ?_, ?_, ?_, ?_, ?_, ?_, ?_⟩
  · rw [fullB_iff]
    refine ⟨by omega, by omega, by simp only [anyG]; omega, fun p hp => ?_⟩
    have := (r1 p hp).1
    omega
  · rw [shortB_iff]; omega
  · have e : nameB (anyG l) = nameB ⟨1, toksA (tA l), ⟨#[122]⟩, (List.range (mA l)).map nameA, 16, []⟩ := rfl
    rw [e]
    exact (namesA_ok _ _ ht hm).1
  · have e : diffB (anyG l) = diffB ⟨1, toksA (tA l), ⟨#[122]⟩, (List.range (mA l)).map nameA, 16, []⟩ := rfl
    rw [e]
    exact (namesA_ok _ _ ht hm).2
  · rw [symB_iff, hml, htl]
    refine ⟨by simp only [anyG]; omega, fun p hp => ⟨?_, (r1 p hp).2⟩⟩
    have := r2 p hp
    omega
  · exact ordB_asc r3
  · unfold compB
    rw [List.all_eq_true]
    intro i hi
    have hi := List.mem_range.1 hi
    obtain ⟨p, hp, e⟩ := r4 i (by omega)
    rw [List.any_eq_true]
    exact ⟨p, hp, decide_eq_true e⟩
end Go.Proofs.YtnnkfgekiaaehaaGreat

/- Sets of looks in a slice of slices; the rounds of the reference 16, plainly. -/
namespace Go.Proofs.YtnnkfgekiaaehaaGreat
open Go.ChangeShapes Go.WideShapes Go.ChangeAt Go.RowKit
set_option linter.unusedVariables false

/-- a store into a block of slices leaves a slice of looks -/
theorem rdl_put {W : World} {B bo : Nat} {A : Option Addr} {n : Nat} {l : List Lk} {cs : Array Value} {t : TypeId} (h : RdL W B A n l) (q : Blk W bo t cs) (hs : ∀ (j : Nat) v, cs[j]? = some v → ∃ X xn xc, v = .slice X xn xc) (i : Nat) (v : Value) :
    RdL (W.setCell ⟨bo, i, none⟩ v) B A n l := by
  refine ⟨h.1, ?_⟩
  rcases h.2 with h0 | ⟨b, off, rfl, hlt, hc⟩
  · exact .inl h0
  · by_cases e0 : n = 0
    · exact .inl e0
    · refine .inr ⟨b, off, rfl, hlt, fun k x hx j hj => ?_⟩
      have hne : b ≠ bo := by
        rintro rfl
        have h1 := hc k x hx j hj
        rw [q.cell] at h1
        cases hv : cs[off + k * 5 + j]? with
        | none => rw [hv] at h1; rcases j with _ | _ | _ | _ | _ | j <;> first | (simp [Lk.cells] at h1; done) | omega
        | some u =>
          obtain ⟨X, xn, xc, rfl⟩ := hs _ _ hv
          rw [hv] at h1
          rcases j with _ | _ | _ | _ | _ | j <;> first | (simp [Lk.cells] at h1; done) | omega
      have hb := Below.heap_setCell W ⟨bo, i, none⟩ v b hne
      rw [← hc k x hx j hj]
      unfold World.cell?
      rw [hb]
theorem SetAt.put {W : World} {m : Int} {bo : Nat} {A : Option Addr} {n c : Nat} {l : List Lk} {cs : Array Value} {t : TypeId} (h : SetAt W m A n c l) (q : Blk W bo t cs) (hs : ∀ (j : Nat) v, cs[j]? = some v → ∃ X xn xc, v = .slice X xn xc) (i : Nat) (v : Value) : SetAt (W.setCell ⟨bo, i, none⟩ v) m A n c l :=
  ⟨by simpa using rdl_put h.rd q hs i v, h.right, h.asc, h.n4, h.nc, h.cm⟩

/-- a slice of n slices that read as these sets -/
def SetsA (W : World) (bo n : Nat) (m : Int) (ss : List (List Lk)) : Prop :=
  ss.length = n ∧ ∃ cs : Array Value, Blk W bo 28 cs ∧ cs.size = n ∧ ∀ (i : Nat) (s : List Lk), ss[i]? = some s → ∃ A c, cs[i]? = some (.slice A s.length c) ∧ SetAt W m A s.length c s
theorem SetsA.step {W W' : World} {bo n : Nat} {m : Int} {ss : List (List Lk)} (h : SetsA W bo n m ss) (hb : Below W.heap.size W W') : SetsA W' bo n m ss := by
  obtain ⟨h1, cs, h2, h3, h4⟩ := h
  exact ⟨h1, cs, h2.step hb, h3, fun i s hs => by obtain ⟨A, c, a, b⟩ := h4 i s hs; exact ⟨A, c, a, b.step hb⟩⟩
theorem SetsA.lt {W : World} {bo n : Nat} {m : Int} {ss : List (List Lk)} (h : SetsA W bo n m ss) : bo < W.heap.size := by
  obtain ⟨_, cs, h2, _⟩ := h; exact h2.lt
theorem SetsA.get {W : World} {bo n : Nat} {m : Int} {ss : List (List Lk)} (h : SetsA W bo n m ss) (i : Nat) (hi : i < n) :
    ∃ A c, W.cell? ⟨bo, i, none⟩ = some (.slice A (ss.getD i []).length c) ∧ W.frozen? ⟨bo, i, none⟩ = false ∧ SetAt W m A (ss.getD i []).length c (ss.getD i []) := by
  obtain ⟨h1, cs, h2, h3, h4⟩ := h
  have hs : ss[i]? = some (ss.getD i []) := by
    rw [List.getD_eq_getElem?_getD, List.getElem?_eq_getElem (by omega)]; rfl
  obtain ⟨A, c, a, b⟩ := h4 i _ hs
  exact ⟨A, c, by rw [h2.cell]; exact a, h2.frozen i, b⟩
theorem SetsA.asc {W : World} {bo n : Nat} {m : Int} {ss : List (List Lk)} (h : SetsA W bo n m ss) : ∀ s ∈ ss, Asc s ∧ ∀ x ∈ s, x.right m := by
  obtain ⟨h1, cs, h2, h3, h4⟩ := h
  intro s hs
  obtain ⟨i, hi, rfl⟩ := List.getElem_of_mem hs
  obtain ⟨A, c, a, b⟩ := h4 i _ (List.getElem?_eq_getElem hi)
  exact ⟨b.asc, b.right⟩
theorem SetsA.put {W : World} {bo n : Nat} {m : Int} {ss : List (List Lk)} (h : SetsA W bo n m ss) (i : Nat) {A : Option Addr} {c : Nat} {l : List Lk} (hl : SetAt W m A l.length c l) : SetsA (W.setCell ⟨bo, i, none⟩ (.slice A l.length c)) bo n m (ss.set i l) := by
  obtain ⟨h1, cs, h2, h3, h4⟩ := h
  have hsl : ∀ (j : Nat) v, cs[j]? = some v → ∃ X xn xc, v = .slice X xn xc := by
    intro j v hv
    have hj := (Array.getElem?_eq_some_iff.1 hv).1
    obtain ⟨A, c, a, _⟩ := h4 j _ (List.getElem?_eq_getElem (by omega))
    rw [a] at hv
    injection hv with hv
    exact ⟨_, _, _, hv.symm⟩
  refine ⟨by simpa using h1, cs.setIfInBounds i (.slice A l.length c), h2.put i _, by simpa using h3, fun j s hs => ?_⟩
  by_cases hij : i = j
  · subst hij
    have hi : i < ss.length := by have := (List.getElem?_eq_some_iff.1 hs).1; simpa using this
    rw [List.getElem?_set_self hi] at hs
    injection hs with hs
    subst hs
    exact ⟨A, c, by rw [Array.getElem?_setIfInBounds_self]; simp; omega, hl.put h2 hsl i _⟩
  · rw [List.getElem?_set_ne hij] at hs
    obtain ⟨A', c', a, b⟩ := h4 j s hs
    exact ⟨A', c', by rw [Array.getElem?_setIfInBounds_ne hij]; exact a, b.put h2 hsl i _⟩
theorem SetsA.new {W : World} {bo n : Nat} {m : Int} (h : Blk W bo 28 (madeCells #[.slice none 0 0] n)) : SetsA W bo n m (List.replicate n []) := by
  refine ⟨by simp, _, h, by simp [madeCells], fun i s hs => ?_⟩
  rw [List.getElem?_replicate] at hs
  split at hs
  · rename_i hi
    injection hs with hs; subst hs
    exact ⟨none, 0, by simp [madeCells, hi, Nat.mod_one], ⟨RdL.nil _ _ _, by simp, asc_nil, by simp, Nat.le_refl _, by simp [maxLen]⟩⟩
  · cases hs

/-- the round of firsts -/
structure RoundR (ps : List Pr) (k : Nat) (m : Int) (P : List (List Lk) → Prop) (ss : List (List Lk)) (ix : Nat) (T J : List Lk) : Prop where
  fit : SetsFit k (ss.set ix J)
  sound : P (ss.set ix J)
  grow : (ss.getD ix []).length ≤ J.length
  same : J.length = (ss.getD ix []).length → ss.set ix J = ss ∧ ∀ y ∈ T, y ∈ ss.getD ix []
  tot : YtnnkfgekiaaehaaGreat.tot (ss.set ix J) + (ss.getD ix []).length = YtnnkfgekiaaehaaGreat.tot ss + J.length
  right : ∀ x ∈ J, x.right m
  asc : Asc J
  mem : ∀ x, x ∈ J ↔ x ∈ ss.getD ix [] ∨ x ∈ T
theorem round_merge {ps : List Pr} {k : Nat} {m : Int} {P : List (List Lk) → Prop} (hm1 : 1 ≤ m) (hm8 : m ≤ 8) {ss : List (List Lk)} {ix : Nat} {T : List Lk} (hi : ix < ss.length) (hf : SetsFit k ss) (ha : Asc (ss.getD ix [])) (hr : ∀ x ∈ ss.getD ix [], x.right m)
    (hTf : ∀ x ∈ T, Fit k x) (hTa : Asc T) (hTr : ∀ x ∈ T, x.right m) (hP : ∀ J : List Lk, (∀ x, x ∈ J ↔ x ∈ ss.getD ix [] ∨ x ∈ T) → P (ss.set ix J)) : RoundR ps k m P ss ix T (lmerge (ss.getD ix []) T) := by
  have r8 : ∀ {l : List Lk}, (∀ x ∈ l, x.right m) → ∀ x ∈ l, x.right 8 := fun h x hx => right_mono (h x hx) hm8 (by omega)
  have hmem : ∀ x, x ∈ lmerge (ss.getD ix []) T ↔ x ∈ ss.getD ix [] ∨ x ∈ T := merge_mem _ _ (r8 hr) (r8 hTr)
  have hasc : Asc (lmerge (ss.getD ix []) T) := merge_asc _ _ (r8 hr) (r8 hTr) ha hTa
  have hgrow : (ss.getD ix []).length ≤ (lmerge (ss.getD ix []) T).length := nodup_len (asc_nodup ha) fun x hx => (hmem x).2 (.inl hx)
  refine ⟨set_fit hf _ fun x hx => ?_, hP _ hmem, hgrow, fun h => ?_, tot_set ss _ _ hi, fun x hx => ?_, hasc, hmem⟩
  · rcases (hmem x).1 hx with h | h
    · exact setsFit_get hf _ x h
    · exact hTf x h
  · have hsub : ∀ y ∈ lmerge (ss.getD ix []) T, y ∈ ss.getD ix [] := by
      intro y hy
      refine Classical.byContradiction fun hn => ?_
      have := nodup_len (out := y :: ss.getD ix []) (s := lmerge (ss.getD ix []) T) (List.nodup_cons.2 ⟨hn, asc_nodup ha⟩) (by
        intro z hz
        rcases List.mem_cons.1 hz with rfl | hz
        · exact hy
        · exact (hmem z).2 (.inl hz))
      simp only [List.length_cons] at this
      omega
    have e : lmerge (ss.getD ix []) T = ss.getD ix [] := asc_uniq hasc ha fun x => ⟨hsub x, fun hx => (hmem x).2 (.inl hx)⟩
    exact ⟨by rw [e]; exact set_same ss _ hi, fun y hy => hsub y ((hmem y).2 (.inr hy))⟩
  · rcases (hmem x).1 hx with h | h
    · exact hr x h
    · exact hTr x h
theorem tail_asc {k n : Nat} (hk : 1 ≤ k) (hk4 : k ≤ 4) {ss : List (List Lk)} (h : SetsFit k ss) (l : List Int) (hl : ∀ s ∈ l, SymOk n s) : Asc (tailL k ss l) := by
  rcases List.eq_nil_or_concat l with rfl | ⟨l', s, rfl⟩
  · exact asc_one _
  · rw [List.concat_eq_append] at *
    rw [tailL_snoc]
    unfold stepL
    have hl' : ∀ s ∈ l', SymOk n s := fun z hz => hl z (List.mem_append_left _ hz)
    exact lset_asc (k := 8) fun x hx => (all_fit (by simp) (sums_fit hk4 (tail_fit hk hk4 h l' hl') (one_fit hk h (hl s (by simp)))) x hx).1
/-- Sum takes one step of the tail -/
theorem sum_step {k n : Nat} (hk : 1 ≤ k) (hk4 : k ≤ 4) {ss : List (List Lk)} (h : SetsFit k ss) {out one : List Lk} (ho : ∀ x ∈ out, Fit k x) {s : Int} (hs : SymOk n s) (h1 : ∀ x, x ∈ one ↔ x ∈ oneL ss s) : sumR k out one = stepL k ss out s := by
  have hof := one_fit hk h hs
  have hof' : ∀ x ∈ one, Fit k x := fun x hx => hof x ((h1 x).1 hx)
  refine asc_uniq (sumR_asc hk4 ho hof') (lset_asc (k := 8) fun x hx => (all_fit (by simp) (sums_fit hk4 ho hof) x hx).1) fun z => ?_
  rw [sumR_mem hk4 ho hof', step_mem hk hk4 h ho hs]
  constructor
  · rintro ⟨x, hx, y, hy, rfl⟩; exact ⟨x, hx, y, (h1 y).1 hy, rfl⟩
  · rintro ⟨x, hx, y, hy, rfl⟩; exact ⟨x, hx, y, (h1 y).2 hy, rfl⟩
end Go.Proofs.YtnnkfgekiaaehaaGreat

/- follow.begins. -/
namespace Go.Proofs.YtnnkfgekiaaehaaGreat
open Go.ChangeShapes Go.WideShapes Go.ChangeAt Go.RowKit
set_option linter.unusedVariables false

theorem GOk.sym {g : Gr} {k : Nat} (h : GOk g k) {p : Pr} (hp : p ∈ g.prods) : ∀ s ∈ p.right, SymOk g.names.length s := fun s hs => by
  have := (h.pr p hp).2.2 s hs
  have := h.tk
  unfold SymOk; omega

/-- what begins hands back -/
def RetF (g : Gr) (k : Nat) (w : World) (e : Ending) (w' : World) : Prop :=
  ∃ b ss, e = .returned (.slice (some ⟨b, 0, none⟩) g.names.length g.names.length) ∧ SetsO w' w.heap.size b g.names.length ss ∧ ss.length = g.names.length ∧ w.heap.size ≤ b ∧ SetsFit k ss ∧ SoundF g.prods k ss ∧ ClosedF g.prods k ss ∧ Below w.heap.size w w'

theorem under63 : Tryz.prog.underlying 65 = some (.slice 69) := by kernel_rfl
theorem info67 : (Tryz.prog.info? 69).map (fun i => (i.zero, i.size, i.bytes)) = some (some (.map none), 1, 8) := by kernel_rfl

theorem SetsO.blk {W : World} {base bo n : Nat} {ss : List (List Lk)} (h : SetsO W base bo n ss) {i : Nat} (hi : i < n) : (∃ v, W.cell? ⟨bo, i, none⟩ = some v) ∧ W.frozen? ⟨bo, i, none⟩ = false ∧ bo < W.heap.size := by
  obtain ⟨cs, mbs, h1, h2, h3, h4, h5, h6⟩ := h
  refine ⟨⟨cs[i]'(by omega), ?_⟩, h1.frozen i, h1.lt⟩
  rw [h1.cell]; simp [h2, hi]
theorem SetsO.mono {W : World} {base b' bo n : Nat} {ss : List (List Lk)} (h : SetsO W base bo n ss) (hb : b' ≤ base) : SetsO W b' bo n ss := by
  obtain ⟨cs, mbs, h1, h2, h3, h4, h5, h6⟩ := h
  exact ⟨cs, mbs, h1, h2, h3, h4, fun m hm => ⟨by have := (h5 m hm).1; omega, (h5 m hm).2⟩, h6⟩
theorem SetsO.start {W : World} {base bo n : Nat} {cs : Array Value} (h : Blk W bo 69 cs) (hn : cs.size = n) : SetsO W base bo n [] :=
  ⟨cs, [], h, hn, rfl, List.nodup_nil, by simp, by simp⟩

theorem rdl_to {w1 W : World} {A : Option Addr} {n : Nat} {l : List Lk} (h : RdL w1 w1.heap.size A n l) (hb : Below w1.heap.size w1 W) : RdL W W.heap.size A n l := (h.below hb).mono hb.size
theorem rdl_lay (X W : World) (hb : Below (X.alloc (.cells #[.int .i64 0, .int .i64 0, .int .i64 0, .int .i64 0, .int .i64 0] 41)).heap.size (X.alloc (.cells #[.int .i64 0, .int .i64 0, .int .i64 0, .int .i64 0, .int .i64 0] 41)) W) :
    RdL W W.heap.size (some ⟨X.heap.size, 0, none⟩) 1 [Lk.of []] :=
  rdl_to ((rdL_one (x := Lk.of []) (Blk.new X 41 _)).mono (by simp)) hb

theorem bk_lt {Bk : Nat} {w2 W : World} (h : Bk < w2.heap.size) (hb : Below w2.heap.size w2 W) : Bk < W.heap.size := Nat.lt_of_lt_of_le h hb.size
/-- the world W, but for the map mb, and what was made since -/
def KW (W : World) (mb : Nat) (w' : World) : Prop := W.grownBy w' (some mb)
theorem KW.refl (W : World) (mb : Nat) : KW W mb W := ⟨rfl, rfl, rfl, Nat.le_refl _, fun _ _ _ => rfl⟩
theorem KW.drew {W w1 : World} {mb : Nat} (h : KW W mb w1) : KW W mb w1.drew := ⟨h.os, h.tape, h.output, h.size, h.block⟩
theorem KW.grown {W w1 w2 : World} {mb : Nat} (h : KW W mb w1) (hg : w1.grownBy w2 (some mb)) : KW W mb w2 := World.grownBy.andThen h hg (fun j hj => .inr hj)
theorem KW.step {W w1 w2 : World} {mb : Nat} (h : KW W mb w1) (hb : Below w1.heap.size w1 w2) : KW W mb w2 := World.grownBy.andThen h (grown_of_below hb) (fun j hj => by cases hj)
theorem KW.alloc {W w1 : World} {mb : Nat} (h : KW W mb w1) (o : Obj) : KW W mb (w1.alloc o) := h.step (bAlc (Below.refl _ _) _)

set_option maxRecDepth 100000 in
set_option maxHeartbeats 4000000 in
theorem begins_any (g : Gr) (a : GA) (k : Nat) (hok : GOk g k) (w : World) (hg : GrAt w w.heap.size g a) : Calls Tryz.prog 68 #[gval g a] w (RetF g k w) := by
  have hP := Lib.hid (fun (b : Nat) (ss : List (List Lk)) (w' : World) (h1 : SetsO w' w.heap.size b g.names.length ss) (h2 : ss.length = g.names.length) (h3 : w.heap.size ≤ b) (h4 : SetsFit k ss) (h5 : SoundF g.prods k ss) (h6 : ClosedF g.prods k ss) (h7 : Below w.heap.size w w') =>
    (show RetF g k w (.returned (.slice (some ⟨b, 0, none⟩) g.names.length g.names.length)) w' from ⟨b, ss, rfl, h1, h2, h3, h4, h5, h6, h7⟩))
  obtain ⟨ta, tc, na, nc, pa, pc⟩ := a
  have hok' := Lib.hid hok
  have hG0 := GB.start hg
  have hPl := Lib.hid (fun (w : World) => show Calls Tryz.prog 38 #[.int .i64 g.k] w (RetP w k) by rw [hok.hk]; exact mkplus_any k w)
  have hk := hok.k1
  have hk4 := hok.k4
  have hn8 := hok.nm
  have hp24 := hok.pl
  obtain ⟨i67, hi67, hq0, hq1, hq2⟩ := info_parts info67
  obtain ⟨n, hn⟩ : ∃ n, n = g.names.length := ⟨_, rfl⟩
  have hkk := Lib.hid hok.hk
  clear hg hok
  unfold gval at *
  unfold gcells at *
  dsimp only at *
  rw [← hn] at hn8
  have hz0 : (0 : Int) ≤ n := by omega
  replace hk := Lib.hid hk
  replace hk4 := Lib.hid hk4
  replace hp24 := Lib.hid hp24
  have hn8' := Lib.hid hn8
  clear hn8
  have hmm := @run_makeMap Tryz.prog
  rw [← hn] at hG0 hP ⊢
  replace hn := Lib.hid hn
  go_enter Tryz.func68, Tryz.ntmps68
  go_wp2_with fail
  go_step3
  go_upto_region 2 with (at_make; refine wpList_make_row _ rfl _ _ 65 rfl 69 i67 (.map none) under63 hi67 hq0 hq1 rfl _ _ n rfl rfl (by rw [hq2]; have := hn8'.out; omega) (by have := hn8'.out; omega) ?_)
  have q0 := Blk.newAt (w.alloc (.cells #[.int .i64 g.k, .slice ta g.toks.length tc, .string g.sep, .slice na n nc, .int .i64 g.start, .slice pa g.prods.length pc] 25)) 69 (madeCells #[.map none] n) (w.heap.size + 1) (by simp)
  have hS0 : SetsO _ (w.heap.size + 1) (w.heap.size + 1) n [] := SetsO.start q0 (by simp [madeCells])
  have hG1 := hG0.alloc (.cells (madeCells #[.map none] n) 69)
  clear q0 hG0
  generalize (w.alloc (.cells #[.int .i64 g.k, .slice ta g.toks.length tc, .string g.sep, .slice na n nc, .int .i64 g.start, .slice pa g.prods.length pc] 25)).alloc (.cells (madeCells #[.map none] n) 69) = W1 at *
  obtain ⟨bo, hbo⟩ : ∃ bo, bo = w.heap.size + 1 := ⟨_, rfl⟩
  rw [← hbo] at hS0 ⊢
  have hbo' := Lib.hid hbo
  clear hbo
  go_wp2_with fail
  go_loopg [14] n (fun gk s14 wr => ∃ i : Nat, s14 = .int .i64 i ∧ i + gk = n ∧ SetsO wr bo bo n (List.replicate i []) ∧ GB w g ⟨ta, tc, na, nc, pa, pc⟩ wr)
  case atStart => exact ⟨0, rfl, by omega, hS0, hG1⟩
  case round =>
    clear hS0 hG1
    obtain ⟨i, rfl, hi, hS, hG⟩ := hrel
    replace hi := Lib.hid hi
    by_cases hin : i < n
    · obtain ⟨⟨cv, hcv⟩, hfz, hlt⟩ := hS.blk hin
      have hfz' : (wr.alloc (.map #[] 0)).frozen? ⟨bo, i, none⟩ = false := by
        obtain ⟨cs, mbs, h1, _⟩ := hS
        exact (h1.alloc _).frozen i
      have hcv' : (wr.alloc (.map #[] 0)).cell? ⟨bo, i, none⟩ = some cv := cell_later (bAlc (Below.refl _ _) _) hcv
      have hzi : (0 : Int) ≤ i := by omega
      have hzn : (i : Int) < n := by omega
      have hn9 : n ≤ 8 := hn8'.out.2
      go_wp2_with fail
      go_roundg (n - (i + 1))
      case measure => have := hi.out; omega
      case rel =>
        rw [← World.setCell_alloc_past _ _ _ _ hlt]
        refine ⟨i + 1, by go_num, by have := hi.out; omega, ?_, (hG.alloc _).far _ _ (by have := hbo'.out; show w.heap.size < bo; omega)⟩
        have := hS.push (by simp; omega) (by omega)
        rwa [List.length_replicate, show List.replicate i ([] : List Lk) ++ [[]] = List.replicate (i + 1) [] by rw [List.replicate_succ']] at this
    · have hin' : i = n := by have := hi.out; omega
      subst hin'
      replace hi := Lib.hid hi
      have hfit0 : Hid (SetsFit k (List.replicate i ([] : List Lk))) := Lib.hid (by intro s hs x hx; rw [List.eq_of_mem_replicate hs] at hx; cases hx)
      have hsnd0 : Hid (SoundF g.prods k (List.replicate i ([] : List Lk))) := Lib.hid (by
        intro j y hy
        rw [List.getD_eq_getElem?_getD, List.getElem?_replicate] at hy
        split at hy <;> simp at hy)
      have hlen0 : (List.replicate i ([] : List Lk)).length = i := by simp
      have htot0 : tot (List.replicate i ([] : List Lk)) = 0 := by simp [tot]
      generalize List.replicate i ([] : List Lk) = ss0 at *
      replace hlen0 := Lib.hid hlen0
      replace htot0 := Lib.hid htot0
      go_wp2_with fail
      go_step3
      go_wp2_with fail
      go_loopg [5] (i * 4681) (fun gk s5 wr => ∃ ss : List (List Lk), Hid (tot ss + gk = i * 4681) ∧ Hid (ss.length = i) ∧ Hid (SetsFit k ss) ∧ Hid (SoundF g.prods k ss) ∧ SetsO wr bo bo i ss ∧ GB w g ⟨ta, tc, na, nc, pa, pc⟩ wr)
      case atStart => exact ⟨ss0, Lib.hid (by have := htot0.out; omega), hlen0, hfit0, hsnd0, hS, hG⟩
      case round =>
        clear hS hG htot0 hlen0 hfit0 hsnd0 ss0
        obtain ⟨ss, hgk, hlen, hfit, hsnd, hS, hG⟩ := hrel
        obtain ⟨c0, c1, c2, c3, c4, c5⟩ := hG.cells
        dsimp only at c1 c3 c5
        go_wp2_with fail
        clear c0 c1 c2 c3 c4 c5
        go_loopg [25, 5] g.prods.length (fun gk2 s25 s5 wr => ∃ (j : Nat) (ss' : List (List Lk)) (gr : Bool), s25 = .int .i64 j ∧ s5 = .bool gr ∧ Hid (j + gk2 = g.prods.length) ∧ Hid (ss'.length = i) ∧ Hid (SetsFit k ss') ∧ Hid (SoundF g.prods k ss') ∧ SetsO wr bo bo i ss' ∧ GB w g ⟨ta, tc, na, nc, pa, pc⟩ wr ∧
          Hid (if gr then tot ss < tot ss' else ss' = ss ∧ ∀ p ∈ g.prods.take j, ∀ y ∈ tailL k ss p.right, y ∈ ss.getD (p.left - 16).toNat []))
        case atStart => exact ⟨0, ss, false, rfl, rfl, Lib.hid (by omega), hlen, hfit, hsnd, hS, hG, Lib.hid (by simp)⟩
        case round =>
          clear hS hG hfit hsnd hlen
          obtain ⟨j, ss', gr, rfl, rfl, hj, hlen', hfit', hsnd', hS, hG, hgr⟩ := hrel
          obtain ⟨c0, c1, c2, c3, c4, c5⟩ := hG.cells
          dsimp only at c1 c3 c5
          by_cases hjn : j < g.prods.length
          · have hxi : g.prods[j]? = some g.prods[j] := List.getElem?_eq_getElem hjn
            obtain ⟨b, off, hA, hbt, x0, RA, rc, x1, hx2, hx3, hx4⟩ := hG.2.1.prods.get hxi
            dsimp only at hA
            subst hA
            have hmem := List.getElem_mem hjn
            have htk : g.prods.take (j + 1) = g.prods.take j ++ [g.prods[j]] := List.take_succ_eq_append_getElem hjn
            have hpr := hok'.out.pr _ hmem
            have hsy := hok'.out.sym hmem
            generalize g.prods[j] = p at *
            rw [← hn.out] at hpr hsy
            have hR := round_first hk.out hk4.out hlen'.out hfit'.out hsnd'.out hmem hpr.1 hsy
            have hTf := tail_fit hk.out hk4.out hfit'.out p.right hsy
            have hTl := fit_len (tail_nodup hk.out hk4.out hfit'.out p.right hsy) hTf
            have hpr2 : p.right.length ≤ 1000000 := by omega
            obtain ⟨ix, hix⟩ := Int.eq_ofNat_of_zero_le (show 0 ≤ p.left - 16 by omega)
            have hixn : (p.left - 16).toNat = ix := by omega
            have hixi : ix < i := by omega
            have hR1 := hR.fit
            have hR2 := hR.sound
            have hR3 := hR.grow
            have hR4 := hR.same
            have hR5 := hR.tot
            rw [hixn] at hR1 hR2 hR3 hR4 hR5
            have hJe : newS k ss' p = addAll (ss'.getD ix []) (sumsJ k (tailL k ss' p.right) [Lk.of []]) := by unfold newS; rw [hixn]
            generalize newS k ss' p = J at *
            replace hR1 := Lib.hid hR1
            replace hR2 := Lib.hid hR2
            replace hR3 := Lib.hid hR3
            replace hR4 := Lib.hid hR4
            replace hR5 := Lib.hid hR5
            clear hR
            have zw : IntKind.i64.wrap (ix : Int) = ix := IntWalk.i64_in _ (by have := hn8'.out; omega)
            have hzx : (0 : Int) ≤ ix := by omega
            have hzy : (ix : Int) < i := by omega
            have hzj : (0 : Int) ≤ j := by omega
            have hzk : (j : Int) < g.prods.length := by omega
            have hzl : g.prods.length ≤ 24 := hp24.out
            obtain ⟨mb, hm1, hm2, hm3, hm4, hput⟩ := hS.get ix (by rw [hlen'.out]; exact hixi)
            replace hxi := Lib.hid hxi
            replace htk := Lib.hid htk
            replace hmem := Lib.hid hmem
            replace hpr := Lib.hid hpr
            replace hsy := Lib.hid hsy
            replace hixn := Lib.hid hixn
            replace hm4 := Lib.hid hm4
            replace hput := Lib.hid hput
            have hSr := hS.reads hlen'.out
            have hNd := hS.nodup
            have hb0 : Below wr.heap.size wr (wr.alloc (.cells #[.int .i64 p.left, .slice RA p.right.length rc] 47)) := bAlc (Below.refl _ _) _
            have q7 := Blk.new wr 47 #[.int .i64 p.left, .slice RA p.right.length rc]
            have hG1 := hG.step hb0
            have hS1 := hS.step hb0
            have hx2' := hx2.below (hb0.mono hG.2.2.size)
            have hm5 := Lib.hid (hm4.out.step hb0)
            have hSr1 := (hSr.below hb0)
            have hlw := hG.lt
            have hszw := hb0.size
            have hm3' := cell_later hb0 hm3
            replace hSr1 := Lib.hid hSr1
            replace hNd := Lib.hid hNd
            replace hJe := Lib.hid hJe
            replace hTf := Lib.hid hTf
            replace hTl := Lib.hid hTl
            go_upto_region 11 with (fail)
            clear c0 c1 c2 c3 c4 c5 x0 x1 hx2 hS hG hSr hm3 hm4
            generalize wr.alloc (.cells #[.int .i64 p.left, .slice RA p.right.length rc] 47) = W at *
            generalize wr.heap.size = g7 at *
            have hput2 : ∀ W' (cur : List Lk), KW W mb W' → MapK lookKey W' mb cur → SetsO W' bo bo i (ss'.set ix cur) := by
              intro W' cur hg hm
              obtain ⟨m2, k1, k2, k3, k4, k5⟩ := hS1.get ix (by rw [hlen'.out]; exact hixi)
              rw [hm3'] at k3
              injection k3 with k3
              injection k3 with k3
              injection k3 with k3
              subst k3
              exact k5 W W' cur (Below.refl _ _) hg hm
            have hGK : ∀ W', KW W mb W' → GB w g ⟨ta, tc, na, nc, some ⟨b, off, none⟩, pc⟩ W' := fun W' hg => hG1.grown hg (fun j hj => by cases hj; have := hbo'.out; omega)
            obtain ⟨c0, c1, c2, c3, c4, c5⟩ := hG1.cells
            dsimp only at c1 c3 c5
            have p0 := q7.cell 0
            have p1 := q7.cell 1
            simp only [List.getElem?_toArray, List.getElem?_cons_zero, List.getElem?_cons_succ] at p0 p1
            have hAll : Hid (∀ w', KW W mb w' → w'.cell? ⟨w.heap.size, 0, none⟩ = some (.int .i64 g.k) ∧ w'.cell? ⟨w.heap.size, 1, none⟩ = some (.slice ta g.toks.length tc) ∧ w'.cell? ⟨w.heap.size, 2, none⟩ = some (.string g.sep) ∧ w'.cell? ⟨w.heap.size, 3, none⟩ = some (.slice na i nc) ∧ w'.cell? ⟨w.heap.size, 4, none⟩ = some (.int .i64 g.start) ∧ w'.cell? ⟨w.heap.size, 5, none⟩ = some (.slice (some ⟨b, off, none⟩) g.prods.length pc) ∧
                w'.cell? ⟨g7, 0, none⟩ = some (.int .i64 p.left) ∧ w'.cell? ⟨g7, 1, none⟩ = some (.slice RA p.right.length rc) ∧ w'.cell? ⟨bo, ix, none⟩ = some (.map (some mb)) ∧ KW W mb w') :=
              Lib.hid fun w' h => ⟨cell_map c0 hm5.out h, cell_map c1 hm5.out h, cell_map c2 hm5.out h, by rw [hn.out]; exact cell_map c3 hm5.out h, cell_map c4 hm5.out h, cell_map c5 hm5.out h, cell_map p0 hm5.out h, cell_map p1 hm5.out h, cell_map hm3' hm5.out h, h⟩
            have hT : Hid (∀ W', Below W.heap.size W W' → Calls Tryz.prog 36 #[.agg #[.int .i64 g.k, .slice ta g.toks.length tc, .string g.sep, .slice na i nc, .int .i64 g.start, .slice (some ⟨b, off, none⟩) g.prods.length pc], .slice (some ⟨bo, 0, none⟩) i i, .slice RA p.right.length rc] W' (RetL W' (tailL k ss' p.right))) :=
              Lib.hid fun W' hb => by
                have := tail_any g ⟨ta, tc, na, nc, some ⟨b, off, none⟩, pc⟩ k hkk.out hk.out hk4.out (some ⟨bo, 0, none⟩) i i ss' RA p.right.length rc p.right W' (((hG1.step hb).2.1).mono (by have := hb.size; omega)) ((hS1.step hb).reads hlen'.out) hfit'.out hNd.out (by have := hn8'.out; omega) ((hx2'.mono (by omega)).below hb |>.mono hb.size) hpr2 hsy.out
                rw [hn.out]
                rw [hn.out] at this
                exact this
            have hJ : Hid (∀ A1 c1 B0 Bk W', Below W.heap.size W W' → RdL W' W'.heap.size A1 (tailL k ss' p.right).length (tailL k ss' p.right) → RdL W' W'.heap.size (some ⟨B0, 0, none⟩) 1 [Lk.of []] → W'.cell? ⟨Bk, 0, none⟩ = some (.int .i64 k) → Bk < W'.heap.size →
                Calls Tryz.prog 35 #[.map (some mb), .slice A1 (tailL k ss' p.right).length c1, .slice (some ⟨B0, 0, none⟩) 1 1, .func (.func 75) #[] #[.pointer (some ⟨Bk, 0, none⟩)]] W' (RetJ W' mb (ss'.getD ix []) J)) :=
              Lib.hid fun A1 c1 B0 Bk W' hb r1 r2 hc hBk => by
                rw [hJe.out]
                exact joined_any k A1 (some ⟨B0, 0, none⟩) _ 1 c1 1 _ [Lk.of []] _ mb Bk W' hk4.out r1 r2 (fun x hx => (hTf.out x hx).1) (fun x hx => by simp at hx; subst hx; exact (nil_fit k).1) (fun x hx => (hTf.out x hx).2) (by have := hTl.out; omega) (by omega) (hm5.out.step hb) hc hBk
            obtain ⟨gb, hgb⟩ : ∃ gb, gb = decide (J.length ≠ (ss'.getD ix []).length) := ⟨_, rfl⟩
            unfold RetJ at hJ
            rw [← hgb] at hJ
            replace hgb := Lib.hid hgb
            have hEndT : Hid (J.length ≠ (ss'.getD ix []).length → tot ss < tot (ss'.set ix J)) := Lib.hid fun h => by
              have h5 := hR5.out
              have h3 := hR3.out
              have h6 : tot ss ≤ tot ss' := by
                have := hgr.out
                cases gr
                · simp only [Bool.false_eq_true, if_false] at this; rw [this.1]; exact Nat.le_refl _
                · simp only [if_true] at this; omega
              omega
            have hEndF : Hid (J.length = (ss'.getD ix []).length → ss'.set ix J = ss' ∧ (if gr then tot ss < tot ss' else ss' = ss ∧ ∀ q ∈ g.prods.take (j + 1), ∀ y ∈ tailL k ss q.right, y ∈ ss.getD (q.left - 16).toNat [])) := Lib.hid fun h => by
              obtain ⟨h1, h2⟩ := hR4.out h
              refine ⟨h1, ?_⟩
              have := hgr.out
              cases gr
              · simp only [Bool.false_eq_true, if_false] at this ⊢
                obtain ⟨rfl, h4⟩ := this
                refine ⟨rfl, fun q hq y hy => ?_⟩
                rw [htk.out] at hq
                rcases List.mem_append.1 hq with hq | hq
                · exact h4 q hq y hy
                · simp at hq; subst hq
                  rw [hixn.out]; exact h2 y hy
              · simpa using this
            replace hput2 := Lib.hid hput2
            replace hGK := Lib.hid hGK
            clear c0 c1 c2 c3 c4 c5 p0 p1 q7 hS1 hG1
            generalize tailL k ss' p.right = T at *
            generalize ss'.getD ix [] = cur at *
            cases gb with
            | true =>
              have hgn := of_decide_eq_true hgb.out.symm
              refine wp_region_held_drew (S := (fun w' => w'.cell? ⟨w.heap.size, 0, none⟩ = some (.int .i64 g.k) ∧ w'.cell? ⟨w.heap.size, 1, none⟩ = some (.slice ta g.toks.length tc) ∧ w'.cell? ⟨w.heap.size, 2, none⟩ = some (.string g.sep) ∧ w'.cell? ⟨w.heap.size, 3, none⟩ = some (.slice na i nc) ∧ w'.cell? ⟨w.heap.size, 4, none⟩ = some (.int .i64 g.start) ∧ w'.cell? ⟨w.heap.size, 5, none⟩ = some (.slice (some ⟨b, off, none⟩) g.prods.length pc) ∧
                w'.cell? ⟨g7, 0, none⟩ = some (.int .i64 p.left) ∧ w'.cell? ⟨g7, 1, none⟩ = some (.slice RA p.right.length rc) ∧ w'.cell? ⟨bo, ix, none⟩ = some (.map (some mb)) ∧ KW W mb w')) (by kernel_rfl) (hAll.out _ (KW.refl _ _).drew) (fun hHeld => ?_)
              refine wpAnyH_take (i := 0) (oi := ⟨some 29, _, _, _, _, _⟩) (v := ?v1) rfl (by kernel_rfl) (by kernel_rfl) (by kernel_rfl) (fun _ _ _ h => h) (Or.inl ⟨by rfl, ?hy1⟩) (by assumption) ?rest1
              case hy1 => (intro w hSw; (try dsimp only at hSw); go_simp <;> with_reducible rfl)
              try simp only [Act.put, List.setIfInBounds_toArray, List.set_cons_zero, List.set_cons_succ]
              refine wpAnyH_take (i := 1) (oi := ⟨some 30, _, _, _, _, _⟩) (v := ?v2) rfl (by kernel_rfl) (by kernel_rfl) (by kernel_rfl) (fun _ _ _ h => h) (Or.inl ⟨by rfl, ?hy2⟩) (by assumption) ?rest2
              case hy2 => (intro w hSw; (try dsimp only at hSw); go_simp <;> with_reducible rfl)
              try simp only [Act.put, List.setIfInBounds_toArray, List.set_cons_zero, List.set_cons_succ]
              refine wpAnyH_take (i := 2) (oi := ⟨some 31, _, _, _, _, _⟩) (v := ?v3) rfl (by kernel_rfl) (by kernel_rfl) (by kernel_rfl) (fun _ _ _ h => h) (Or.inl ⟨by rfl, ?hy3⟩) (by assumption) ?rest3
              case hy3 => (intro w hSw; (try dsimp only at hSw); go_simp <;> with_reducible rfl)
              try simp only [Act.put, List.setIfInBounds_toArray, List.set_cons_zero, List.set_cons_succ]
              refine wpAnyH_take (i := 3) (oi := ⟨some 32, _, _, _, _, _⟩) (v := ?v4) rfl (by kernel_rfl) (by kernel_rfl) (by kernel_rfl) (fun _ _ _ h => h) (Or.inl ⟨by rfl, ?hy4⟩) (by assumption) ?rest4
              case hy4 => (intro w hSw; (try dsimp only at hSw); go_simp <;> with_reducible rfl)
              try simp only [Act.put, List.setIfInBounds_toArray, List.set_cons_zero, List.set_cons_succ]
              refine wpAnyH_take (i := 4) (oi := ⟨some 33, _, _, _, _, _⟩) (v := ?v5) rfl (by kernel_rfl) (by kernel_rfl) (by kernel_rfl) (fun _ _ _ h => h) (Or.inl ⟨by rfl, ?hy5⟩) (by assumption) ?rest5
              case hy5 => (intro w hSw; (try dsimp only at hSw); go_simp <;> with_reducible rfl)
              try simp only [Act.put, List.setIfInBounds_toArray, List.set_cons_zero, List.set_cons_succ]
              refine wpAnyH_take (i := 5) (oi := ⟨some 34, _, _, _, _, _⟩) (v := ?v6) rfl (by kernel_rfl) (by kernel_rfl) (by kernel_rfl) (fun _ _ _ h => h) (Or.inl ⟨by rfl, ?hy6⟩) (by assumption) ?rest6
              case hy6 => (intro w hSw; (try dsimp only at hSw); go_simp <;> with_reducible rfl)
              try simp only [Act.put, List.setIfInBounds_toArray, List.set_cons_zero, List.set_cons_succ]
              refine wpAnyH_take (i := 6) (oi := ⟨some 35, _, _, _, _, _⟩) (v := ?v7) rfl (by kernel_rfl) (by kernel_rfl) (by kernel_rfl) (fun _ _ _ h => h) (Or.inl ⟨by rfl, ?hy7⟩) (by assumption) ?rest7
              case hy7 => (intro w hSw; (try dsimp only at hSw); go_simp <;> with_reducible rfl)
              try simp only [Act.put, List.setIfInBounds_toArray, List.set_cons_zero, List.set_cons_succ]
              refine wpAnyH_take (i := 7) (oi := ⟨some 36, _, _, _, _, _⟩) (v := ?v8) rfl (by kernel_rfl) (by kernel_rfl) (by kernel_rfl) (fun _ _ _ h => h) (Or.inl ⟨by rfl, ?hy8⟩) (by assumption) ?rest8
              case hy8 => (intro w hSw; (try dsimp only at hSw); go_simp <;> with_reducible rfl)
              try simp only [Act.put, List.setIfInBounds_toArray, List.set_cons_zero, List.set_cons_succ]
              refine wpAnyH_take (i := 8) (oi := ⟨some 37, _, _, _, _, _⟩) (v := ?v9) rfl (by kernel_rfl) (by kernel_rfl) (by kernel_rfl) (fun _ _ _ h => h) (Or.inl ⟨by rfl, ?hy9⟩) (by assumption) ?rest9
              case hy9 => (intro w hSw; (try dsimp only at hSw); go_simp <;> with_reducible rfl)
              try simp only [Act.put, List.setIfInBounds_toArray, List.set_cons_zero, List.set_cons_succ]
              refine wpAnyH_take (i := 9) (oi := ⟨some 38, _, _, _, _, _⟩) (v := ?v10) rfl (by kernel_rfl) (by kernel_rfl) (by kernel_rfl) (fun _ _ _ h => h) (Or.inl ⟨by rfl, ?hy10⟩) (by assumption) ?rest10
              case hy10 => (intro w hSw; (try dsimp only at hSw); go_simp <;> with_reducible rfl)
              try simp only [Act.put, List.setIfInBounds_toArray, List.set_cons_zero, List.set_cons_succ]
              refine wpAnyH_take (i := 11) (oi := ⟨some 40, _, _, _, _, _⟩) (v := ?v11) rfl (by kernel_rfl) (by kernel_rfl) (by kernel_rfl) (fun _ _ _ h => h) (Or.inl ⟨by rfl, ?hy11⟩) (by assumption) ?rest11
              case hy11 => (intro w hSw; (try dsimp only at hSw); go_simp <;> with_reducible rfl)
              try simp only [Act.put, List.setIfInBounds_toArray, List.set_cons_zero, List.set_cons_succ]
              refine wpAnyH_take (i := 13) (oi := ⟨some 42, _, _, _, _, _⟩) (v := ?v12) rfl (by kernel_rfl) (by kernel_rfl) (by kernel_rfl) (fun _ _ _ h => h) (Or.inl ⟨by rfl, ?hy12⟩) (by assumption) ?rest12
              case hy12 => (intro w hSw; (try dsimp only at hSw); go_simp <;> with_reducible rfl)
              try simp only [Act.put, List.setIfInBounds_toArray, List.set_cons_zero, List.set_cons_succ]
              refine wpAnyH_take (i := 14) (oi := ⟨some 43, _, _, _, _, _⟩) (v := ?v13) rfl (by kernel_rfl) (by kernel_rfl) (by kernel_rfl) (fun _ _ _ h => h) (Or.inl ⟨by rfl, ?hy13⟩) (by assumption) ?rest13
              case hy13 => (intro w hSw; (try dsimp only at hSw); go_simp <;> with_reducible rfl)
              try simp only [Act.put, List.setIfInBounds_toArray, List.set_cons_zero, List.set_cons_succ]
              refine wpAnyH_ready (rs := [10, 12]) (by kernel_rfl) (by simp) ?_
              refine AllReadyH.cons (o := ⟨some 39, _, _, _, _, _⟩) rfl (fun K hK => ?_) ?_
              · go_simp
                go_at_call 36
                refine (hT.out _ (by repeat (first | assumption | exact Below.refl _ _ | (refine bStep ?_ (by assumption)) | (with_reducible refine bAlc ?_ _) | (with_reducible refine bDrw ?_)))).mono ?_
                rintro e w1 ⟨v1, rfl, ho1, hb1⟩
                obtain ⟨A1, k1, rfl, hd1, hk1, hmm1, hg1⟩ := ho1.reads
                go_wp2_with fail
                refine hK.out _ _ ?_ (fun hHeld => ?_)
                · (refine hAll.out _ ?_; repeat (first | exact KW.refl _ _ | (refine KW.grown ?_ (by assumption)) | (refine KW.step ?_ (by assumption)) | (with_reducible refine KW.alloc ?_ _) | (with_reducible refine KW.drew ?_)))
                clear hK K
                try simp only [Act.put, List.setIfInBounds_toArray, List.set_cons_zero, List.set_cons_succ]
                refine wpAnyH_ready (rs := [12, 15]) (by kernel_rfl) (by simp) ?_
                refine AllReadyH.cons (o := ⟨some 41, _, _, _, _, _⟩) rfl (fun K hK => ?_) ?_
                · go_simp
                  refine hK.out _ _ ?_ (fun hHeld => ?_)
                  · (refine hAll.out _ ?_; repeat (first | exact KW.refl _ _ | (refine KW.grown ?_ (by assumption)) | (refine KW.step ?_ (by assumption)) | (with_reducible refine KW.alloc ?_ _) | (with_reducible refine KW.drew ?_)))
                  clear hK K
                  try simp only [Act.put, List.setIfInBounds_toArray, List.set_cons_zero, List.set_cons_succ]
                  refine wpAnyH_ready (rs := [15]) (by kernel_rfl) (by simp) ?_
                  refine AllReadyH.cons (o := ⟨some 44, _, _, _, _, _⟩) rfl (fun K hK => ?_) ?_
                  · go_simp
                    go_at_call 38
                    refine (hPl.out _).mono ?_
                    rintro e w2 ⟨Bk, rfl, p1, p2, p3, p4⟩
                    go_wp2_with fail
                    refine hK.out _ _ ?_ (fun hHeld => ?_)
                    · (refine hAll.out _ ?_; repeat (first | exact KW.refl _ _ | (refine KW.grown ?_ (by assumption)) | (refine KW.step ?_ (by assumption)) | (with_reducible refine KW.alloc ?_ _) | (with_reducible refine KW.drew ?_)))
                    clear hK K
                    try simp only [Act.put, List.setIfInBounds_toArray, List.set_cons_zero, List.set_cons_succ]
                    refine wpAnyH_ready (rs := [16]) (by kernel_rfl) (by simp) ?_
                    refine AllReadyH.cons (o := ⟨some 45, _, _, _, _, _⟩) rfl (fun K hK => ?_) ?_
                    · go_simp
                      go_at_call 35
                      refine (hJ.out A1 k1 _ Bk _ (by repeat (first | assumption | exact Below.refl _ _ | (refine bStep ?_ (by assumption)) | (with_reducible refine bAlc ?_ _) | (with_reducible refine bDrw ?_))) (rdl_to hd1 (by repeat (first | assumption | exact Below.refl _ _ | (refine bStep ?_ (by assumption)) | (with_reducible refine bAlc ?_ _) | (with_reducible refine bDrw ?_)))) (rdl_lay _ _ (by repeat (first | assumption | exact Below.refl _ _ | (refine bStep ?_ (by assumption)) | (with_reducible refine bAlc ?_ _) | (with_reducible refine bDrw ?_)))) (cell_later (by repeat (first | assumption | exact Below.refl _ _ | (refine bStep ?_ (by assumption)) | (with_reducible refine bAlc ?_ _) | (with_reducible refine bDrw ?_))) p1) (bk_lt p3 (by repeat (first | assumption | exact Below.refl _ _ | (refine bStep ?_ (by assumption)) | (with_reducible refine bAlc ?_ _) | (with_reducible refine bDrw ?_))))).mono ?_
                      rintro e w3 ⟨rfl, hM3, hg3⟩
                      go_wp2_with fail
                      refine hK.out _ _ ?_ (fun hHeld => ?_)
                      · (refine hAll.out _ ?_; repeat (first | exact KW.refl _ _ | (refine KW.grown ?_ (by assumption)) | (refine KW.step ?_ (by assumption)) | (with_reducible refine KW.alloc ?_ _) | (with_reducible refine KW.drew ?_)))
                      clear hK K
                      try simp only [Act.put, List.setIfInBounds_toArray, List.set_cons_zero, List.set_cons_succ]
                      refine wpAnyH_take (i := 17) (oi := ⟨some 46, _, _, _, _, _⟩) (v := ?v14) rfl (by kernel_rfl) (by kernel_rfl) (by kernel_rfl) (fun _ _ _ h => h) (Or.inl ⟨by rfl, ?hy14⟩) (by assumption) ?rest14
                      case hy14 => (intro w hSw; (try dsimp only at hSw); go_simp <;> with_reducible rfl)
                      try simp only [Act.put, List.setIfInBounds_toArray, List.set_cons_zero, List.set_cons_succ]
                      refine wpAnyH_take (i := 18) (oi := ⟨some 47, _, _, _, _, _⟩) (v := undef) rfl (by kernel_rfl) (by kernel_rfl) (by kernel_rfl) (fun _ _ _ h => h) (Or.inr ⟨by rfl, rfl⟩) (by assumption) ?_
                      try simp only [Act.put, List.setIfInBounds_toArray, List.set_cons_zero, List.set_cons_succ]
                      refine wpAnyH_take (i := 19) (oi := ⟨some 48, _, _, _, _, _⟩) (v := ?v16) rfl (by kernel_rfl) (by kernel_rfl) (by kernel_rfl) (fun _ _ _ h => h) (Or.inl ⟨by rfl, ?hy16⟩) (by assumption) ?rest16
                      case hy16 => (intro w hSw; (try dsimp only at hSw); go_simp <;> with_reducible rfl)
                      try simp only [Act.put, List.setIfInBounds_toArray, List.set_cons_zero, List.set_cons_succ]
                      refine wpAnyH_take (i := 20) (oi := ⟨some 5, _, _, _, _, _⟩) (v := ?v17) rfl (by kernel_rfl) (by kernel_rfl) (by kernel_rfl) (fun _ _ _ h => h) (Or.inl ⟨by rfl, ?hy17⟩) (by assumption) ?rest17
                      case hy17 => (intro w hSw; (try dsimp only at hSw); go_simp <;> with_reducible rfl)
                      try simp only [Act.put, List.setIfInBounds_toArray, List.set_cons_zero, List.set_cons_succ]
                      refine wpAnyH_done (by kernel_rfl) ?_ _
                      go_wp2_with fail
                      go_roundg (g.prods.length - (j + 1))
                      case measure => have := hj.out; omega
                      case rel => exact ⟨j + 1, ss'.set ix J, true, by go_num, rfl, Lib.hid (by have := hj.out; omega), Lib.hid (by simpa using hlen'.out), hR1, hR2, hput2.out _ _ (by repeat (first | exact KW.refl _ _ | (refine KW.grown ?_ (by assumption)) | (refine KW.step ?_ (by assumption)) | (with_reducible refine KW.alloc ?_ _) | (with_reducible refine KW.drew ?_))) hM3, hGK.out _ (by repeat (first | exact KW.refl _ _ | (refine KW.grown ?_ (by assumption)) | (refine KW.step ?_ (by assumption)) | (with_reducible refine KW.alloc ?_ _) | (with_reducible refine KW.drew ?_))), Lib.hid (hEndT.out hgn)⟩
                    exact AllReadyH.nil
                  exact AllReadyH.nil
                refine AllReadyH.cons (o := ⟨some 44, _, _, _, _, _⟩) rfl (fun K hK => ?_) ?_
                · go_simp
                  go_at_call 38
                  refine (hPl.out _).mono ?_
                  rintro e w2 ⟨Bk, rfl, p1, p2, p3, p4⟩
                  go_wp2_with fail
                  refine hK.out _ _ ?_ (fun hHeld => ?_)
                  · (refine hAll.out _ ?_; repeat (first | exact KW.refl _ _ | (refine KW.grown ?_ (by assumption)) | (refine KW.step ?_ (by assumption)) | (with_reducible refine KW.alloc ?_ _) | (with_reducible refine KW.drew ?_)))
                  clear hK K
                  try simp only [Act.put, List.setIfInBounds_toArray, List.set_cons_zero, List.set_cons_succ]
                  refine wpAnyH_ready (rs := [12]) (by kernel_rfl) (by simp) ?_
                  refine AllReadyH.cons (o := ⟨some 41, _, _, _, _, _⟩) rfl (fun K hK => ?_) ?_
                  · go_simp
                    refine hK.out _ _ ?_ (fun hHeld => ?_)
                    · (refine hAll.out _ ?_; repeat (first | exact KW.refl _ _ | (refine KW.grown ?_ (by assumption)) | (refine KW.step ?_ (by assumption)) | (with_reducible refine KW.alloc ?_ _) | (with_reducible refine KW.drew ?_)))
                    clear hK K
                    try simp only [Act.put, List.setIfInBounds_toArray, List.set_cons_zero, List.set_cons_succ]
                    refine wpAnyH_ready (rs := [16]) (by kernel_rfl) (by simp) ?_
                    refine AllReadyH.cons (o := ⟨some 45, _, _, _, _, _⟩) rfl (fun K hK => ?_) ?_
                    · go_simp
                      go_at_call 35
                      refine (hJ.out A1 k1 _ Bk _ (by repeat (first | assumption | exact Below.refl _ _ | (refine bStep ?_ (by assumption)) | (with_reducible refine bAlc ?_ _) | (with_reducible refine bDrw ?_))) (rdl_to hd1 (by repeat (first | assumption | exact Below.refl _ _ | (refine bStep ?_ (by assumption)) | (with_reducible refine bAlc ?_ _) | (with_reducible refine bDrw ?_)))) (rdl_lay _ _ (by repeat (first | assumption | exact Below.refl _ _ | (refine bStep ?_ (by assumption)) | (with_reducible refine bAlc ?_ _) | (with_reducible refine bDrw ?_)))) (cell_later (by repeat (first | assumption | exact Below.refl _ _ | (refine bStep ?_ (by assumption)) | (with_reducible refine bAlc ?_ _) | (with_reducible refine bDrw ?_))) p1) (bk_lt p3 (by repeat (first | assumption | exact Below.refl _ _ | (refine bStep ?_ (by assumption)) | (with_reducible refine bAlc ?_ _) | (with_reducible refine bDrw ?_))))).mono ?_
                      rintro e w3 ⟨rfl, hM3, hg3⟩
                      go_wp2_with fail
                      refine hK.out _ _ ?_ (fun hHeld => ?_)
                      · (refine hAll.out _ ?_; repeat (first | exact KW.refl _ _ | (refine KW.grown ?_ (by assumption)) | (refine KW.step ?_ (by assumption)) | (with_reducible refine KW.alloc ?_ _) | (with_reducible refine KW.drew ?_)))
                      clear hK K
                      try simp only [Act.put, List.setIfInBounds_toArray, List.set_cons_zero, List.set_cons_succ]
                      refine wpAnyH_take (i := 17) (oi := ⟨some 46, _, _, _, _, _⟩) (v := ?v18) rfl (by kernel_rfl) (by kernel_rfl) (by kernel_rfl) (fun _ _ _ h => h) (Or.inl ⟨by rfl, ?hy18⟩) (by assumption) ?rest18
                      case hy18 => (intro w hSw; (try dsimp only at hSw); go_simp <;> with_reducible rfl)
                      try simp only [Act.put, List.setIfInBounds_toArray, List.set_cons_zero, List.set_cons_succ]
                      refine wpAnyH_take (i := 18) (oi := ⟨some 47, _, _, _, _, _⟩) (v := undef) rfl (by kernel_rfl) (by kernel_rfl) (by kernel_rfl) (fun _ _ _ h => h) (Or.inr ⟨by rfl, rfl⟩) (by assumption) ?_
                      try simp only [Act.put, List.setIfInBounds_toArray, List.set_cons_zero, List.set_cons_succ]
                      refine wpAnyH_take (i := 19) (oi := ⟨some 48, _, _, _, _, _⟩) (v := ?v20) rfl (by kernel_rfl) (by kernel_rfl) (by kernel_rfl) (fun _ _ _ h => h) (Or.inl ⟨by rfl, ?hy20⟩) (by assumption) ?rest20
                      case hy20 => (intro w hSw; (try dsimp only at hSw); go_simp <;> with_reducible rfl)
                      try simp only [Act.put, List.setIfInBounds_toArray, List.set_cons_zero, List.set_cons_succ]
                      refine wpAnyH_take (i := 20) (oi := ⟨some 5, _, _, _, _, _⟩) (v := ?v21) rfl (by kernel_rfl) (by kernel_rfl) (by kernel_rfl) (fun _ _ _ h => h) (Or.inl ⟨by rfl, ?hy21⟩) (by assumption) ?rest21
                      case hy21 => (intro w hSw; (try dsimp only at hSw); go_simp <;> with_reducible rfl)
                      try simp only [Act.put, List.setIfInBounds_toArray, List.set_cons_zero, List.set_cons_succ]
                      refine wpAnyH_done (by kernel_rfl) ?_ _
                      go_wp2_with fail
                      go_roundg (g.prods.length - (j + 1))
                      case measure => have := hj.out; omega
                      case rel => exact ⟨j + 1, ss'.set ix J, true, by go_num, rfl, Lib.hid (by have := hj.out; omega), Lib.hid (by simpa using hlen'.out), hR1, hR2, hput2.out _ _ (by repeat (first | exact KW.refl _ _ | (refine KW.grown ?_ (by assumption)) | (refine KW.step ?_ (by assumption)) | (with_reducible refine KW.alloc ?_ _) | (with_reducible refine KW.drew ?_))) hM3, hGK.out _ (by repeat (first | exact KW.refl _ _ | (refine KW.grown ?_ (by assumption)) | (refine KW.step ?_ (by assumption)) | (with_reducible refine KW.alloc ?_ _) | (with_reducible refine KW.drew ?_))), Lib.hid (hEndT.out hgn)⟩
                    exact AllReadyH.nil
                  exact AllReadyH.nil
                exact AllReadyH.nil
              refine AllReadyH.cons (o := ⟨some 41, _, _, _, _, _⟩) rfl (fun K hK => ?_) ?_
              · go_simp
                refine hK.out _ _ ?_ (fun hHeld => ?_)
                · (refine hAll.out _ ?_; repeat (first | exact KW.refl _ _ | (refine KW.grown ?_ (by assumption)) | (refine KW.step ?_ (by assumption)) | (with_reducible refine KW.alloc ?_ _) | (with_reducible refine KW.drew ?_)))
                clear hK K
                try simp only [Act.put, List.setIfInBounds_toArray, List.set_cons_zero, List.set_cons_succ]
                refine wpAnyH_ready (rs := [10]) (by kernel_rfl) (by simp) ?_
                refine AllReadyH.cons (o := ⟨some 39, _, _, _, _, _⟩) rfl (fun K hK => ?_) ?_
                · go_simp
                  go_at_call 36
                  refine (hT.out _ (by repeat (first | assumption | exact Below.refl _ _ | (refine bStep ?_ (by assumption)) | (with_reducible refine bAlc ?_ _) | (with_reducible refine bDrw ?_)))).mono ?_
                  rintro e w1 ⟨v1, rfl, ho1, hb1⟩
                  obtain ⟨A1, k1, rfl, hd1, hk1, hmm1, hg1⟩ := ho1.reads
                  go_wp2_with fail
                  refine hK.out _ _ ?_ (fun hHeld => ?_)
                  · (refine hAll.out _ ?_; repeat (first | exact KW.refl _ _ | (refine KW.grown ?_ (by assumption)) | (refine KW.step ?_ (by assumption)) | (with_reducible refine KW.alloc ?_ _) | (with_reducible refine KW.drew ?_)))
                  clear hK K
                  try simp only [Act.put, List.setIfInBounds_toArray, List.set_cons_zero, List.set_cons_succ]
                  refine wpAnyH_ready (rs := [15]) (by kernel_rfl) (by simp) ?_
                  refine AllReadyH.cons (o := ⟨some 44, _, _, _, _, _⟩) rfl (fun K hK => ?_) ?_
                  · go_simp
                    go_at_call 38
                    refine (hPl.out _).mono ?_
                    rintro e w2 ⟨Bk, rfl, p1, p2, p3, p4⟩
                    go_wp2_with fail
                    refine hK.out _ _ ?_ (fun hHeld => ?_)
                    · (refine hAll.out _ ?_; repeat (first | exact KW.refl _ _ | (refine KW.grown ?_ (by assumption)) | (refine KW.step ?_ (by assumption)) | (with_reducible refine KW.alloc ?_ _) | (with_reducible refine KW.drew ?_)))
                    clear hK K
                    try simp only [Act.put, List.setIfInBounds_toArray, List.set_cons_zero, List.set_cons_succ]
                    refine wpAnyH_ready (rs := [16]) (by kernel_rfl) (by simp) ?_
                    refine AllReadyH.cons (o := ⟨some 45, _, _, _, _, _⟩) rfl (fun K hK => ?_) ?_
                    · go_simp
                      go_at_call 35
                      refine (hJ.out A1 k1 _ Bk _ (by repeat (first | assumption | exact Below.refl _ _ | (refine bStep ?_ (by assumption)) | (with_reducible refine bAlc ?_ _) | (with_reducible refine bDrw ?_))) (rdl_to hd1 (by repeat (first | assumption | exact Below.refl _ _ | (refine bStep ?_ (by assumption)) | (with_reducible refine bAlc ?_ _) | (with_reducible refine bDrw ?_)))) (rdl_lay _ _ (by repeat (first | assumption | exact Below.refl _ _ | (refine bStep ?_ (by assumption)) | (with_reducible refine bAlc ?_ _) | (with_reducible refine bDrw ?_)))) (cell_later (by repeat (first | assumption | exact Below.refl _ _ | (refine bStep ?_ (by assumption)) | (with_reducible refine bAlc ?_ _) | (with_reducible refine bDrw ?_))) p1) (bk_lt p3 (by repeat (first | assumption | exact Below.refl _ _ | (refine bStep ?_ (by assumption)) | (with_reducible refine bAlc ?_ _) | (with_reducible refine bDrw ?_))))).mono ?_
                      rintro e w3 ⟨rfl, hM3, hg3⟩
                      go_wp2_with fail
                      refine hK.out _ _ ?_ (fun hHeld => ?_)
                      · (refine hAll.out _ ?_; repeat (first | exact KW.refl _ _ | (refine KW.grown ?_ (by assumption)) | (refine KW.step ?_ (by assumption)) | (with_reducible refine KW.alloc ?_ _) | (with_reducible refine KW.drew ?_)))
                      clear hK K
                      try simp only [Act.put, List.setIfInBounds_toArray, List.set_cons_zero, List.set_cons_succ]
                      refine wpAnyH_take (i := 17) (oi := ⟨some 46, _, _, _, _, _⟩) (v := ?v22) rfl (by kernel_rfl) (by kernel_rfl) (by kernel_rfl) (fun _ _ _ h => h) (Or.inl ⟨by rfl, ?hy22⟩) (by assumption) ?rest22
                      case hy22 => (intro w hSw; (try dsimp only at hSw); go_simp <;> with_reducible rfl)
                      try simp only [Act.put, List.setIfInBounds_toArray, List.set_cons_zero, List.set_cons_succ]
                      refine wpAnyH_take (i := 18) (oi := ⟨some 47, _, _, _, _, _⟩) (v := undef) rfl (by kernel_rfl) (by kernel_rfl) (by kernel_rfl) (fun _ _ _ h => h) (Or.inr ⟨by rfl, rfl⟩) (by assumption) ?_
                      try simp only [Act.put, List.setIfInBounds_toArray, List.set_cons_zero, List.set_cons_succ]
                      refine wpAnyH_take (i := 19) (oi := ⟨some 48, _, _, _, _, _⟩) (v := ?v24) rfl (by kernel_rfl) (by kernel_rfl) (by kernel_rfl) (fun _ _ _ h => h) (Or.inl ⟨by rfl, ?hy24⟩) (by assumption) ?rest24
                      case hy24 => (intro w hSw; (try dsimp only at hSw); go_simp <;> with_reducible rfl)
                      try simp only [Act.put, List.setIfInBounds_toArray, List.set_cons_zero, List.set_cons_succ]
                      refine wpAnyH_take (i := 20) (oi := ⟨some 5, _, _, _, _, _⟩) (v := ?v25) rfl (by kernel_rfl) (by kernel_rfl) (by kernel_rfl) (fun _ _ _ h => h) (Or.inl ⟨by rfl, ?hy25⟩) (by assumption) ?rest25
                      case hy25 => (intro w hSw; (try dsimp only at hSw); go_simp <;> with_reducible rfl)
                      try simp only [Act.put, List.setIfInBounds_toArray, List.set_cons_zero, List.set_cons_succ]
                      refine wpAnyH_done (by kernel_rfl) ?_ _
                      go_wp2_with fail
                      go_roundg (g.prods.length - (j + 1))
                      case measure => have := hj.out; omega
                      case rel => exact ⟨j + 1, ss'.set ix J, true, by go_num, rfl, Lib.hid (by have := hj.out; omega), Lib.hid (by simpa using hlen'.out), hR1, hR2, hput2.out _ _ (by repeat (first | exact KW.refl _ _ | (refine KW.grown ?_ (by assumption)) | (refine KW.step ?_ (by assumption)) | (with_reducible refine KW.alloc ?_ _) | (with_reducible refine KW.drew ?_))) hM3, hGK.out _ (by repeat (first | exact KW.refl _ _ | (refine KW.grown ?_ (by assumption)) | (refine KW.step ?_ (by assumption)) | (with_reducible refine KW.alloc ?_ _) | (with_reducible refine KW.drew ?_))), Lib.hid (hEndT.out hgn)⟩
                    exact AllReadyH.nil
                  exact AllReadyH.nil
                exact AllReadyH.nil
              exact AllReadyH.nil
            | false =>
              have hgn := Decidable.of_not_not (of_decide_eq_false hgb.out.symm)
              refine wp_region_held_drew (S := (fun w' => w'.cell? ⟨w.heap.size, 0, none⟩ = some (.int .i64 g.k) ∧ w'.cell? ⟨w.heap.size, 1, none⟩ = some (.slice ta g.toks.length tc) ∧ w'.cell? ⟨w.heap.size, 2, none⟩ = some (.string g.sep) ∧ w'.cell? ⟨w.heap.size, 3, none⟩ = some (.slice na i nc) ∧ w'.cell? ⟨w.heap.size, 4, none⟩ = some (.int .i64 g.start) ∧ w'.cell? ⟨w.heap.size, 5, none⟩ = some (.slice (some ⟨b, off, none⟩) g.prods.length pc) ∧
                w'.cell? ⟨g7, 0, none⟩ = some (.int .i64 p.left) ∧ w'.cell? ⟨g7, 1, none⟩ = some (.slice RA p.right.length rc) ∧ w'.cell? ⟨bo, ix, none⟩ = some (.map (some mb)) ∧ KW W mb w')) (by kernel_rfl) (hAll.out _ (KW.refl _ _).drew) (fun hHeld => ?_)
              refine wpAnyH_take (i := 0) (oi := ⟨some 29, _, _, _, _, _⟩) (v := ?vf1) rfl (by kernel_rfl) (by kernel_rfl) (by kernel_rfl) (fun _ _ _ h => h) (Or.inl ⟨by rfl, ?hyf1⟩) (by assumption) ?restf1
              case hyf1 => (intro w hSw; (try dsimp only at hSw); go_simp <;> with_reducible rfl)
              try simp only [Act.put, List.setIfInBounds_toArray, List.set_cons_zero, List.set_cons_succ]
              refine wpAnyH_take (i := 1) (oi := ⟨some 30, _, _, _, _, _⟩) (v := ?vf2) rfl (by kernel_rfl) (by kernel_rfl) (by kernel_rfl) (fun _ _ _ h => h) (Or.inl ⟨by rfl, ?hyf2⟩) (by assumption) ?restf2
              case hyf2 => (intro w hSw; (try dsimp only at hSw); go_simp <;> with_reducible rfl)
              try simp only [Act.put, List.setIfInBounds_toArray, List.set_cons_zero, List.set_cons_succ]
              refine wpAnyH_take (i := 2) (oi := ⟨some 31, _, _, _, _, _⟩) (v := ?vf3) rfl (by kernel_rfl) (by kernel_rfl) (by kernel_rfl) (fun _ _ _ h => h) (Or.inl ⟨by rfl, ?hyf3⟩) (by assumption) ?restf3
              case hyf3 => (intro w hSw; (try dsimp only at hSw); go_simp <;> with_reducible rfl)
              try simp only [Act.put, List.setIfInBounds_toArray, List.set_cons_zero, List.set_cons_succ]
              refine wpAnyH_take (i := 3) (oi := ⟨some 32, _, _, _, _, _⟩) (v := ?vf4) rfl (by kernel_rfl) (by kernel_rfl) (by kernel_rfl) (fun _ _ _ h => h) (Or.inl ⟨by rfl, ?hyf4⟩) (by assumption) ?restf4
              case hyf4 => (intro w hSw; (try dsimp only at hSw); go_simp <;> with_reducible rfl)
              try simp only [Act.put, List.setIfInBounds_toArray, List.set_cons_zero, List.set_cons_succ]
              refine wpAnyH_take (i := 4) (oi := ⟨some 33, _, _, _, _, _⟩) (v := ?vf5) rfl (by kernel_rfl) (by kernel_rfl) (by kernel_rfl) (fun _ _ _ h => h) (Or.inl ⟨by rfl, ?hyf5⟩) (by assumption) ?restf5
              case hyf5 => (intro w hSw; (try dsimp only at hSw); go_simp <;> with_reducible rfl)
              try simp only [Act.put, List.setIfInBounds_toArray, List.set_cons_zero, List.set_cons_succ]
              refine wpAnyH_take (i := 5) (oi := ⟨some 34, _, _, _, _, _⟩) (v := ?vf6) rfl (by kernel_rfl) (by kernel_rfl) (by kernel_rfl) (fun _ _ _ h => h) (Or.inl ⟨by rfl, ?hyf6⟩) (by assumption) ?restf6
              case hyf6 => (intro w hSw; (try dsimp only at hSw); go_simp <;> with_reducible rfl)
              try simp only [Act.put, List.setIfInBounds_toArray, List.set_cons_zero, List.set_cons_succ]
              refine wpAnyH_take (i := 6) (oi := ⟨some 35, _, _, _, _, _⟩) (v := ?vf7) rfl (by kernel_rfl) (by kernel_rfl) (by kernel_rfl) (fun _ _ _ h => h) (Or.inl ⟨by rfl, ?hyf7⟩) (by assumption) ?restf7
              case hyf7 => (intro w hSw; (try dsimp only at hSw); go_simp <;> with_reducible rfl)
              try simp only [Act.put, List.setIfInBounds_toArray, List.set_cons_zero, List.set_cons_succ]
              refine wpAnyH_take (i := 7) (oi := ⟨some 36, _, _, _, _, _⟩) (v := ?vf8) rfl (by kernel_rfl) (by kernel_rfl) (by kernel_rfl) (fun _ _ _ h => h) (Or.inl ⟨by rfl, ?hyf8⟩) (by assumption) ?restf8
              case hyf8 => (intro w hSw; (try dsimp only at hSw); go_simp <;> with_reducible rfl)
              try simp only [Act.put, List.setIfInBounds_toArray, List.set_cons_zero, List.set_cons_succ]
              refine wpAnyH_take (i := 8) (oi := ⟨some 37, _, _, _, _, _⟩) (v := ?vf9) rfl (by kernel_rfl) (by kernel_rfl) (by kernel_rfl) (fun _ _ _ h => h) (Or.inl ⟨by rfl, ?hyf9⟩) (by assumption) ?restf9
              case hyf9 => (intro w hSw; (try dsimp only at hSw); go_simp <;> with_reducible rfl)
              try simp only [Act.put, List.setIfInBounds_toArray, List.set_cons_zero, List.set_cons_succ]
              refine wpAnyH_take (i := 9) (oi := ⟨some 38, _, _, _, _, _⟩) (v := ?vf10) rfl (by kernel_rfl) (by kernel_rfl) (by kernel_rfl) (fun _ _ _ h => h) (Or.inl ⟨by rfl, ?hyf10⟩) (by assumption) ?restf10
              case hyf10 => (intro w hSw; (try dsimp only at hSw); go_simp <;> with_reducible rfl)
              try simp only [Act.put, List.setIfInBounds_toArray, List.set_cons_zero, List.set_cons_succ]
              refine wpAnyH_take (i := 11) (oi := ⟨some 40, _, _, _, _, _⟩) (v := ?vf11) rfl (by kernel_rfl) (by kernel_rfl) (by kernel_rfl) (fun _ _ _ h => h) (Or.inl ⟨by rfl, ?hyf11⟩) (by assumption) ?restf11
              case hyf11 => (intro w hSw; (try dsimp only at hSw); go_simp <;> with_reducible rfl)
              try simp only [Act.put, List.setIfInBounds_toArray, List.set_cons_zero, List.set_cons_succ]
              refine wpAnyH_take (i := 13) (oi := ⟨some 42, _, _, _, _, _⟩) (v := ?vf12) rfl (by kernel_rfl) (by kernel_rfl) (by kernel_rfl) (fun _ _ _ h => h) (Or.inl ⟨by rfl, ?hyf12⟩) (by assumption) ?restf12
              case hyf12 => (intro w hSw; (try dsimp only at hSw); go_simp <;> with_reducible rfl)
              try simp only [Act.put, List.setIfInBounds_toArray, List.set_cons_zero, List.set_cons_succ]
              refine wpAnyH_take (i := 14) (oi := ⟨some 43, _, _, _, _, _⟩) (v := ?vf13) rfl (by kernel_rfl) (by kernel_rfl) (by kernel_rfl) (fun _ _ _ h => h) (Or.inl ⟨by rfl, ?hyf13⟩) (by assumption) ?restf13
              case hyf13 => (intro w hSw; (try dsimp only at hSw); go_simp <;> with_reducible rfl)
              try simp only [Act.put, List.setIfInBounds_toArray, List.set_cons_zero, List.set_cons_succ]
              refine wpAnyH_ready (rs := [10, 12]) (by kernel_rfl) (by simp) ?_
              refine AllReadyH.cons (o := ⟨some 39, _, _, _, _, _⟩) rfl (fun K hK => ?_) ?_
              · go_simp
                go_at_call 36
                refine (hT.out _ (by repeat (first | assumption | exact Below.refl _ _ | (refine bStep ?_ (by assumption)) | (with_reducible refine bAlc ?_ _) | (with_reducible refine bDrw ?_)))).mono ?_
                rintro e w1 ⟨v1, rfl, ho1, hb1⟩
                obtain ⟨A1, k1, rfl, hd1, hk1, hmm1, hg1⟩ := ho1.reads
                go_wp2_with fail
                refine hK.out _ _ ?_ (fun hHeld => ?_)
                · (refine hAll.out _ ?_; repeat (first | exact KW.refl _ _ | (refine KW.grown ?_ (by assumption)) | (refine KW.step ?_ (by assumption)) | (with_reducible refine KW.alloc ?_ _) | (with_reducible refine KW.drew ?_)))
                clear hK K
                try simp only [Act.put, List.setIfInBounds_toArray, List.set_cons_zero, List.set_cons_succ]
                refine wpAnyH_ready (rs := [12, 15]) (by kernel_rfl) (by simp) ?_
                refine AllReadyH.cons (o := ⟨some 41, _, _, _, _, _⟩) rfl (fun K hK => ?_) ?_
                · go_simp
                  refine hK.out _ _ ?_ (fun hHeld => ?_)
                  · (refine hAll.out _ ?_; repeat (first | exact KW.refl _ _ | (refine KW.grown ?_ (by assumption)) | (refine KW.step ?_ (by assumption)) | (with_reducible refine KW.alloc ?_ _) | (with_reducible refine KW.drew ?_)))
                  clear hK K
                  try simp only [Act.put, List.setIfInBounds_toArray, List.set_cons_zero, List.set_cons_succ]
                  refine wpAnyH_ready (rs := [15]) (by kernel_rfl) (by simp) ?_
                  refine AllReadyH.cons (o := ⟨some 44, _, _, _, _, _⟩) rfl (fun K hK => ?_) ?_
                  · go_simp
                    go_at_call 38
                    refine (hPl.out _).mono ?_
                    rintro e w2 ⟨Bk, rfl, p1, p2, p3, p4⟩
                    go_wp2_with fail
                    refine hK.out _ _ ?_ (fun hHeld => ?_)
                    · (refine hAll.out _ ?_; repeat (first | exact KW.refl _ _ | (refine KW.grown ?_ (by assumption)) | (refine KW.step ?_ (by assumption)) | (with_reducible refine KW.alloc ?_ _) | (with_reducible refine KW.drew ?_)))
                    clear hK K
                    try simp only [Act.put, List.setIfInBounds_toArray, List.set_cons_zero, List.set_cons_succ]
                    refine wpAnyH_ready (rs := [16]) (by kernel_rfl) (by simp) ?_
                    refine AllReadyH.cons (o := ⟨some 45, _, _, _, _, _⟩) rfl (fun K hK => ?_) ?_
                    · go_simp
                      go_at_call 35
                      refine (hJ.out A1 k1 _ Bk _ (by repeat (first | assumption | exact Below.refl _ _ | (refine bStep ?_ (by assumption)) | (with_reducible refine bAlc ?_ _) | (with_reducible refine bDrw ?_))) (rdl_to hd1 (by repeat (first | assumption | exact Below.refl _ _ | (refine bStep ?_ (by assumption)) | (with_reducible refine bAlc ?_ _) | (with_reducible refine bDrw ?_)))) (rdl_lay _ _ (by repeat (first | assumption | exact Below.refl _ _ | (refine bStep ?_ (by assumption)) | (with_reducible refine bAlc ?_ _) | (with_reducible refine bDrw ?_)))) (cell_later (by repeat (first | assumption | exact Below.refl _ _ | (refine bStep ?_ (by assumption)) | (with_reducible refine bAlc ?_ _) | (with_reducible refine bDrw ?_))) p1) (bk_lt p3 (by repeat (first | assumption | exact Below.refl _ _ | (refine bStep ?_ (by assumption)) | (with_reducible refine bAlc ?_ _) | (with_reducible refine bDrw ?_))))).mono ?_
                      rintro e w3 ⟨rfl, hM3, hg3⟩
                      go_wp2_with fail
                      refine hK.out _ _ ?_ (fun hHeld => ?_)
                      · (refine hAll.out _ ?_; repeat (first | exact KW.refl _ _ | (refine KW.grown ?_ (by assumption)) | (refine KW.step ?_ (by assumption)) | (with_reducible refine KW.alloc ?_ _) | (with_reducible refine KW.drew ?_)))
                      clear hK K
                      try simp only [Act.put, List.setIfInBounds_toArray, List.set_cons_zero, List.set_cons_succ]
                      refine wpAnyH_take (i := 17) (oi := ⟨some 46, _, _, _, _, _⟩) (v := ?vf14) rfl (by kernel_rfl) (by kernel_rfl) (by kernel_rfl) (fun _ _ _ h => h) (Or.inl ⟨by rfl, ?hyf14⟩) (by assumption) ?restf14
                      case hyf14 => (intro w hSw; (try dsimp only at hSw); go_simp <;> with_reducible rfl)
                      try simp only [Act.put, List.setIfInBounds_toArray, List.set_cons_zero, List.set_cons_succ]
                      refine wpAnyH_take (i := 18) (oi := ⟨some 47, _, _, _, _, _⟩) (v := ?vf15) rfl (by kernel_rfl) (by kernel_rfl) (by kernel_rfl) (fun _ _ _ h => h) (Or.inl ⟨by rfl, ?hyf15⟩) (by assumption) ?restf15
                      case hyf15 => (intro w hSw; (try dsimp only at hSw); go_simp <;> with_reducible rfl)
                      try simp only [Act.put, List.setIfInBounds_toArray, List.set_cons_zero, List.set_cons_succ]
                      refine wpAnyH_take (i := 19) (oi := ⟨some 48, _, _, _, _, _⟩) (v := ?vf16) rfl (by kernel_rfl) (by kernel_rfl) (by kernel_rfl) (fun _ _ _ h => h) (Or.inl ⟨by rfl, ?hyf16⟩) (by assumption) ?restf16
                      case hyf16 => (intro w hSw; (try dsimp only at hSw); go_simp <;> with_reducible rfl)
                      try simp only [Act.put, List.setIfInBounds_toArray, List.set_cons_zero, List.set_cons_succ]
                      refine wpAnyH_take (i := 20) (oi := ⟨some 5, _, _, _, _, _⟩) (v := ?vf17) rfl (by kernel_rfl) (by kernel_rfl) (by kernel_rfl) (fun _ _ _ h => h) (Or.inl ⟨by rfl, ?hyf17⟩) (by assumption) ?restf17
                      case hyf17 => (intro w hSw; (try dsimp only at hSw); go_simp <;> with_reducible rfl)
                      try simp only [Act.put, List.setIfInBounds_toArray, List.set_cons_zero, List.set_cons_succ]
                      refine wpAnyH_done (by kernel_rfl) ?_ _
                      go_wp2_with fail
                      go_roundg (g.prods.length - (j + 1))
                      case measure => have := hj.out; omega
                      case rel => exact ⟨j + 1, ss', gr, by go_num, rfl, Lib.hid (by have := hj.out; omega), hlen', hfit', hsnd', by have h9 := hput2.out _ _ (by repeat (first | exact KW.refl _ _ | (refine KW.grown ?_ (by assumption)) | (refine KW.step ?_ (by assumption)) | (with_reducible refine KW.alloc ?_ _) | (with_reducible refine KW.drew ?_))) hM3; rw [(hEndF.out hgn).1] at h9; exact h9, hGK.out _ (by repeat (first | exact KW.refl _ _ | (refine KW.grown ?_ (by assumption)) | (refine KW.step ?_ (by assumption)) | (with_reducible refine KW.alloc ?_ _) | (with_reducible refine KW.drew ?_))), Lib.hid (hEndF.out hgn).2⟩
                    exact AllReadyH.nil
                  exact AllReadyH.nil
                refine AllReadyH.cons (o := ⟨some 44, _, _, _, _, _⟩) rfl (fun K hK => ?_) ?_
                · go_simp
                  go_at_call 38
                  refine (hPl.out _).mono ?_
                  rintro e w2 ⟨Bk, rfl, p1, p2, p3, p4⟩
                  go_wp2_with fail
                  refine hK.out _ _ ?_ (fun hHeld => ?_)
                  · (refine hAll.out _ ?_; repeat (first | exact KW.refl _ _ | (refine KW.grown ?_ (by assumption)) | (refine KW.step ?_ (by assumption)) | (with_reducible refine KW.alloc ?_ _) | (with_reducible refine KW.drew ?_)))
                  clear hK K
                  try simp only [Act.put, List.setIfInBounds_toArray, List.set_cons_zero, List.set_cons_succ]
                  refine wpAnyH_ready (rs := [12]) (by kernel_rfl) (by simp) ?_
                  refine AllReadyH.cons (o := ⟨some 41, _, _, _, _, _⟩) rfl (fun K hK => ?_) ?_
                  · go_simp
                    refine hK.out _ _ ?_ (fun hHeld => ?_)
                    · (refine hAll.out _ ?_; repeat (first | exact KW.refl _ _ | (refine KW.grown ?_ (by assumption)) | (refine KW.step ?_ (by assumption)) | (with_reducible refine KW.alloc ?_ _) | (with_reducible refine KW.drew ?_)))
                    clear hK K
                    try simp only [Act.put, List.setIfInBounds_toArray, List.set_cons_zero, List.set_cons_succ]
                    refine wpAnyH_ready (rs := [16]) (by kernel_rfl) (by simp) ?_
                    refine AllReadyH.cons (o := ⟨some 45, _, _, _, _, _⟩) rfl (fun K hK => ?_) ?_
                    · go_simp
                      go_at_call 35
                      refine (hJ.out A1 k1 _ Bk _ (by repeat (first | assumption | exact Below.refl _ _ | (refine bStep ?_ (by assumption)) | (with_reducible refine bAlc ?_ _) | (with_reducible refine bDrw ?_))) (rdl_to hd1 (by repeat (first | assumption | exact Below.refl _ _ | (refine bStep ?_ (by assumption)) | (with_reducible refine bAlc ?_ _) | (with_reducible refine bDrw ?_)))) (rdl_lay _ _ (by repeat (first | assumption | exact Below.refl _ _ | (refine bStep ?_ (by assumption)) | (with_reducible refine bAlc ?_ _) | (with_reducible refine bDrw ?_)))) (cell_later (by repeat (first | assumption | exact Below.refl _ _ | (refine bStep ?_ (by assumption)) | (with_reducible refine bAlc ?_ _) | (with_reducible refine bDrw ?_))) p1) (bk_lt p3 (by repeat (first | assumption | exact Below.refl _ _ | (refine bStep ?_ (by assumption)) | (with_reducible refine bAlc ?_ _) | (with_reducible refine bDrw ?_))))).mono ?_
                      rintro e w3 ⟨rfl, hM3, hg3⟩
                      go_wp2_with fail
                      refine hK.out _ _ ?_ (fun hHeld => ?_)
                      · (refine hAll.out _ ?_; repeat (first | exact KW.refl _ _ | (refine KW.grown ?_ (by assumption)) | (refine KW.step ?_ (by assumption)) | (with_reducible refine KW.alloc ?_ _) | (with_reducible refine KW.drew ?_)))
                      clear hK K
                      try simp only [Act.put, List.setIfInBounds_toArray, List.set_cons_zero, List.set_cons_succ]
                      refine wpAnyH_take (i := 17) (oi := ⟨some 46, _, _, _, _, _⟩) (v := ?vf18) rfl (by kernel_rfl) (by kernel_rfl) (by kernel_rfl) (fun _ _ _ h => h) (Or.inl ⟨by rfl, ?hyf18⟩) (by assumption) ?restf18
                      case hyf18 => (intro w hSw; (try dsimp only at hSw); go_simp <;> with_reducible rfl)
                      try simp only [Act.put, List.setIfInBounds_toArray, List.set_cons_zero, List.set_cons_succ]
                      refine wpAnyH_take (i := 18) (oi := ⟨some 47, _, _, _, _, _⟩) (v := ?vf19) rfl (by kernel_rfl) (by kernel_rfl) (by kernel_rfl) (fun _ _ _ h => h) (Or.inl ⟨by rfl, ?hyf19⟩) (by assumption) ?restf19
                      case hyf19 => (intro w hSw; (try dsimp only at hSw); go_simp <;> with_reducible rfl)
                      try simp only [Act.put, List.setIfInBounds_toArray, List.set_cons_zero, List.set_cons_succ]
                      refine wpAnyH_take (i := 19) (oi := ⟨some 48, _, _, _, _, _⟩) (v := ?vf20) rfl (by kernel_rfl) (by kernel_rfl) (by kernel_rfl) (fun _ _ _ h => h) (Or.inl ⟨by rfl, ?hyf20⟩) (by assumption) ?restf20
                      case hyf20 => (intro w hSw; (try dsimp only at hSw); go_simp <;> with_reducible rfl)
                      try simp only [Act.put, List.setIfInBounds_toArray, List.set_cons_zero, List.set_cons_succ]
                      refine wpAnyH_take (i := 20) (oi := ⟨some 5, _, _, _, _, _⟩) (v := ?vf21) rfl (by kernel_rfl) (by kernel_rfl) (by kernel_rfl) (fun _ _ _ h => h) (Or.inl ⟨by rfl, ?hyf21⟩) (by assumption) ?restf21
                      case hyf21 => (intro w hSw; (try dsimp only at hSw); go_simp <;> with_reducible rfl)
                      try simp only [Act.put, List.setIfInBounds_toArray, List.set_cons_zero, List.set_cons_succ]
                      refine wpAnyH_done (by kernel_rfl) ?_ _
                      go_wp2_with fail
                      go_roundg (g.prods.length - (j + 1))
                      case measure => have := hj.out; omega
                      case rel => exact ⟨j + 1, ss', gr, by go_num, rfl, Lib.hid (by have := hj.out; omega), hlen', hfit', hsnd', by have h9 := hput2.out _ _ (by repeat (first | exact KW.refl _ _ | (refine KW.grown ?_ (by assumption)) | (refine KW.step ?_ (by assumption)) | (with_reducible refine KW.alloc ?_ _) | (with_reducible refine KW.drew ?_))) hM3; rw [(hEndF.out hgn).1] at h9; exact h9, hGK.out _ (by repeat (first | exact KW.refl _ _ | (refine KW.grown ?_ (by assumption)) | (refine KW.step ?_ (by assumption)) | (with_reducible refine KW.alloc ?_ _) | (with_reducible refine KW.drew ?_))), Lib.hid (hEndF.out hgn).2⟩
                    exact AllReadyH.nil
                  exact AllReadyH.nil
                exact AllReadyH.nil
              refine AllReadyH.cons (o := ⟨some 41, _, _, _, _, _⟩) rfl (fun K hK => ?_) ?_
              · go_simp
                refine hK.out _ _ ?_ (fun hHeld => ?_)
                · (refine hAll.out _ ?_; repeat (first | exact KW.refl _ _ | (refine KW.grown ?_ (by assumption)) | (refine KW.step ?_ (by assumption)) | (with_reducible refine KW.alloc ?_ _) | (with_reducible refine KW.drew ?_)))
                clear hK K
                try simp only [Act.put, List.setIfInBounds_toArray, List.set_cons_zero, List.set_cons_succ]
                refine wpAnyH_ready (rs := [10]) (by kernel_rfl) (by simp) ?_
                refine AllReadyH.cons (o := ⟨some 39, _, _, _, _, _⟩) rfl (fun K hK => ?_) ?_
                · go_simp
                  go_at_call 36
                  refine (hT.out _ (by repeat (first | assumption | exact Below.refl _ _ | (refine bStep ?_ (by assumption)) | (with_reducible refine bAlc ?_ _) | (with_reducible refine bDrw ?_)))).mono ?_
                  rintro e w1 ⟨v1, rfl, ho1, hb1⟩
                  obtain ⟨A1, k1, rfl, hd1, hk1, hmm1, hg1⟩ := ho1.reads
                  go_wp2_with fail
                  refine hK.out _ _ ?_ (fun hHeld => ?_)
                  · (refine hAll.out _ ?_; repeat (first | exact KW.refl _ _ | (refine KW.grown ?_ (by assumption)) | (refine KW.step ?_ (by assumption)) | (with_reducible refine KW.alloc ?_ _) | (with_reducible refine KW.drew ?_)))
                  clear hK K
                  try simp only [Act.put, List.setIfInBounds_toArray, List.set_cons_zero, List.set_cons_succ]
                  refine wpAnyH_ready (rs := [15]) (by kernel_rfl) (by simp) ?_
                  refine AllReadyH.cons (o := ⟨some 44, _, _, _, _, _⟩) rfl (fun K hK => ?_) ?_
                  · go_simp
                    go_at_call 38
                    refine (hPl.out _).mono ?_
                    rintro e w2 ⟨Bk, rfl, p1, p2, p3, p4⟩
                    go_wp2_with fail
                    refine hK.out _ _ ?_ (fun hHeld => ?_)
                    · (refine hAll.out _ ?_; repeat (first | exact KW.refl _ _ | (refine KW.grown ?_ (by assumption)) | (refine KW.step ?_ (by assumption)) | (with_reducible refine KW.alloc ?_ _) | (with_reducible refine KW.drew ?_)))
                    clear hK K
                    try simp only [Act.put, List.setIfInBounds_toArray, List.set_cons_zero, List.set_cons_succ]
                    refine wpAnyH_ready (rs := [16]) (by kernel_rfl) (by simp) ?_
                    refine AllReadyH.cons (o := ⟨some 45, _, _, _, _, _⟩) rfl (fun K hK => ?_) ?_
                    · go_simp
                      go_at_call 35
                      refine (hJ.out A1 k1 _ Bk _ (by repeat (first | assumption | exact Below.refl _ _ | (refine bStep ?_ (by assumption)) | (with_reducible refine bAlc ?_ _) | (with_reducible refine bDrw ?_))) (rdl_to hd1 (by repeat (first | assumption | exact Below.refl _ _ | (refine bStep ?_ (by assumption)) | (with_reducible refine bAlc ?_ _) | (with_reducible refine bDrw ?_)))) (rdl_lay _ _ (by repeat (first | assumption | exact Below.refl _ _ | (refine bStep ?_ (by assumption)) | (with_reducible refine bAlc ?_ _) | (with_reducible refine bDrw ?_)))) (cell_later (by repeat (first | assumption | exact Below.refl _ _ | (refine bStep ?_ (by assumption)) | (with_reducible refine bAlc ?_ _) | (with_reducible refine bDrw ?_))) p1) (bk_lt p3 (by repeat (first | assumption | exact Below.refl _ _ | (refine bStep ?_ (by assumption)) | (with_reducible refine bAlc ?_ _) | (with_reducible refine bDrw ?_))))).mono ?_
                      rintro e w3 ⟨rfl, hM3, hg3⟩
                      go_wp2_with fail
                      refine hK.out _ _ ?_ (fun hHeld => ?_)
                      · (refine hAll.out _ ?_; repeat (first | exact KW.refl _ _ | (refine KW.grown ?_ (by assumption)) | (refine KW.step ?_ (by assumption)) | (with_reducible refine KW.alloc ?_ _) | (with_reducible refine KW.drew ?_)))
                      clear hK K
                      try simp only [Act.put, List.setIfInBounds_toArray, List.set_cons_zero, List.set_cons_succ]
                      refine wpAnyH_take (i := 17) (oi := ⟨some 46, _, _, _, _, _⟩) (v := ?vf22) rfl (by kernel_rfl) (by kernel_rfl) (by kernel_rfl) (fun _ _ _ h => h) (Or.inl ⟨by rfl, ?hyf22⟩) (by assumption) ?restf22
                      case hyf22 => (intro w hSw; (try dsimp only at hSw); go_simp <;> with_reducible rfl)
                      try simp only [Act.put, List.setIfInBounds_toArray, List.set_cons_zero, List.set_cons_succ]
                      refine wpAnyH_take (i := 18) (oi := ⟨some 47, _, _, _, _, _⟩) (v := ?vf23) rfl (by kernel_rfl) (by kernel_rfl) (by kernel_rfl) (fun _ _ _ h => h) (Or.inl ⟨by rfl, ?hyf23⟩) (by assumption) ?restf23
                      case hyf23 => (intro w hSw; (try dsimp only at hSw); go_simp <;> with_reducible rfl)
                      try simp only [Act.put, List.setIfInBounds_toArray, List.set_cons_zero, List.set_cons_succ]
                      refine wpAnyH_take (i := 19) (oi := ⟨some 48, _, _, _, _, _⟩) (v := ?vf24) rfl (by kernel_rfl) (by kernel_rfl) (by kernel_rfl) (fun _ _ _ h => h) (Or.inl ⟨by rfl, ?hyf24⟩) (by assumption) ?restf24
                      case hyf24 => (intro w hSw; (try dsimp only at hSw); go_simp <;> with_reducible rfl)
                      try simp only [Act.put, List.setIfInBounds_toArray, List.set_cons_zero, List.set_cons_succ]
                      refine wpAnyH_take (i := 20) (oi := ⟨some 5, _, _, _, _, _⟩) (v := ?vf25) rfl (by kernel_rfl) (by kernel_rfl) (by kernel_rfl) (fun _ _ _ h => h) (Or.inl ⟨by rfl, ?hyf25⟩) (by assumption) ?restf25
                      case hyf25 => (intro w hSw; (try dsimp only at hSw); go_simp <;> with_reducible rfl)
                      try simp only [Act.put, List.setIfInBounds_toArray, List.set_cons_zero, List.set_cons_succ]
                      refine wpAnyH_done (by kernel_rfl) ?_ _
                      go_wp2_with fail
                      go_roundg (g.prods.length - (j + 1))
                      case measure => have := hj.out; omega
                      case rel => exact ⟨j + 1, ss', gr, by go_num, rfl, Lib.hid (by have := hj.out; omega), hlen', hfit', hsnd', by have h9 := hput2.out _ _ (by repeat (first | exact KW.refl _ _ | (refine KW.grown ?_ (by assumption)) | (refine KW.step ?_ (by assumption)) | (with_reducible refine KW.alloc ?_ _) | (with_reducible refine KW.drew ?_))) hM3; rw [(hEndF.out hgn).1] at h9; exact h9, hGK.out _ (by repeat (first | exact KW.refl _ _ | (refine KW.grown ?_ (by assumption)) | (refine KW.step ?_ (by assumption)) | (with_reducible refine KW.alloc ?_ _) | (with_reducible refine KW.drew ?_))), Lib.hid (hEndF.out hgn).2⟩
                    exact AllReadyH.nil
                  exact AllReadyH.nil
                exact AllReadyH.nil
              exact AllReadyH.nil
          · have hje : j = g.prods.length := by have := hj.out; omega
            subst hje
            cases gr with
            | false =>
              have hgr2 := hgr.out
              simp only [Bool.false_eq_true, if_false] at hgr2
              obtain ⟨hse, hcl⟩ := hgr2
              subst hse
              have hclo : Hid (ClosedF g.prods k ss') := Lib.hid fun p hp y hy => hcl p (by rw [List.take_length]; exact hp) y hy
              replace hcl := Lib.hid hcl
              go_wp2_with fail
              go_ret
              have hb9 := hbo'.out
              exact hP.out bo ss' _ (hS.mono (by omega)) hlen'.out (by omega) hfit'.out hsnd'.out hclo.out hG.2.2
            | true =>
              have hgr2 := hgr.out
              simp only [if_true] at hgr2
              have htl := tot_le ss' (fun s hs => fit_len (hS.nodup s hs) (hfit'.out s hs))
              have hlt9 := Lib.hid (And.intro hgr2 (And.intro (show tot ss' ≤ i * 4681 by rw [← hlen'.out]; exact htl) hgk.out))
              clear hgr2 htl
              go_wp2_with fail
              go_roundg (i * 4681 - tot ss')
              case measure => have := hlt9.out; omega
              case rel => exact ⟨ss', Lib.hid (by have := hlt9.out; omega), hlen', hfit', hsnd', hS, hG⟩
end Go.Proofs.YtnnkfgekiaaehaaGreat

/- The reference 16: of. -/
namespace Go.Proofs.YtnnkfgekiaaehaaGreat
open Go.ChangeShapes Go.WideShapes Go.ChangeAt Go.RowKit
set_option linter.unusedVariables false

/-- hands back this set -/
def RetSt (m : Int) (l : List Lk) (w : World) (e : Ending) (w' : World) : Prop := ∃ A c, e = .returned (.slice A l.length c) ∧ SetAt w' m A l.length c l ∧ Below w.heap.size w w'

set_option maxRecDepth 100000 in
set_option maxHeartbeats 2000000 in
theorem refof_ok (g : Gr) (a : GA) (k : Nat) (hok : GOk g k) (l : List Int) (hl : ∀ s ∈ l, (0 ≤ s ∧ s < g.toks.length) ∨ (16 ≤ s ∧ s < 16 + (g.names.length : Int))) (bo : Nat) (ss : List (List Lk)) (RA : Option Addr) (rc : Nat) (w : World)
    (hg : GrAt w w.heap.size g a) (hS : SetsA w bo g.names.length g.toks.length ss) (hf : SetsFit k ss) (hR : Rd1 w w.heap.size RA l.length (ints l)) (hln : l.length ≤ 1000000) :
    Calls Tryz.prog 41 #[gval g a, .slice (some ⟨bo, 0, none⟩) g.names.length g.names.length, .slice RA l.length rc] w (RetSt g.toks.length (tailL k ss l) w) := by
  have hP := Lib.hid (fun (A : Option Addr) (c : Nat) (w' : World) (h1 : SetAt w' g.toks.length A (tailL k ss l).length c (tailL k ss l)) (h2 : Below w.heap.size w w') => (show RetSt g.toks.length (tailL k ss l) w (.returned (.slice A (tailL k ss l).length c)) w' from ⟨A, c, rfl, h1, h2⟩))
  have hk1 := hok.k1
  have hk4 := hok.k4
  have hm := hok.tk
  have hn8 := hok.nm
  have hkk := Lib.hid hok.hk
  have hSy : ∀ s ∈ l, SymOk g.names.length s := fun s hs => by have := hl s hs; unfold SymOk; omega
  have hTf : ∀ i, ∀ x ∈ tailL k ss (l.take i), Fit k x := fun i => tail_fit hk1 hk4 hf _ fun s hs => hSy s (List.mem_of_mem_take hs)
  have hStep : ∀ i s, l[i]? = some s → ∀ one, (∀ x, x ∈ one ↔ x ∈ oneL ss s) → sumR k (tailL k ss (l.take i)) one = tailL k ss (l.take (i + 1)) := fun i s hs one h1 => by
    have hi := (List.getElem?_eq_some_iff.1 hs).1
    rw [List.take_succ_eq_append_getElem hi, (List.getElem?_eq_some_iff.1 hs).2, tailL_snoc]
    exact sum_step hk1 hk4 hf (hTf i) (hSy s (List.mem_of_getElem? hs)) h1
  have hOf : ∀ s ∈ l, ∀ x ∈ oneL ss s, Fit k x := fun s hs => one_fit hk1 hf (hSy s hs)
  have hAsc := Lib.hid hS.asc
  replace hSy := Lib.hid hSy
  replace hTf := Lib.hid hTf
  replace hStep := Lib.hid hStep
  replace hOf := Lib.hid hOf
  have hf' := Lib.hid hf
  have hl' := Lib.hid hl
  clear hf hl
  obtain ⟨ta, tc, na, nc, pa, pc⟩ := a
  have hG0 := GB.start hg
  clear hg
  have hSlt := hS.lt
  unfold gval at *
  unfold gcells at *
  dsimp only at *
  go_enter Tryz.func41, Tryz.ntmps41
  go_upto_region 1 with (fail)
  have hb0 : Below w.heap.size w (w.alloc (.cells #[.int .i64 g.k, .slice ta g.toks.length tc, .string g.sep, .slice na g.names.length nc, .int .i64 g.start, .slice pa g.prods.length pc] 25)) := bAlc (Below.refl _ _) _
  generalize w.alloc (.cells #[.int .i64 g.k, .slice ta g.toks.length tc, .string g.sep, .slice na g.names.length nc, .int .i64 g.start, .slice pa g.prods.length pc] 25) = W at *
  obtain ⟨c0, c1, c2, c3, c4, c5⟩ := hG0.cells
  dsimp only at c1 c3 c5
  go_wp2_with fail
  go_loopg [8, 9] l.length (fun gk s8 s9 wr => ∃ (i : Nat) (A : Option Addr) (c : Nat), s8 = .slice A (tailL k ss (l.take i)).length c ∧ s9 = .int .i64 i ∧ i + gk = l.length ∧ SetAt wr g.toks.length A (tailL k ss (l.take i)).length c (tailL k ss (l.take i)) ∧ GB w g ⟨ta, tc, na, nc, pa, pc⟩ wr)
  case atStart =>
    refine ⟨0, _, _, rfl, rfl, by omega, ?_, hG0.alloc _⟩
    rw [List.take_zero]
    exact ⟨(rdL_one (x := Lk.of []) (Blk.new W 41 _)).mono (by simp), fun x hx => by simp [tailL] at hx; subst hx; exact nil_right _ (by omega), asc_one _, by simp [tailL], by simp [tailL], by simp [maxLen]⟩
  case round =>
    clear c0 c1 c2 c3 c4 c5 hG0 hb0
    obtain ⟨i, A, c, rfl, rfl, hi, hT, hG⟩ := hrel
    replace hi := Lib.hid hi
    obtain ⟨c0, c1, c2, c3, c4, c5⟩ := hG.cells
    dsimp only at c1 c3 c5
    rw [hkk.out] at c0
    by_cases hin : i < l.length
    · have hs : l[i]? = some l[i] := List.getElem?_eq_getElem hin
      have hst := hStep.out i _ hs
      have hmem := List.getElem_mem hin
      have hsy := hl'.out _ hmem
      have hof := hOf.out _ hmem
      have htf := hTf.out i
      obtain ⟨b, off, hRA, hbt, x0⟩ := hR.get (show (ints l)[i]? = some (.int .i64 l[i]) by rw [ints, List.getElem?_map, hs]; rfl)
      have x0' := (hG.2.2.cell (p := ⟨b, off + i, none⟩) hbt).trans x0
      generalize l[i] = s at *
      replace hs := Lib.hid hs
      have hz0 : (0 : Int) ≤ i := by omega
      have hz1 : (i : Int) < l.length := by omega
      subst hRA
      generalize tailL k ss (l.take i) = T at *
      have hSr := hS.step hG.2.2
      clear x0
      by_cases h16 : 16 ≤ s
      · obtain ⟨ix, hix⟩ := Int.eq_ofNat_of_zero_le (show 0 ≤ s - 16 by omega)
        have hixn : (s - 16).toNat = ix := by omega
        have hsN : s < 16 + (g.names.length : Int) := by omega
        have hixi : ix < g.names.length := by omega
        obtain ⟨X, xc, hcx, _, hX⟩ := hSr.get ix hixi
        have hone : oneL ss s = lset (ss.getD ix []) := by unfold oneL; rw [if_pos h16, hixn]
        have hset : ∀ x, x ∈ ss.getD ix [] ↔ x ∈ oneL ss s := fun x => by rw [hone, lset_mem (k := 8) (fun y hy => (setsFit_get hf'.out ix y hy).1)]
        have hst' := hst _ hset
        have hXf : ∀ x ∈ ss.getD ix [], Fit k x := fun x hx => setsFit_get hf'.out ix x hx
        have zw : IntKind.i64.wrap (s - 16) = (ix : Int) := by rw [hix]; exact IntWalk.i64_in _ (by omega)
        have hzx : (0 : Int) ≤ ix := by omega
        have hzy : (ix : Int) < g.names.length := by omega
        have hge : decide ((16 : Int) ≤ s) = true := decide_eq_true h16
        have hb1 : Below wr.heap.size wr (wr.alloc (.cells #[.int .i64 1, .int .i64 s, .int .i64 0, .int .i64 0, .int .i64 0] 41)) := bAlc (Below.refl _ _) _
        have hT1 := hT.step hb1
        have hX1 := hX.step hb1
        have hG1 := hG.step hb1
        have c0' := cell_later hb1 c0
        have hcx' := cell_later hb1 hcx
        have hbx : bo ≠ wr.heap.size := by have := hG.lt; omega
        generalize ss.getD ix [] = D at *
        replace hst' := Lib.hid hst'
        replace hix := Lib.hid hix
        replace hixn := Lib.hid hixn
        clear hone hset
        go_wp2_with fail
        refine (sum_ok g.toks.length k A X T.length D.length c xc T D _ (by omega) (by omega) hk1 hk4 hT1 hX1 htf hXf).mono ?_
        rintro e w2 ⟨v, rfl, ho, hb2⟩
        rw [hst'.out] at ho
        have hTr : ∀ x ∈ tailL k ss (l.take (i + 1)), x.right g.toks.length := fun x hx => by
          rw [← hst'.out] at hx
          obtain ⟨x1, h1, x2, h2, rfl⟩ := (sumR_mem hk4 htf hXf x).1 hx
          exact lplus_right hk4 (hT.right x1 h1) (hX.right x2 h2)
        obtain ⟨A', c', rfl, hT'⟩ := SetAt.of_own ho hTr (by omega) (by rw [← hst'.out]; exact sumR_asc hk4 htf hXf)
        go_wp2_with fail
        go_roundg (l.length - (i + 1))
        case measure => have := hi.out; omega
        case rel => exact ⟨i + 1, A', c', rfl, by go_num, by have := hi.out; omega, hT', hG1.step hb2⟩
      · have hsr : 0 ≤ s ∧ s < g.toks.length := by omega
        have hone : oneL ss s = [Lk.of [s]] := by unfold oneL; rw [if_neg h16]
        have hst' := hst [Lk.of [s]] (fun x => by rw [hone])
        rw [hone] at hof
        have hge : decide ((16 : Int) ≤ s) = false := decide_eq_false h16
        have hb1 : Below wr.heap.size wr (wr.alloc (.cells #[.int .i64 1, .int .i64 s, .int .i64 0, .int .i64 0, .int .i64 0] 41)) := bAlc (Below.refl _ _) _
        have hT1 := hT.step hb1
        have hG1 := hG.step hb1
        have c0' := cell_later hb1 c0
        have hX1 : SetAt (wr.alloc (.cells #[.int .i64 1, .int .i64 s, .int .i64 0, .int .i64 0, .int .i64 0] 41)) g.toks.length (some ⟨wr.heap.size, 0, none⟩) 1 1 [Lk.of [s]] :=
          ⟨(rdL_one (x := Lk.of [s]) (Blk.new wr 41 _)).mono (by simp), fun x hx => by simp at hx; subst hx; exact of_right (by omega) (by simp) (by simpa using hsr), asc_one _, by omega, by omega, by simp [maxLen]⟩
        replace hst' := Lib.hid hst'
        clear hone
        go_wp2_with fail
        refine (sum_ok g.toks.length k A _ T.length 1 c 1 T [Lk.of [s]] _ (by omega) (by omega) hk1 hk4 hT1 hX1 htf hof).mono ?_
        rintro e w2 ⟨v, rfl, ho, hb2⟩
        rw [hst'.out] at ho
        have hTr : ∀ x ∈ tailL k ss (l.take (i + 1)), x.right g.toks.length := fun x hx => by
          rw [← hst'.out] at hx
          obtain ⟨x1, h1, x2, h2, rfl⟩ := (sumR_mem hk4 htf hof x).1 hx
          exact lplus_right hk4 (hT.right x1 h1) (hX1.right x2 h2)
        obtain ⟨A', c', rfl, hT'⟩ := SetAt.of_own ho hTr (by omega) (by rw [← hst'.out]; exact sumR_asc hk4 htf hof)
        go_wp2_with fail
        go_roundg (l.length - (i + 1))
        case measure => have := hi.out; omega
        case rel => exact ⟨i + 1, A', c', rfl, by go_num, by have := hi.out; omega, hT', hG1.step hb2⟩
    · have he : l.take i = l := List.take_of_length_le (by have := hi.out; omega)
      rw [he] at hT ⊢
      clear he
      go_wp2_with fail
      go_ret
      exact hP.out _ _ _ hT hG.2.2
end Go.Proofs.YtnnkfgekiaaehaaGreat
