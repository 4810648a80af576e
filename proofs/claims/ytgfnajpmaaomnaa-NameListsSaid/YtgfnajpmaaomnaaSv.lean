/- The sort of strings by a method value: order2, median, choosePivot. -/
import Derived.Test.YtgfnajpmaaomnaaSu
namespace Go.Proofs.Ytgfnajpmaaomnaa
open Go.ChangeShapes Go.WideShapes Go.ChangeAt Go.RowKit
set_option linter.unusedVariables false

/-- the row, and a counter in a block of its own -/
def RowC (w0 w : World) (g : Nat) (d : Array ByteArray) (c : Nat) (s : Int) : Prop :=
  RowS w0 w g d ∧ w0.heap.size ≤ c ∧ w.heap[c]? = some (.cells #[.int .i64 s] 3 (0, 0))

theorem RowC.lt {w0 w : World} {g c : Nat} {d : Array ByteArray} {s : Int} (h : RowC w0 w g d c s) : c < w.heap.size := by
  obtain ⟨_, _, hc⟩ := h
  rcases Nat.lt_or_ge c w.heap.size with hlt | hge
  · exact hlt
  · rw [Array.getElem?_eq_none hge] at hc; cases hc
theorem RowC.ne {w0 w : World} {g c : Nat} {d : Array ByteArray} {s : Int} (h : RowC w0 w g d c s) : g ≠ c := by
  obtain ⟨⟨_, _, cur, hg, _⟩, _, hc⟩ := h
  intro e; subst e; rw [hg] at hc; injection hc with hc; injection hc with _ ht; cases ht
theorem RowC.below {w0 w w' : World} {g c : Nat} {d : Array ByteArray} {s : Int} (h : RowC w0 w g d c s) (hb : Below w.heap.size w w') : RowC w0 w' g d c s :=
  ⟨h.1.below hb, h.2.1, by rw [hb.block c h.lt]; exact h.2.2⟩
theorem RowC.cell {w0 w : World} {g c : Nat} {d : Array ByteArray} {s : Int} (h : RowC w0 w g d c s) : w.cell? ⟨c, 0, none⟩ = some (.int .i64 s) := by simp [World.cell?, h.2.2]
theorem RowC.free {w0 w : World} {g c : Nat} {d : Array ByteArray} {s : Int} (h : RowC w0 w g d c s) : w.frozen? ⟨c, 0, none⟩ = false := by simp [World.frozen?, h.2.2]
theorem RowC.bump {w0 w : World} {g c : Nat} {d : Array ByteArray} {s : Int} (h : RowC w0 w g d c s) (t : Int) : RowC w0 (w.setCell ⟨c, 0, none⟩ (.int .i64 t)) g d c t := by
  have hne := h.ne
  obtain ⟨⟨h1, h2, cur, hg, hs, hc⟩, h3, h4⟩ := h
  refine ⟨⟨Below.setCell h1 h3 _, h2, cur, ?_, hs, hc⟩, h3, ?_⟩
  · rw [Below.heap_setCell _ _ _ _ hne]; exact hg
  · simp [World.setCell, Array.getElem?_modify, h4]

def Ord2 (w0 : World) (g : Nat) (d : Array ByteArray) (c : Nat) (s : Int) (a b : Nat) (e : Ending) (w' : World) : Prop :=
  ∃ (x y : Nat) (s' : Int), e = .returned (.tuple #[.int .i64 x, .int .i64 y]) ∧ (x = a ∧ y = b ∨ x = b ∧ y = a) ∧ RowC w0 w' g d c s' ∧ s ≤ s' ∧ s' ≤ s + 1

theorem ret_nat2 (x y : Nat) : Ending.returned (.tuple #[.int .i64 (x : Int), .int .i64 (y : Int)]) = Ending.returned (.tuple #[.int .i64 x, .int .i64 y]) := rfl

set_option maxHeartbeats 400000 in
theorem ord2_any (g cap a b c : Nat) (s : Int) (d : Array ByteArray) (w0 w : World) (S : RowC w0 w g d c s) (ha : a < d.size) (hb : b < d.size) (hsz : d.size ≤ 1000) (hs0 : 0 ≤ s) (hs1 : s ≤ 1000) :
    Calls Try.prog 77 #[.slice (some ⟨g, 0, none⟩) d.size cap, .int .i64 a, .int .i64 b, .pointer (some ⟨c, 0, none⟩), .func (Fn.func 57) #[.agg #[]] #[]] w (Ord2 w0 g d c s a b) := by
  have c1 := cell_kept (S.1.cell a ha)
  have c2 := cell_kept (S.1.cell b hb)
  replace S := Lib.hid S
  generalize d[a]! = x at c1
  generalize d[b]! = y at c2
  have z1 : (0 : Int) ≤ a := by omega
  have z2 : (0 : Int) ≤ b := by omega
  have z3 : (a : Int) < d.size := by omega
  have z4 : (b : Int) < d.size := by omega
  by_cases hv : cmpB y x < 0
  · have hvd : decide (cmpB y x < 0) = true := decide_eq_true hv
    go_enter Try.func77, Try.ntmps77
    go_wp2_with fail
    refine wp_region_kept (by kernel_rfl) (by kernel_rfl) ?_
    repeat (go_big_quiet_step ((go_at_call 57; exact Calls.kept_by (by_any _ _ _))))
    refine wpQuiet_nil ?_
    rintro _ ⟨p, rfl⟩
    replace S := Lib.hid (S.out.below p.kept)
    generalize p.world = w1 at S
    clear c1 c2
    have h1 := S.out.cell
    have h2 := S.out.free
    have S2 := Lib.hid (S.out.bump (s + 1))
    go_wp2_with fail
    go_ret2
    exact ⟨b, a, s + 1, rfl, .inr ⟨rfl, rfl⟩, S2.out, by omega, by omega⟩
  · have hvd : decide (cmpB y x < 0) = false := decide_eq_false hv
    go_enter Try.func77, Try.ntmps77
    go_wp2_with fail
    refine wp_region_kept (by kernel_rfl) (by kernel_rfl) ?_
    repeat (go_big_quiet_step ((go_at_call 57; exact Calls.kept_by (by_any _ _ _))))
    refine wpQuiet_nil ?_
    rintro _ ⟨p, rfl⟩
    replace S := Lib.hid (S.out.below p.kept)
    generalize p.world = w1 at S
    clear c1 c2
    go_wp2_with fail
    go_ret2
    exact ⟨a, b, s, rfl, .inl ⟨rfl, rfl⟩, S.out, by omega, by omega⟩

def Med (w0 : World) (g : Nat) (d : Array ByteArray) (c : Nat) (s : Int) (l : List Nat) (e : Ending) (w' : World) : Prop :=
  ∃ (x : Nat) (s' : Int), e = .returned (.int .i64 x) ∧ x ∈ l ∧ RowC w0 w' g d c s' ∧ s ≤ s' ∧ s' ≤ s + 3

set_option maxHeartbeats 400000 in
theorem med_any (g cap i j k c : Nat) (s : Int) (d : Array ByteArray) (w0 w : World) (S : RowC w0 w g d c s) (hi : i < d.size) (hj : j < d.size) (hk : k < d.size) (hsz : d.size ≤ 1000) (hs0 : 0 ≤ s) (hs1 : s ≤ 900) :
    Calls Try.prog 76 #[.slice (some ⟨g, 0, none⟩) d.size cap, .int .i64 i, .int .i64 j, .int .i64 k, .pointer (some ⟨c, 0, none⟩), .func (Fn.func 57) #[.agg #[]] #[]] w (Med w0 g d c s [i, j, k]) := by
  replace S := Lib.hid S
  go_enter Try.func76, Try.ntmps76
  go_wp2_with fail
  refine (ord2_any g cap i j c s d w0 _ S.out hi hj hsz hs0 (by omega)).mono ?_
  rintro e w1 ⟨x1, y1, s1, rfl, hx1, S1, h1, h2⟩
  replace S1 := Lib.hid S1
  replace hx1 := Lib.hid hx1
  go_wp2_with fail
  refine (ord2_any g cap y1 k c s1 d w0 _ S1.out (by have := hx1.out; omega) hk hsz (by omega) (by omega)).mono ?_
  rintro e w2 ⟨x2, y2, s2, rfl, hx2, S2, h3, h4⟩
  replace S2 := Lib.hid S2
  replace hx2 := Lib.hid hx2
  go_wp2_with fail
  refine (ord2_any g cap x1 x2 c s2 d w0 _ S2.out (by have := hx1.out; omega) (by have := hx1.out; have := hx2.out; omega) hsz (by omega) (by omega)).mono ?_
  rintro e w3 ⟨x3, y3, s3, rfl, hx3, S3, h5, h6⟩
  replace S3 := Lib.hid S3
  replace hx3 := Lib.hid hx3
  go_wp2_with fail
  go_ret
  refine ⟨y3, s3, rfl, ?_, S3.out, by omega, by omega⟩
  have := hx1.out; have := hx2.out; have := hx3.out
  simp only [List.mem_cons, List.not_mem_nil, or_false]
  omega

def Piv (w0 : World) (g : Nat) (d : Array ByteArray) (a b : Nat) (e : Ending) (w' : World) : Prop :=
  ∃ (x : Nat) (h : Int), e = .returned (.tuple #[.int .i64 x, .int .i64 h]) ∧ a ≤ x ∧ x < b ∧ 0 ≤ h ∧ h ≤ 2 ∧ RowS w0 w' g d

theorem RowC.start {w0 w : World} {g : Nat} {d : Array ByteArray} (h : RowS w0 w g d) : RowC w0 (w.alloc (.cells #[.int .i64 0] 3)) g d w.heap.size 0 :=
  ⟨h.below ((Below.refl _ _).alloc (Nat.le_refl _) _), h.1.size, by show (w.heap.push _)[w.heap.size]? = _; simp⟩

set_option maxHeartbeats 1000000 in
theorem piv_any (g cap a b : Nat) (d : Array ByteArray) (w0 w : World) (S : RowS w0 w g d) (hb : b ≤ d.size) (hl : a + 13 ≤ b) (hsz : d.size ≤ 49) :
    Calls Try.prog 65 #[.slice (some ⟨g, 0, none⟩) d.size cap, .int .i64 a, .int .i64 b, .func (Fn.func 57) #[.agg #[]] #[]] w (Piv w0 g d a b) := by
  replace S := Lib.hid S
  obtain ⟨l, hbl⟩ : ∃ l, b = a + l := ⟨b - a, by omega⟩
  have hlz : (b : Int) - a = (l : Int) := by omega
  have h8 : (8 : Int) ≤ (l : Int) := by omega
  have h50 : ¬ (50 : Int) ≤ (l : Int) := by omega
  obtain ⟨q, hq⟩ : ∃ q, q = l / 4 := ⟨_, rfl⟩
  have hqz : (l : Int) / 4 = (q : Int) := by omega
  have hqb : 3 * q < l := by omega
  have e1 : (a : Int) + q = ((a + q : Nat) : Int) := by omega
  have e2 : (a : Int) + q * 2 = ((a + q * 2 : Nat) : Int) := by omega
  have e3 : (a : Int) + q * 3 = ((a + q * 3 : Nat) : Int) := by omega
  replace e1 := Lib.hid e1
  replace e2 := Lib.hid e2
  replace e3 := Lib.hid e3
  replace hq := Lib.hid hq
  replace hbl := Lib.hid hbl
  have zq : (0 : Int) ≤ q := by omega
  have zq2 : (q : Int) ≤ 49 := by omega
  have za : (0 : Int) ≤ a := by omega
  have za2 : (a : Int) ≤ 49 := by omega
  go_enter Try.func65, Try.ntmps65
  go_wp2_with fail
  rw [e1.out, e2.out, e3.out]
  refine (med_any g cap (a + q) (a + q * 2) (a + q * 3) w.heap.size 0 d w0 _ (RowC.start S.out) (by have := hbl.out; omega) (by have := hbl.out; omega) (by have := hbl.out; omega) (by omega) (by omega) (by omega)).mono ?_
  rintro e w1 ⟨x, s', rfl, hx, S1, h1, h2⟩
  have hxb : a ≤ x ∧ x < b := by
    have := hbl.out
    simp only [List.mem_cons, List.not_mem_nil, or_false] at hx
    omega
  clear hx
  have hc := S1.cell
  replace S1 := Lib.hid S1
  have h12 : (s' == 12) = false := by simp; omega
  by_cases hs : s' = 0
  · have hsb : (s' == 0) = true := by simpa using hs
    clear hs
    go_wp2_with fail
    go_ret2
    exact ⟨x, 1, rfl, hxb.1, hxb.2, by omega, by omega, S1.out.1⟩
  · have hsb : (s' == 0) = false := by simpa using hs
    clear hs
    go_wp2_with fail
    go_ret2
    exact ⟨x, 0, rfl, hxb.1, hxb.2, by omega, by omega, S1.out.1⟩
end Go.Proofs.Ytgfnajpmaaomnaa
