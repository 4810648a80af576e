/- NameKnown: the walk. -/
import Derived.Test.YtgfnajpmaaomnaaKn
namespace Go.Proofs.Ytgfnajpmaaomnaa
open Go.ChangeShapes Go.WideShapes Go.ChangeAt Go.RowKit
set_option linter.unusedVariables false

theorem word_at (s : ByteArray) (k : Int) (w : World) (h : wordE s = k) (hs : s.size ≤ maxLen) : Calls Try.prog 21 #[.string s] w fun e w' => e = .returned (.int .i64 k) ∧ Below w.heap.size w w' := by subst h; exact word_any s w hs
theorem check_at (s : ByteArray) (k : Int) (w : World) (h : checkE s = k) (hs : s.size ≤ maxLen) : Calls Try.prog 18 #[.string s] w fun e w' => e = .returned (.int .i64 k) ∧ Below w.heap.size w w' := by subst h; exact check_any s w hs
theorem lang_at (s : ByteArray) (k : Bool) (w : World) (h : langB s = k) : Calls Try.prog 24 #[.string s] w fun e w' => e = .returned (.bool k) ∧ Below w.heap.size w w' := by subst h; exact lang_any s w
theorem small_at (s : ByteArray) (k : Bool) (w : World) (h : smallB s = k) (hs : s.size ≤ maxLen) : Calls Try.prog 19 #[.string s] w fun e w' => e = .returned (.bool k) ∧ Below w.heap.size w w' := by subst h; exact small_any s w hs
theorem cap_at (s : ByteArray) (k : Bool) (w : World) (h : capB s = k) (hs : s.size ≤ maxLen) : Calls Try.prog 20 #[.string s] w fun e w' => e = .returned (.bool k) ∧ Below w.heap.size w w' := by subst h; exact cap_any s w hs
theorem make_at (n : Int) (c : Bool) (s : ByteArray) (k : Int) (w : World) (h : mkB n c = s) (h2 : mkE n = k) : Calls Try.prog 15 #[.int .i64 n, .bool c] w fun e w' => e = .returned (.tuple #[.string s, .int .i64 k]) ∧ w = w' := by
  subst h; subst h2; exact make_any n c w
theorem find_at (l : List ByteArray) (s : ByteArray) (f k : Int) (n cap : Nat) (a : Option Addr) (w : World) (hr : Reads w a n l) (hn : n ≤ 1000000) (h : findN l s = f) (h2 : findE l s = k) :
    Calls Try.prog 32 #[.slice a n cap, .string s] w fun e w' => e = .returned (.tuple #[.int .i64 f, .int .i64 k]) ∧ Below w.heap.size w w' := by
  subst h; subst h2; exact find_any a n cap l s w hr hn
theorem fresh_at (l : List ByteArray) (c : Bool) (s : ByteArray) (k : Int) (n cap : Nat) (a : Option Addr) (w : World) (hr : Reads w a n l) (hn : n ≤ 1000000) (h : freshB l c = s) (h2 : freshE l = k) :
    Calls Try.prog 31 #[.slice a n cap, .bool c] w fun e w' => e = .returned (.tuple #[.string s, .int .i64 k]) ∧ w = w' := by
  subst h; subst h2; exact fresh_any a n cap l c w hr hn
theorem twice_at (l : List ByteArray) (f : Int) (b : Bool) (k : Int) (n cap : Nat) (a : Option Addr) (w : World) (hr : Reads w a n l) (hn : n ≤ 1000000) (hc : n ≤ cap) (h : twN l = f) (h2 : twB l = b) (h3 : twE l = k) :
    Calls Try.prog 35 #[.slice a n cap] w fun e w' => e = .returned (.tuple #[.int .i64 f, .bool b, .int .i64 k]) ∧ w = w' := by
  subst h; subst h2; subst h3; exact twice_any a n cap l w hr hn hc

theorem kept_lay {w0 w : World} (h : Kept w0 w) (o : Obj) : Kept w0 (w.alloc o) := Below.alloc h h.size o
theorem kept_eq {w0 w w' : World} (h : Kept w0 w) (e : w = w') : Kept w0 w' := e ▸ h
theorem kept_trans {w0 w w' : World} (h : Kept w0 w) (hb : Below w.heap.size w w') : Kept w0 w' := h.trans (hb.mono h.size)
theorem k38 : findN L3 ⟨#[99]⟩ = 0 := by decide +kernel
theorem k39 : twN L5 = 0 := by decide +kernel

set_option maxRecDepth 100000 in
set_option maxHeartbeats 4000000 in
theorem nameKnown_walk (w : World) : Calls Try.prog 11 #[] w fun e w' => e = .returned (.bool true) ∧ Below w.heap.size w w' := by
  have hk : Kept w w := Kept.refl w
  go_enter Try.func11, Try.ntmps11
  go_wp2_with fail
  refine (kept_of (word_at _ 0 _ k1 (by decide +kernel)) hk).mono ?_
  rintro e wx ⟨rfl, hk⟩
  go_wp2_with fail
  refine (kept_of (word_at _ 0 _ k2 (by decide +kernel)) hk).mono ?_
  rintro e wx ⟨rfl, hk⟩
  go_wp2_with fail
  refine (kept_of (word_at _ 5 _ k3 (by decide +kernel)) hk).mono ?_
  rintro e wx ⟨rfl, hk⟩
  go_wp2_with fail
  refine (kept_of (word_at _ 3 _ k4 (by decide +kernel)) hk).mono ?_
  rintro e wx ⟨rfl, hk⟩
  go_wp2_with fail
  refine (kept_of (word_at _ 3 _ k5 (by decide +kernel)) hk).mono ?_
  rintro e wx ⟨rfl, hk⟩
  go_wp2_with fail
  refine (kept_of (word_at _ 4 _ k6 (by decide +kernel)) hk).mono ?_
  rintro e wx ⟨rfl, hk⟩
  go_wp2_with fail
  refine (kept_of (check_at _ 12 _ k7 (by decide +kernel)) hk).mono ?_
  rintro e wx ⟨rfl, hk⟩
  go_wp2_with fail
  refine (kept_of (check_at _ 0 _ k8 (by decide +kernel)) hk).mono ?_
  rintro e wx ⟨rfl, hk⟩
  go_wp2_with fail
  refine (kept_of (check_at _ 0 _ k9 (by decide +kernel)) hk).mono ?_
  rintro e wx ⟨rfl, hk⟩
  go_wp2_with fail
  refine (kept_of (lang_at _ true _ k10) hk).mono ?_
  rintro e wx ⟨rfl, hk⟩
  go_wp2_with fail
  refine (kept_of (lang_at _ false _ k11) hk).mono ?_
  rintro e wx ⟨rfl, hk⟩
  go_wp2_with fail
  refine (kept_of (small_at _ false _ k12 (by decide +kernel)) hk).mono ?_
  rintro e wx ⟨rfl, hk⟩
  go_wp2_with fail
  refine (kept_of (cap_at _ true _ k13 (by decide +kernel)) hk).mono ?_
  rintro e wx ⟨rfl, hk⟩
  go_wp2_with fail
  refine (kept_of (cap_at _ false _ k14 (by decide +kernel)) hk).mono ?_
  rintro e wx ⟨rfl, hk⟩
  go_wp2_with fail
  refine (kept_same (ncompare_to _ _ (-1) k15 _) hk).mono ?_
  rintro e wx ⟨rfl, hk⟩
  go_wp2_with fail
  refine (kept_same (ncompare_to _ _ 1 k16 _) hk).mono ?_
  rintro e wx ⟨rfl, hk⟩
  go_wp2_with fail
  refine (kept_same (ncompare_to _ _ (-1) k17 _) hk).mono ?_
  rintro e wx ⟨rfl, hk⟩
  go_wp2_with fail
  refine (kept_same (ncompare_to _ _ 0 k18 _) hk).mono ?_
  rintro e wx ⟨rfl, hk⟩
  go_wp2_with fail
  refine (sorted_few _ 4 4 L1 _ (lit_reads wx L1) (by omega) (by simp)).mono ?_
  rintro e w1 ⟨a1, c1, rfl, hR, hn1, hz1, hB⟩
  rw [k19] at hR
  replace hk := kept_trans (kept_lay hk _) hB
  replace hR := Lib.hid hR
  clear hB hz1
  go_wp2_with fail
  refine (find_at L3 _ 1 0 2 2 _ _ (lit_reads _ L3) (by omega) k20 k21).mono ?_
  rintro e w2 ⟨rfl, hB⟩
  replace hk := kept_trans (kept_lay hk _) hB
  replace hR := Lib.hid (reads_below (reads_alloc hR.out _) hB)
  clear hB
  go_wp2_with fail
  refine (find_at L3 _ 0 7 2 2 _ _ (lit_reads _ L3) (by omega) k38 k22).mono ?_
  rintro e w3 ⟨rfl, hB⟩
  replace hk := kept_trans (kept_lay hk _) hB
  replace hR := Lib.hid (reads_below (reads_alloc hR.out _) hB)
  clear hB
  go_wp2_with fail
  refine (same_to (x := true) _ _ _ L2 _ 4 4 L2 _ (reads_alloc hR.out _) (lit_reads _ L2) (by omega) (by omega) (decide_eq_true rfl)).mono ?_
  rintro e w4 ⟨rfl, hB⟩
  replace hk := kept_trans (kept_lay hk _) hB
  clear hB hR
  go_wp2_with fail
  refine (twice_at L4 2 true 0 4 4 _ _ (lit_reads _ L4) (by omega) (by omega) k23 k24 k25).mono ?_
  rintro e wy ⟨rfl, hw⟩
  have hk := kept_eq (kept_lay hk _) hw
  clear hw
  go_wp2_with fail
  refine (twice_at L5 0 false 0 2 2 _ _ (lit_reads _ L5) (by omega) (by omega) k39 k26 k27).mono ?_
  rintro e wy ⟨rfl, hw⟩
  have hk := kept_eq (kept_lay hk _) hw
  clear hw
  go_wp2_with fail
  refine (make_at 0 false _ 0 _ k28 k29).mono ?_
  rintro e wx ⟨rfl, rfl⟩
  go_wp2_with fail
  refine (make_at 10000 false _ 2 _ rfl k30).mono ?_
  rintro e wx ⟨rfl, rfl⟩
  go_wp2_with fail
  refine (make_at (-1) true _ 2 _ rfl k31).mono ?_
  rintro e wx ⟨rfl, rfl⟩
  go_wp2_with fail
  refine (fresh_at L6 false _ 0 2 2 _ _ (lit_reads _ L6) (by omega) k32 k33).mono ?_
  rintro e wy ⟨rfl, hw⟩
  have hk := kept_eq (kept_lay hk _) hw
  clear hw
  go_wp2_with fail
  refine (fresh_at L7 false _ 0 1 1 _ _ (lit_reads _ L7) (by omega) k34 k35).mono ?_
  rintro e wy ⟨rfl, hw⟩
  have hk := kept_eq (kept_lay hk _) hw
  clear hw
  go_wp2_with fail
  refine (fresh_at L8 true _ 0 1 1 _ _ (lit_reads _ L8) (by omega) k36 k37).mono ?_
  rintro e wy ⟨rfl, hw⟩
  have hk := kept_eq (kept_lay hk _) hw
  clear hw
  go_wp2_with fail
  refine (kept_of (awake03 _) hk).mono ?_
  rintro e w9 ⟨rfl, hk⟩
  go_wp2_with fail
  go_ret
  exact ⟨rfl, hk⟩
end Go.Proofs.Ytgfnajpmaaomnaa
