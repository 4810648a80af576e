/- Contracts of layer 3 (name): Twice, SameTexts, Short, count. -/
import Derived.Test.YtgfnajpmaaomnaaFw
namespace Go.Proofs.Ytgfnajpmaaomnaa
open Go.ChangeShapes Go.WideShapes Go.ChangeAt Go.RowKit
set_option linter.unusedVariables false

/-- the place of the first string that is equal to an earlier one -/
def twL : List ByteArray → List ByteArray → Option Nat
  | _, [] => none
  | pre, x :: t => if hasB x pre = true then some pre.length else twL (pre ++ [x]) t

def twN (l : List ByteArray) : Int := if 100 < l.length then 0 else match twL [] l with | some i => (i : Int) | none => 0
def twB (l : List ByteArray) : Bool := if 100 < l.length then false else (twL [] l).isSome
def twE (l : List ByteArray) : Int := if 100 < l.length then 6 else 0

theorem reads_take {w : World} {a : Option Addr} {n k : Nat} {l : List ByteArray} (h : Reads w a n l) (hk : k ≤ n) : Reads w a k (l.take k) := by
  obtain ⟨h1, h2⟩ := h
  refine ⟨by rw [List.length_take]; omega, ?_⟩
  rcases h2 with h2 | ⟨b, off, h2, h3⟩
  · left; omega
  · refine .inr ⟨b, off, h2, fun i hi => ?_⟩
    rw [List.length_take] at hi
    have := h3 i (by omega)
    rw [this]
    simp only [List.getD_eq_getElem?_getD]
    rw [List.getElem?_take, if_pos (by omega)]

theorem take_drop_snoc (l : List ByteArray) (k : Nat) (h : k < l.length) : l.take (k + 1) = l.take k ++ [l.getD k ByteArray.empty] := by
  rw [List.take_succ_eq_append_getElem h]; simp [List.getD_eq_getElem?_getD, h]

theorem ret_three {a c d : Int} {b b' : Bool} {a' d' : Int} (h1 : a = a') (h2 : b = b') (h3 : d = d') : Ending.returned (.tuple #[.int .i64 a, .bool b, .int .i64 d]) = .returned (.tuple #[.int .i64 a', .bool b', .int .i64 d']) := by rw [h1, h2, h3]

set_option maxHeartbeats 1000000 in
theorem twice_any (a : Option Addr) (n cap : Nat) (l : List ByteArray) (w : World) (hr : Reads w a n l) (hn : n ≤ 1000000) (hcap : n ≤ cap) :
    Calls Try.prog 35 #[.slice a n cap] w fun e w' => e = .returned (.tuple #[.int .i64 (twN l), .bool (twB l), .int .i64 (twE l)]) ∧ w = w' := by
  have hl := hr.1
  have hc := Lib.hid hr.2
  have hR := Lib.hid hr
  clear hr
  by_cases h : 100 < n
  · have e1 : twN l = 0 := by unfold twN; rw [if_pos (by omega)]
    have e2 : twB l = false := by unfold twB; rw [if_pos (by omega)]
    have e3 : twE l = 6 := by unfold twE; rw [if_pos (by omega)]
    rw [e1, e2, e3]
    clear e1 e2 e3 hl
    go_enter Try.func35, Try.ntmps35
    go_wp2_with (go_at_call 52; refine (few_any _ _ _ _ hn).mono ?_; rintro e w' ⟨rfl, rfl⟩; rw [if_pos h])
    go_ret3
    exact ⟨rfl, rfl⟩
  · have e1 : twN l = match twL [] l with | some i => (i : Int) | none => 0 := by unfold twN; rw [if_neg (by omega)]
    have e2 : twB l = (twL [] l).isSome := by unfold twB; rw [if_neg (by omega)]
    have e3 : twE l = 0 := by unfold twE; rw [if_neg (by omega)]
    rw [e1, e2, e3]
    clear e1 e2 e3
    generalize hT : twL [] l = T
    replace hT := Lib.hid hT
    subst hl
    go_enter Try.func35, Try.ntmps35
    go_wp2_with (go_at_call 52; refine (few_any _ _ _ _ hn).mono ?_; rintro e w' ⟨rfl, rfl⟩; rw [if_neg h])
    go_loopg [15] l.length (fun k i wr => ∃ pos : Nat, wr = w ∧ i = .int .i64 pos ∧ pos + k = l.length ∧ twL (l.take pos) (l.drop pos) = T)
    case atStart => exact ⟨0, rfl, rfl, by omega, hT.out⟩
    case round =>
      obtain ⟨pos, rfl, rfl, hk, hg⟩ := hrel
      replace hg := Lib.hid hg
      by_cases hp : pos < l.length
      · rcases hc.out with hz | ⟨b, off, rfl, hst⟩
        · omega
        · have hcell := hst pos hp
          have hd := drop_cons l pos hp
          have htk := take_drop_snoc l pos hp
          have hrt := Lib.hid (reads_take hR.out (by omega : pos ≤ l.length))
          generalize l.getD pos ByteArray.empty = x at hcell hd htk
          have hg2 := hg.out
          rw [hd] at hg2
          have hpz : 0 ≤ (pos : Int) := by omega
          have hpc : (pos : Int) ≤ cap := by omega
          have hlen : (l.take pos).length = pos := by rw [List.length_take]; omega
          cases hB : hasB x (l.take pos)
          · have hS := Lib.hid (show twL (l.take (pos + 1)) (l.drop (pos + 1)) = T by rw [htk, ← hg2]; simp [twL, hB])
            clear hg2 hd htk hst hlen
            go_wp2_with fail
            refine (contains_any _ _ _ _ _ _ hrt.out (by omega)).mono ?_
            rintro e w' ⟨rfl, rfl⟩
            rw [hB]
            go_wp2_with fail
            go_roundg (l.length - (pos + 1))
            case measure => omega
            case rel => exact ⟨pos + 1, rfl, by go_num, by omega, hS.out⟩
          · have hS : T = some pos := by rw [← hg2]; simp only [twL, hB, if_true, hlen]
            subst hS
            clear hg2 hd htk hst hlen
            go_wp2_with fail
            refine (contains_any _ _ _ _ _ _ hrt.out (by omega)).mono ?_
            rintro e w' ⟨rfl, rfl⟩
            rw [hB]
            go_wp2_with fail
            go_ret3
            exact ⟨rfl, rfl⟩
      · have hg2 := hg.out
        rw [List.drop_of_length_le (by omega)] at hg2
        have hS : T = none := hg2.symm
        subst hS
        have hps : ¬ pos < l.length := hp
        clear hg2
        go_wp2_with fail
        go_ret3
        exact ⟨rfl, rfl⟩

/-- the same list, from a place on -/
def sameL (l m : List ByteArray) : Bool := decide (l = m)

theorem neT (a b : ByteArray) (h : a = b) : (a.toList != b.toList) = false := by rw [h]; simp
theorem neF (a b : ByteArray) (h : ¬ a = b) : (a.toList != b.toList) = true := by
  rw [bne, eqF a b h]; rfl

set_option maxHeartbeats 1000000 in
theorem same_any (a : Option Addr) (n cap : Nat) (l : List ByteArray) (c : Option Addr) (m cap2 : Nat) (k : List ByteArray) (w : World) (hr : Reads w a n l) (hr2 : Reads w c m k) (hn : n ≤ 1000000) (hm : m ≤ 1000000) :
    Calls Try.prog 36 #[.slice a n cap, .slice c m cap2] w fun e w' => e = .returned (.bool (sameL l k)) ∧ Below w.heap.size w w' := by
  obtain ⟨rfl, hc⟩ := hr
  obtain ⟨rfl, hd⟩ := hr2
  replace hc := Lib.hid hc
  replace hd := Lib.hid hd
  by_cases hl : l.length = k.length
  · have hlb : ((l.length : Int) != (k.length : Int)) = false := by simp; omega
    generalize hT : sameL l k = T
    have hT : decide (l.drop 0 = k.drop 0) = T := hT
    replace hT := Lib.hid hT
    replace hl := Lib.hid hl
    go_enter Try.func36, Try.ntmps36
    go_wp2_with fail
    go_loopg [5] l.length (fun gk i wr => ∃ pos q : Nat, wr = w.drewN q ∧ i = .int .i64 pos ∧ pos + gk = l.length ∧ decide (l.drop pos = k.drop pos) = T)
    case atStart => exact ⟨0, 0, rfl, rfl, by omega, hT.out⟩
    case round =>
      obtain ⟨pos, q, rfl, rfl, hk, hg⟩ := hrel
      replace hg := Lib.hid hg
      by_cases hp : pos < l.length
      · have hp2 : pos < k.length := by have := hl.out; omega
        rcases hc.out with hz | ⟨b, off, rfl, hst⟩
        · omega
        rcases hd.out with hz | ⟨b2, off2, rfl, hst2⟩
        · omega
        have hcell := hst pos hp
        have hcell2 := hst2 pos hp2
        have e1 := drop_cons l pos hp
        have e2 := drop_cons k pos hp2
        generalize l.getD pos ByteArray.empty = x at hcell e1
        generalize k.getD pos ByteArray.empty = y at hcell2 e2
        have hg2 := hg.out
        rw [e1, e2] at hg2
        have hpz : 0 ≤ (pos : Int) := by omega
        have hpl : (pos : Int) < l.length := by omega
        have hpk : (pos : Int) < k.length := by omega
        by_cases hx : x = y
        · have hxb := eqT x y hx
          have hS := Lib.hid (show decide (l.drop (pos + 1) = k.drop (pos + 1)) = T by rw [← hg2]; simp [hx])
          clear hg2 e1 e2 hst hst2 hx
          go_wp2_with fail
          go_quiet (fail)
          go_wp2_with fail
          go_roundg (l.length - (pos + 1))
          case measure => omega
          case rel => exact ⟨pos + 1, _, rfl, by go_num, by omega, hS.out⟩
        · have hxb := eqF x y hx
          have hS : T = false := by rw [← hg2]; simp [hx]
          subst hS
          clear hg2 e1 e2 hst hst2 hx
          go_wp2_with fail
          go_quiet (fail)
          go_wp2_with fail
          go_ret
          exact ⟨rfl, below_drewN (below_drewN (Below.refl _ _) _) _⟩
      · have hg2 := hg.out
        rw [List.drop_of_length_le (by omega), List.drop_of_length_le (by have := hl.out; omega)] at hg2
        have hS : T = true := by rw [← hg2]; rfl
        subst hS
        clear hg2
        go_wp2_with fail
        go_ret
        exact ⟨rfl, below_drewN (Below.refl _ _) _⟩
  · have hlb : ((l.length : Int) != (k.length : Int)) = true := by simp; omega
    have hT : sameL l k = false := decide_eq_false (fun e => hl (by rw [e]))
    rw [hT]
    clear hT hl
    go_enter Try.func36, Try.ntmps36
    go_wp2_with fail
    go_ret
    exact ⟨rfl, Below.refl _ _⟩
end Go.Proofs.Ytgfnajpmaaomnaa
