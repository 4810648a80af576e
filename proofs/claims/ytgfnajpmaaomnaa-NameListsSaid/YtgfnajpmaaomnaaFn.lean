/- Contracts of layer 3 (name): Mod, few, Fresh, find, Find. -/
import Derived.Test.YtgfnajpmaaomnaaFr
namespace Go.Proofs.Ytgfnajpmaaomnaa
open Go.ChangeShapes Go.WideShapes Go.ChangeAt Go.RowKit
set_option linter.unusedVariables false

theorem mod_lo (a m : Int) (hm : 0 < m) (h : a.tmod m < 0) : a.tmod m + m = a % m := by
  have h1 := (Int.tmod_eq_emod : a.tmod m = _)
  have h2 := Int.emod_nonneg a (by omega : m ≠ 0)
  have h3 := Int.emod_lt_of_pos a hm
  split at h1 <;> omega
theorem mod_hi (a m : Int) (hm : 0 < m) (h : ¬ a.tmod m < 0) : a.tmod m = a % m := by
  have h1 := (Int.tmod_eq_emod : a.tmod m = _)
  have h2 := Int.emod_nonneg a (by omega : m ≠ 0)
  have h3 := Int.emod_lt_of_pos a hm
  split at h1 <;> omega
theorem mod_bd (a m : Int) (hm : 0 < m) : -m < a.tmod m ∧ a.tmod m < m := by
  have h1 := (Int.tmod_eq_emod : a.tmod m = _)
  have h2 := Int.emod_nonneg a (by omega : m ≠ 0)
  have h3 := Int.emod_lt_of_pos a hm
  split at h1 <;> omega

set_option maxHeartbeats 400000 in
theorem mod_any (a m : Int) (w : World) (wa : (Lit.int .i64 a).wf = true) (h1 : 1 ≤ m) (h2 : m ≤ 1000000000) :
    Calls Try.prog 30 #[.int .i64 a, .int .i64 m] w fun e w' => e = .returned (.int .i64 (a % m)) ∧ w = w' := by
  have hb := mod_bd a m (by omega)
  have hne : ¬ m = 0 := by omega
  have hnb : (m == 0) = false := by simpa using hne
  by_cases h : a.tmod m < 0
  · have hL := Lib.hid (mod_lo a m (by omega) h)
    go_enter Try.func30, Try.ntmps30
    go_wp2_with fail
    go_ret
    exact ⟨ret_int hL.out, rfl⟩
  · have hL := Lib.hid (mod_hi a m (by omega) h)
    go_enter Try.func30, Try.ntmps30
    go_wp2_with fail
    go_ret
    exact ⟨ret_int hL.out, rfl⟩

theorem few_any (a : Option Addr) (n cap : Nat) (w : World) (hn : n ≤ 1000000) :
    Calls Try.prog 52 #[.slice a n cap] w fun e w' => e = .returned (.int .i64 (if 100 < n then 6 else 0)) ∧ w = w' := by
  by_cases h : 100 < n
  · rw [if_pos h]
    go_enter Try.func52, Try.ntmps52
    go_wp2
    go_ret
    exact ⟨rfl, rfl⟩
  · rw [if_neg h]
    go_enter Try.func52, Try.ntmps52
    go_wp2
    go_ret
    exact ⟨rfl, rfl⟩

theorem clos_any (x s : ByteArray) (b : Nat) (w : World) (hb : w.cell? ⟨b, 0, none⟩ = some (.string s)) :
    Calls Try.prog 54 #[.string x, .pointer (some ⟨b, 0, none⟩)] w fun e w' => e = .returned (.bool (decide (s = x))) ∧ w = w' := by
  by_cases h : x = s
  · rw [decide_eq_true h.symm]
    have he := eqT x s h
    clear h
    go_enter Try.func54, Try.ntmps54
    go_wp2
    go_ret
    exact ⟨rfl, rfl⟩
  · rw [decide_eq_false (fun e => h e.symm)]
    have he := eqF x s h
    clear h
    go_enter Try.func54, Try.ntmps54
    go_wp2
    go_ret
    exact ⟨rfl, rfl⟩

set_option maxHeartbeats 400000 in
theorem find53 (a : Option Addr) (n cap : Nat) (l : List ByteArray) (s : ByteArray) (b : Nat) (w : World) (hr : Reads w a n l) (hn : n ≤ 1000000) (hb : w.cell? ⟨b, 0, none⟩ = some (.string s)) :
    Calls Try.prog 53 #[.slice a n cap, .func (Fn.func 54) #[] #[.pointer (some ⟨b, 0, none⟩)]] w fun e w' => e = .returned (.int .i64 (idxF s l 0)) ∧ w = w' := by
  obtain ⟨rfl, hc⟩ := hr
  have hc := Lib.hid hc
  have hb := Lib.hid hb
  go_enter Try.func53, Try.ntmps53
  go_wp2
  go_loopg [9] l.length (fun k i wr => ∃ pos : Nat, wr = w ∧ i = .int .i64 pos ∧ pos + k = l.length ∧ idxF s (l.drop pos) pos = idxF s l 0)
  case atStart => exact ⟨0, rfl, rfl, by omega, rfl⟩
  case round =>
    obtain ⟨pos, rfl, rfl, hk, hg⟩ := hrel
    by_cases hp : pos < l.length
    · rcases hc.out with hz | ⟨b, off, rfl, hst⟩
      · omega
      · have hcell := hst pos (by omega)
        have hd := drop_cons l pos (by omega)
        generalize l.getD pos ByteArray.empty = x at hcell hd
        rw [hd] at hg
        have hpz : 0 ≤ (pos : Int) := by omega
        by_cases hx : s = x
        · have hxb := decide_eq_true hx
          have hG := Lib.hid (hg.symm.trans (by simp [idxF, hx]) : idxF s l 0 = pos)
          clear hg hd hc hx hst
          go_wp2_with (go_at_call 54; refine (clos_any _ s _ _ hb.out).mono ?_; rintro e w' ⟨rfl, rfl⟩)
          go_ret
          exact ⟨ret_int hG.out.symm, rfl⟩
        · have hxb := decide_eq_false hx
          have hG := Lib.hid ((show idxF s (x :: List.drop (pos + 1) l) pos = idxF s (List.drop (pos + 1) l) (pos + 1) by simp [idxF, hx]).symm.trans hg)
          clear hg hd hc hx hst
          go_wp2_with (go_at_call 54; refine (clos_any _ s _ _ hb.out).mono ?_; rintro e w' ⟨rfl, rfl⟩)
          go_roundg (l.length - (pos + 1))
          case measure => omega
          case rel => exact ⟨pos + 1, rfl, by go_num, by omega, hG.out⟩
    · have hps : pos = l.length := by omega
      have hG := Lib.hid hg
      clear hg hc
      have hf := hG.out
      rw [List.drop_of_length_le (by omega)] at hf
      have hF := Lib.hid hf
      clear hf hps hk hG
      go_wp2
      go_ret
      exact ⟨ret_int hF.out, rfl⟩

theorem reads_alloc {w : World} {a : Option Addr} {n : Nat} {l : List ByteArray} (h : Reads w a n l) (o : Obj) : Reads (w.alloc o) a n l := by
  obtain ⟨h1, h2⟩ := h
  refine ⟨h1, ?_⟩
  rcases h2 with h2 | ⟨b, off, h2, h3⟩
  · exact .inl h2
  · refine .inr ⟨b, off, h2, fun i hi => ?_⟩
    have hc := h3 i hi
    exact cell_later ((Below.refl w.heap.size w).alloc (Nat.le_refl _) o) hc

def findN (l : List ByteArray) (s : ByteArray) : Int := if 100 < l.length then 0 else if idxF s l 0 < 0 then 0 else idxF s l 0
def findE (l : List ByteArray) (s : ByteArray) : Int := if 100 < l.length then 6 else if idxF s l 0 < 0 then 7 else 0

set_option maxHeartbeats 400000 in
theorem find_any (a : Option Addr) (n cap : Nat) (l : List ByteArray) (s : ByteArray) (w : World) (hr : Reads w a n l) (hn : n ≤ 1000000) :
    Calls Try.prog 32 #[.slice a n cap, .string s] w fun e w' => e = .returned (.tuple #[.int .i64 (findN l s), .int .i64 (findE l s)]) ∧ Below w.heap.size w w' := by
  have hl := hr.1
  have hR := Lib.hid hr
  clear hr
  by_cases h : 100 < n
  · have e1 : findN l s = 0 := by unfold findN; rw [if_pos (by omega)]
    have e2 : findE l s = 6 := by unfold findE; rw [if_pos (by omega)]
    rw [e1, e2]
    clear e1 e2 hl
    go_enter Try.func32, Try.ntmps32
    go_wp2_with (go_at_call 52; refine (few_any _ _ _ _ hn).mono ?_; rintro e w' ⟨rfl, rfl⟩; rw [if_pos h])
    go_ret2
    exact ⟨rfl, (Below.refl _ _).alloc (Nat.le_refl _) _⟩
  · have hF := Lib.hid (fun o (hb : (w.alloc o).cell? ⟨w.heap.size, 0, none⟩ = some (.string s)) => find53 a n cap l s w.heap.size (w.alloc o) (reads_alloc hR.out o) hn hb)
    by_cases h2 : idxF s l 0 < 0
    · have e1 : findN l s = 0 := by unfold findN; rw [if_neg (by omega), if_pos h2]
      have e2 : findE l s = 7 := by unfold findE; rw [if_neg (by omega), if_pos h2]
      rw [e1, e2]
      clear e1 e2 hl
      generalize idxF s l 0 = k at *
      go_enter Try.func32, Try.ntmps32
      go_wp2_with (go_at_call 52; refine (few_any _ _ _ _ hn).mono ?_; rintro e w' ⟨rfl, rfl⟩; rw [if_neg h])
      refine (hF.out _ (by simp)).mono ?_
      rintro e w' ⟨rfl, rfl⟩
      go_wp2_with fail
      go_ret2
      exact ⟨rfl, (Below.refl _ _).alloc (Nat.le_refl _) _⟩
    · have e1 : findN l s = idxF s l 0 := by unfold findN; rw [if_neg (by omega), if_neg h2]
      have e2 : findE l s = 0 := by unfold findE; rw [if_neg (by omega), if_neg h2]
      rw [e1, e2]
      clear e1 e2 hl
      generalize idxF s l 0 = k at *
      go_enter Try.func32, Try.ntmps32
      go_wp2_with (go_at_call 52; refine (few_any _ _ _ _ hn).mono ?_; rintro e w' ⟨rfl, rfl⟩; rw [if_neg h])
      refine (hF.out _ (by simp)).mono ?_
      rintro e w' ⟨rfl, rfl⟩
      go_wp2_with fail
      go_ret2
      exact ⟨rfl, (Below.refl _ _).alloc (Nat.le_refl _) _⟩

def freshB (l : List ByteArray) (c : Bool) : ByteArray := if 100 < l.length then ByteArray.empty else mkB (freshN l c) c
def freshE (l : List ByteArray) : Int := if 100 < l.length then 6 else 0

set_option maxHeartbeats 400000 in
theorem fresh_any (a : Option Addr) (n cap : Nat) (l : List ByteArray) (c : Bool) (w : World) (hr : Reads w a n l) (hn : n ≤ 1000000) :
    Calls Try.prog 31 #[.slice a n cap, .bool c] w fun e w' => e = .returned (.tuple #[.string (freshB l c), .int .i64 (freshE l)]) ∧ w = w' := by
  have hl := hr.1
  have hR := Lib.hid hr
  clear hr
  by_cases h : 100 < n
  · have e1 : freshB l c = ByteArray.empty := by unfold freshB; rw [if_pos (by omega)]
    have e2 : freshE l = 6 := by unfold freshE; rw [if_pos (by omega)]
    rw [e1, e2]
    clear e1 e2 hl
    go_enter Try.func31, Try.ntmps31
    go_wp2_with (go_at_call 52; refine (few_any _ _ _ _ hn).mono ?_; rintro e w' ⟨rfl, rfl⟩; rw [if_pos h])
    go_ret2
    exact ⟨rfl, rfl⟩
  · obtain ⟨f1, f2, f3⟩ := fresh_spec l c (by omega)
    have e1 : freshB l c = mkB (freshN l c) c := by unfold freshB; rw [if_neg (by omega)]
    have e2 : freshE l = 0 := by unfold freshE; rw [if_neg (by omega)]
    rw [e1, e2]
    clear e1 e2 hl
    have f2 := Lib.hid f2
    have f3 := Lib.hid f3
    generalize freshN l c = N at *
    go_enter Try.func31, Try.ntmps31
    go_wp2_with (go_at_call 52; refine (few_any _ _ _ _ hn).mono ?_; rintro e w' ⟨rfl, rfl⟩; rw [if_neg h])
    go_loopg [7] (N + 1) (fun k i wr => ∃ pos : Nat, wr = w ∧ i = .int .i64 pos ∧ pos + k = N + 1 ∧ pos ≤ N)
    case atStart => exact ⟨0, rfl, rfl, by omega, by omega⟩
    case round =>
      obtain ⟨pos, rfl, rfl, hk, hp⟩ := hrel
      have hpz : 0 ≤ (pos : Int) := by omega
      by_cases hlt : pos < N
      · have hB := f2.out pos hlt
        generalize hm : mkB pos c = s at hB
        have hm := Lib.hid hm
        go_wp2_with fail
        refine (make_any _ _ _).mono ?_
        rintro e w' ⟨rfl, rfl⟩
        rw [hm.out]
        go_wp2_with fail
        refine (contains_any _ _ _ _ _ _ hR.out hn).mono ?_
        rintro e w' ⟨rfl, rfl⟩
        go_wp2_with fail
        go_roundg (N - pos)
        case measure => omega
        case rel => exact ⟨pos + 1, rfl, by go_num, by omega, by omega⟩
      · obtain rfl : pos = N := by omega
        have hB := f3.out
        generalize hm : mkB pos c = s at hB
        have hm := Lib.hid hm
        go_wp2_with fail
        refine (make_any _ _ _).mono ?_
        rintro e w' ⟨rfl, rfl⟩
        rw [hm.out]
        go_wp2_with fail
        refine (contains_any _ _ _ _ _ _ hR.out hn).mono ?_
        rintro e w' ⟨rfl, rfl⟩
        go_wp2_with fail
        go_ret2
        exact ⟨ret_strint hm.out.symm rfl, rfl⟩
end Go.Proofs.Ytgfnajpmaaomnaa
