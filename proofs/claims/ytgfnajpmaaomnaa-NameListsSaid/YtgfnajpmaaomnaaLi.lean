/- NameLists: the walk. -/
import Derived.Test.YtgfnajpmaaomnaaRs
import Derived.Deep.DeepCutAuto
namespace Go.Proofs.Ytgfnajpmaaomnaa
open Go.ChangeShapes Go.WideShapes Go.ChangeAt Go.RowKit
set_option linter.unusedVariables false

theorem own_parts {w : World} {base : Nat} {v : Value} {n : Nat} {l : List ByteArray} (h : w.ownsRow base 9 1 v n (l.map Value.string)) :
    ∃ a cap, v = .slice a n cap ∧ Reads w a n l ∧ n ≤ cap ∧ (a = none → cap = 0) := by
  obtain ⟨a, cap, rfl, hr⟩ := owns_reads h
  rcases h.2 with ⟨h1, h2⟩ | ⟨g, c, cur, h1, _, _, h3, _⟩
  · cases h1; exact ⟨none, 0, rfl, hr, Nat.le_refl _, fun _ => rfl⟩
  · cases h1; exact ⟨_, _, rfl, hr, h3, by simp⟩
theorem own_at (a : Option Addr) (n cap : Nat) (l : List ByteArray) (w : World) (hr : Reads w a n l) (hn : n ≤ 1000000) :
    Calls Try.prog 38 #[.slice a n cap] w fun e w' => ∃ a' cap', e = .returned (.slice a' n cap') ∧ Reads w' a' n l ∧ n ≤ cap' ∧ (a' = none → cap' = 0) ∧ Below w.heap.size w w' := by
  refine (own_any a n cap l w hr hn).mono ?_
  rintro e w' ⟨v, he, ho, hb⟩
  obtain ⟨a', c', rfl, h1, h2, h3⟩ := own_parts ho
  exact ⟨a', c', he, h1, h2, h3, hb⟩
theorem keptT {w0 w w' : World} (h : Kept w0 w) (hb : Below w.heap.size w w') : Kept w0 w' := h.trans (hb.mono h.size)
theorem srtL_len (l : List ByteArray) : (srtL l).length ≤ l.length := by
  unfold srtL; split
  · simp
  · rw [srt_len]; exact Nat.le_refl _

set_option maxRecDepth 100000 in
set_option maxHeartbeats 4000000 in
theorem nameLists_walk (a : Option Addr) (n cap : Nat) (zs : List ByteArray) (s : ByteArray) (c : Bool) (w : World) (wz : IsStrs w a n cap zs) (hs : s.size ≤ maxLen) :
    Calls Try.prog 10 #[.slice a n cap, .string s, .bool c] w fun e w' => e = .returned (.bool true) ∧ Below w.heap.size w w' := by
  obtain ⟨hR, hsz, h1, h2, h3⟩ := strs_reads wz
  generalize zs.take n = l at hR hsz
  unfold maxLen at h2 hs
  replace hR := Lib.hid hR
  replace hsz := Lib.hid hsz
  replace h3 := Lib.hid h3
  have hk : Kept w w := Kept.refl w
  clear wz
  go_enter Try.func10, Try.ntmps10
  go_upto_region 1 with fail
  go_cut [44] (fun s44 wx => w = wx ∧ (s44 = .bool true ∨ (s44 = .bool false ∧ (n ≤ 30 ∨ (100 < n ∧ n ≤ 105)))))
  case first =>
    have hS := fun (h60 : n ≤ 105) => short_any a n cap l 60 w hR.out (by omega) (by omega) hsz.out
    replace hS := Lib.hid hS
    by_cases h30 : n ≤ 30
    · have d1 : decide (30 < n) = false := decide_eq_false (by omega)
      have d2 : decide (105 < n) = false := decide_eq_false (by omega)
      by_cases h60 : s.size ≤ 60
      · have d3 : decide (60 < s.size) = false := decide_eq_false (by omega)
        cases hb : shortB 60 l with
        | true =>
          go_wp2_with (go_at_call 33; refine (hS.out (by omega)).mono ?_; rintro e w' ⟨rfl, rfl⟩; rw [hb])
          go_meet
          exact ⟨rfl, .inr ⟨by first | rfl | (congr 1; simp; omega), .inl h30⟩⟩
        | false =>
          go_wp2_with (go_at_call 33; refine (hS.out (by omega)).mono ?_; rintro e w' ⟨rfl, rfl⟩; rw [hb])
          go_meet
          exact ⟨rfl, .inl rfl⟩
      · have d3 : decide (60 < s.size) = true := decide_eq_true (by omega)
        go_wp2_with fail
        go_meet
        exact ⟨rfl, .inl rfl⟩
    · have d1 : decide (30 < n) = true := decide_eq_true (by omega)
      by_cases h100 : n ≤ 100
      · have d2 : decide (n ≤ 100) = true := decide_eq_true h100
        go_wp2_with fail
        go_meet
        exact ⟨rfl, .inl rfl⟩
      · have d2 : decide (n ≤ 100) = false := decide_eq_false h100
        by_cases h105 : n ≤ 105
        · have d4 : decide (105 < n) = false := decide_eq_false (by omega)
          by_cases h60 : s.size ≤ 60
          · have d3 : decide (60 < s.size) = false := decide_eq_false (by omega)
            cases hb : shortB 60 l with
            | true =>
              go_wp2_with (go_at_call 33; refine (hS.out (by omega)).mono ?_; rintro e w' ⟨rfl, rfl⟩; rw [hb])
              go_meet
              exact ⟨rfl, .inr ⟨by first | rfl | (congr 1; simp; omega), .inr ⟨by omega, h105⟩⟩⟩
            | false =>
              go_wp2_with (go_at_call 33; refine (hS.out (by omega)).mono ?_; rintro e w' ⟨rfl, rfl⟩; rw [hb])
              go_meet
              exact ⟨rfl, .inl rfl⟩
          · have d3 : decide (60 < s.size) = true := decide_eq_true (by omega)
            go_wp2_with fail
            go_meet
            exact ⟨rfl, .inl rfl⟩
        · have d4 : decide (105 < n) = true := decide_eq_true (by omega)
          go_wp2_with fail
          go_meet
          exact ⟨rfl, .inl rfl⟩
  case rest =>
    obtain ⟨rfl, hcut⟩ := hcut
    rcases hcut with rfl | ⟨rfl, hn⟩
    · go_wp2_with fail
      refine (kept_of (awake03 _) hk).mono ?_
      rintro e w9 ⟨rfl, hk9⟩
      go_wp2_with fail
      go_ret
      exact ⟨rfl, hk9⟩
    · have hn2 : n ≤ 49 ∨ 100 < n ∧ n ≤ 1000000 := by omega
      have hn3 : n ≤ 1000000 := by omega
      have hlen := srtL_len l
      rw [← hR.out.1] at hlen
      go_wp2_with fail
      refine (own_at a n cap l w hR.out hn3).mono ?_
      rintro e w1 ⟨a1, c1, rfl, hR1, hc1, hz1, hB⟩
      replace hk := keptT hk hB
      replace hR := Lib.hid (reads_below hR.out hB)
      replace hR1 := Lib.hid hR1
      replace hz1 := Lib.hid hz1
      clear hB
      go_wp2_with fail
      refine (sorted_any a1 n c1 l w1 hR1.out hn2 hz1.out).mono ?_
      rintro e w2 ⟨a2, c2, rfl, hR2, hc2, hz2, hB⟩
      replace hk := keptT hk hB
      replace hR := Lib.hid (reads_below hR.out hB)
      replace hR1 := Lib.hid (reads_below hR1.out hB)
      replace hR2 := Lib.hid hR2
      clear hB hz2
      go_wp2_with fail
      refine (rsorted_any a n cap l w2 hR.out hn2 hsz.out).mono ?_
      rintro e w3 ⟨a3, c3, rfl, hR3, hc3, hz3, hB⟩
      replace hk := keptT hk hB
      replace hR := Lib.hid (reads_below hR.out hB)
      replace hR1 := Lib.hid (reads_below hR1.out hB)
      replace hR2 := Lib.hid (reads_below hR2.out hB)
      replace hR3 := Lib.hid hR3
      clear hB hz3
      generalize srtE l = E1
      generalize srtL l = L at hR2 hR3 hc2 hc3 hlen
      go_wp2_with fail
      refine (same_to (x := true) _ _ _ L _ _ _ L _ hR2.out hR3.out (by omega) (by omega) (decide_eq_true rfl)).mono ?_
      rintro e w4 ⟨rfl, hB⟩
      replace hk := keptT hk hB
      replace hR := Lib.hid (reads_below hR.out hB)
      replace hR1 := Lib.hid (reads_below hR1.out hB)
      clear hB hR2 hR3
      go_wp2_with fail
      refine (find_any _ _ _ l s _ hR1.out hn3).mono ?_
      rintro e w5 ⟨rfl, hB⟩
      replace hk := keptT hk hB
      replace hR := Lib.hid (reads_below hR.out hB)
      replace hR1 := Lib.hid (reads_below hR1.out hB)
      clear hB
      go_wp2_with fail
      refine (rfind_any _ _ _ l s _ hR.out hn3).mono ?_
      rintro e w6 ⟨rfl, rfl⟩
      generalize findN l s = F1
      generalize findE l s = F2
      go_wp2_with fail
      refine (twice_any _ _ _ l _ hR1.out hn3 hc1).mono ?_
      rintro e w7 ⟨rfl, rfl⟩
      go_wp2_with fail
      refine (rtwice_any _ _ _ l _ hR.out hn3).mono ?_
      rintro e w8 ⟨rfl, rfl⟩
      generalize twN l = T1
      generalize twB l = T2
      generalize twE l = T3
      go_wp2_with fail
      refine (fresh_any _ _ _ l c _ hR1.out hn3).mono ?_
      rintro e w9 ⟨rfl, rfl⟩
      go_wp2_with fail
      refine (rfresh_any _ _ _ l c _ hR.out hn3).mono ?_
      rintro e w10 ⟨rfl, q, rfl⟩
      generalize freshB l c = G1
      generalize freshE l = G2
      have hgg := eqT G1 G1 rfl
      have hB := below_drewN (Below.refl w5.heap.size w5) q
      replace hk := keptT hk hB
      replace hR := Lib.hid (reads_below hR.out hB)
      replace hR1 := Lib.hid (reads_below hR1.out hB)
      clear hB
      go_wp2_with fail
      refine (same_to (x := true) _ _ _ l _ _ _ l _ hR1.out hR.out hn3 hn3 (decide_eq_true rfl)).mono ?_
      rintro e w11 ⟨rfl, hB⟩
      replace hk := keptT hk hB
      clear hB
      go_wp2_with fail
      refine (kept_of (awake03 _) hk).mono ?_
      rintro e w12 ⟨rfl, hk9⟩
      go_wp2_with fail
      go_ret
      exact ⟨rfl, hk9⟩
end Go.Proofs.Ytgfnajpmaaomnaa
