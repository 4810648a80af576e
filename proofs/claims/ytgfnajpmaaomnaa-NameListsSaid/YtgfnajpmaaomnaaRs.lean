/- The reference's Sorted. -/
import Derived.Test.YtgfnajpmaaomnaaRf
namespace Go.Proofs.Ytgfnajpmaaomnaa
open Go.ChangeShapes Go.WideShapes Go.ChangeAt Go.RowKit
open Go.Sort
set_option linter.unusedVariables false

def Sm (d : Array ByteArray) : Prop := ∀ k, k < d.size → d[k]!.size ≤ maxLen
theorem Sm.swp {d : Array ByteArray} (h : Sm d) (i j : Nat) (hi : i < d.size) (hj : j < d.size) : Sm (swp d i j) := by
  intro k hk
  rw [swp_size] at hk
  rw [swp_get d hi hj]
  split
  · exact h i hi
  · split
    · exact h j hj
    · exact h k hk

/-- what the reference's two loops leave -/
theorem rs_done {w w' : World} {g cap n : Nat} {l : List ByteArray} (hn : n = l.length) (hn2 : n ≤ 49) (hc : n ≤ cap) (S : RowS w w' g (insertionSort ltB l.toArray 0 n)) :
    SortedP w l (.returned (.tuple #[.slice (some ⟨g, 0, none⟩) n cap, .int .i64 0])) w' := by
  have h := insertionSort_holds swoB l.toArray 0 n (by omega) (by simp [hn])
  exact sorted_done hn hn2 hc ⟨rfl, _, S, h.1, h.2⟩

set_option maxHeartbeats 2000000 in
theorem rsorted_any (a : Option Addr) (n cap : Nat) (l : List ByteArray) (w : World) (hr : Reads w a n l) (hn : n ≤ 49 ∨ 100 < n ∧ n ≤ 1000000) (hsz : ∀ x ∈ l, x.size ≤ maxLen) : Calls Try.prog 39 #[.slice a n cap] w (SortedP w l) := by
  have hl := hr.1
  by_cases h1 : 100 < n
  · have hP := Lib.hid (sorted_many (w := w) (l := l) (by omega))
    clear hl hr hsz
    go_enter Try.func39, Try.ntmps39
    go_wp2_with fail
    go_ret2
    exact hP.out
  · have hn49 : n ≤ 49 := by omega
    obtain ⟨i0, hi, hz0, hz1, hz2⟩ := info_parts Try.info9
    cases a with
    | none =>
      have h0 : n = 0 := by
        rcases hr.2 with h | ⟨b, off, h, _⟩
        · exact h
        · cases h
      have hl0 : l = [] := List.eq_nil_of_length_eq_zero (by omega)
      subst h0; subst hl0
      have hR := row_own (own_empty w) ((Below.refl _ _).alloc (Nat.le_refl _) _) rfl
      have hP := Lib.hid (sorted_done (n := 0) (l := []) (cap := 0) rfl (by omega) (Nat.le_refl _) ⟨rfl, _, hR.1, permIn_refl _ _ _, fun i j _ _ h => by omega⟩)
      clear hr hl hR hsz
      go_enter Try.func39, Try.ntmps39
      go_wp2_with fail
      go_loopg [5] 1 (fun k v5 wr => v5 = .int .i64 1 ∧ SortedP w [] (.returned (.tuple #[.slice (some ⟨w.heap.size, 0, none⟩) 0 0, .int .i64 0])) wr)
      case atStart => exact ⟨rfl, hP.out⟩
      case round =>
        obtain ⟨rfl, hP⟩ := hrel
        replace hP := Lib.hid hP
        go_wp2_with fail
        go_ret2
        exact hP.out
    | some ad =>
      have hR := Lib.hid (reads_news hr (.cells #[] 9))
      clear hr
      have hoe := own_empty w
      replace hl := Lib.hid hl
      replace hsz := Lib.hid hsz
      go_enter Try.func39, Try.ntmps39
      go_wp2_with (at_builtin; refine wpList_append_own _ rfl _ _ 37 rfl w.heap.size 9 i0 (.string ByteArray.empty) 1 16 Try.underlying37 hi hz0 hz1 hz2 rfl (by decide) _ _ _ rfl hoe ad n cap (l.map Value.string) rfl hR.out.1 ?c1 ?c2 ?c3 ?c4 ?c5 ?_)
      case c1 => exact hR.out.2
      case c2 => simp [Value.oneCell']
      case c3 => unfold maxLen; omega
      case c4 => omega
      case c5 => simp
      intro v' w' hown' hgrow hne
      have hk : Below w.heap.size w w' := Below.grown ((Below.refl _ _).alloc (Nat.le_refl _) _) hgrow (by simp) (own_block hoe)
      have hown2 : w'.ownsRow w.heap.size 9 1 v' n (l.map Value.string) := by simpa using hown'
      rcases hown2.2 with ⟨rfl, h0⟩ | ⟨g, c1, cur, rfl, _⟩
      · exact absurd hne (by simp)
      · have hRR := row_own (by rw [hl.out] at hown2; exact hown2) hk rfl
        have hS := Lib.hid hRR.1
        have hc2 : n ≤ c1 := by have := hl.out; have := hRR.2; omega
        have hdn : l.toArray.size = n := by simp [hl.out]
        have hsm : Sm l.toArray := by
          intro k hk
          have hk' : k < l.length := by simpa using hk
          have : l.toArray[k]! = l[k] := by simp [hk']
          rw [this]
          exact hsz.out _ (List.getElem_mem hk')
        have hfin := fun w9 (S : RowS w w9 g (insertionSort ltB l.toArray 0 n)) => rs_done (cap := c1) hl.out hn49 hc2 S
        replace hfin := Lib.hid hfin
        generalize l.toArray = d at hS hdn hsm hfin
        replace hdn := Lib.hid hdn
        replace hsm := Lib.hid hsm
        clear hown' hown2 hgrow hne hoe hk hRR hsz hl hR
        have zn : (n : Int) ≤ 49 := by omega
        go_wp2_with fail
        go_loopg [5] n (fun g1 vi wr => ∃ (i : Nat) (dk : Array ByteArray), vi = .int .i64 i ∧ 0 < i ∧ i ≤ n + 1 ∧ n + 1 - i ≤ g1 + 1 ∧ dk.size = n ∧ Sm dk ∧ RowS w wr g dk ∧ insOuter ltB 0 n i dk = insOuter ltB 0 n (0 + 1) d)
        case atStart => exact ⟨1, d, rfl, by omega, by omega, by omega, hdn.out, hsm.out, hS.out, rfl⟩
        case round =>
          obtain ⟨i, dk, rfl, hai, hib, hg1, hsk, hmk, S1, HO⟩ := hrel
          replace S1 := Lib.hid S1
          replace HO := Lib.hid HO
          replace hmk := Lib.hid hmk
          replace hsk := Lib.hid hsk
          have zi0 : (0 : Int) ≤ i := by omega
          by_cases hlt : i < n
          · have hltz : (i : Int) < (n : Int) := by omega
            have hltd : decide (i < n) = true := decide_eq_true hlt
            go_wp2_with fail
            go_loopg [6] i (fun g2 vj wr2 => ∃ (j : Nat) (dj : Array ByteArray), vj = .int .i64 j ∧ j ≤ i ∧ j ≤ g2 ∧ dj.size = n ∧ Sm dj ∧ RowS w wr2 g dj ∧ insInner ltB 0 j dj = insInner ltB 0 i dk)
            case atStart => exact ⟨i, dk, rfl, Nat.le_refl _, Nat.le_refl _, hsk.out, hmk.out, S1.out, rfl⟩
            case round =>
              obtain ⟨j, dj, rfl, hji, hg2, hsj, hmj, SJ, HI⟩ := hrel
              replace SJ := Lib.hid SJ
              replace HI := Lib.hid HI
              replace hmj := Lib.hid hmj
              replace hsj := Lib.hid hsj
              by_cases hja : 0 < j
              · obtain ⟨jp, rfl⟩ : ∃ q, j = q + 1 := ⟨j - 1, by omega⟩
                have c1 := cell_kept (SJ.out.cell (jp + 1) (by have := hsj.out; omega))
                have c2 := cell_kept (SJ.out.cell jp (by have := hsj.out; omega))
                have hxs := hmj.out (jp + 1) (by have := hsj.out; omega)
                have hys := hmj.out jp (by have := hsj.out; omega)
                generalize hx : dj[jp + 1]! = x at c1 hxs
                generalize hy : dj[jp]! = y at c2 hys
                replace hx := Lib.hid hx
                replace hy := Lib.hid hy
                replace hxs := Lib.hid hxs
                replace hys := Lib.hid hys
                have hz : decide (0 < jp + 1) = true := decide_eq_true hja
                have zI : ((jp + 1 : Nat) : Int) - 1 = (jp : Int) := by omega
                have z2 : (0 : Int) ≤ jp := by omega
                have z3 : ((jp + 1 : Nat) : Int) < n := by omega
                have z5 : (jp : Int) < n := by omega
                replace hja := Lib.hid hja
                go_wp2_with fail
                refine wp_region_kept (by kernel_rfl) (by kernel_rfl) ?_
                repeat (go_big_quiet_step ((go_at_call 29; exact Calls.kept_draw (rcompare_any _ _ _ hxs.out hys.out))))
                refine wpQuiet_nil ?_
                rintro _ ⟨p, rfl⟩
                have S2 := Lib.hid (SJ.out.below p.kept)
                generalize p.world = w2 at S2
                clear c1 c2 SJ
                cases hlv : ltB x y with
                | true =>
                  have hv : cmpB x y < 0 := of_decide_eq_true hlv
                  obtain ⟨d1, d2, f1, f2, u, d3⟩ := S2.out.two (jp + 1) jp (by have := hsj.out; omega) (by have := hsj.out; omega)
                  have S3 := S2.out.swp (jp + 1) jp
                  rw [hx.out, hy.out] at S3
                  rw [hy.out] at d3
                  rw [hx.out] at d1
                  rw [hy.out] at d2
                  replace S3 := Lib.hid S3
                  go_wp2_with fail
                  go_region
                  generalize ((w2.setCell ⟨g, jp + 1, none⟩ (.string y)).setCell ⟨g, jp, none⟩ (.string x)).drew = w3 at S3
                  clear d1 d2 d3 f1 f2 S2
                  have H3 := Lib.hid (show insInner ltB 0 jp (swp dj (jp + 1) jp) = insInner ltB 0 i dk by rw [← HI.out, insInner_go (lt := ltB) 0 (jp + 1) dj hja.out (by simp only [Nat.add_sub_cancel]; rw [hx.out, hy.out]; exact hlv)]; rfl)
                  have M3 := Lib.hid (hmj.out.swp (jp + 1) jp (by have := hsj.out; omega) (by have := hsj.out; omega))
                  go_wp2_with fail
                  go_roundg jp
                  case measure => omega
                  case rel => exact ⟨jp, swp dj (jp + 1) jp, by first | rfl | go_num, by omega, Nat.le_refl _, by rw [swp_size]; exact hsj.out, M3.out, S3.out, H3.out⟩
                | false =>
                  have hv : ¬ cmpB x y < 0 := of_decide_eq_false hlv
                  have HO2 := Lib.hid (show insOuter ltB 0 n (i + 1) dj = insOuter ltB 0 n (0 + 1) d by
                    rw [← HO.out, insOuter_go (lt := ltB) _ _ _ _ hlt, ← HI.out, insInner_stop (lt := ltB) _ _ _ (.inr (by
                      simp only [Nat.add_sub_cancel]; rw [hx.out, hy.out]; exact hlv))])
                  go_wp2_with fail
                  go_roundg (n - (i + 1))
                  case measure => omega
                  case rel => exact ⟨i + 1, dj, by go_num, by omega, by omega, by omega, hsj.out, hmj.out, S2.out, HO2.out⟩
              · have hjaz : decide (0 < j) = false := decide_eq_false hja
                have HO2 := Lib.hid (show insOuter ltB 0 n (i + 1) dj = insOuter ltB 0 n (0 + 1) d by
                  rw [← HO.out, insOuter_go (lt := ltB) _ _ _ _ hlt, ← HI.out, insInner_stop (lt := ltB) _ _ _ (.inl (by omega))])
                replace hja := Lib.hid hja
                go_wp2_with fail
                go_quiet (fail)
                have S2 := Lib.hid (SJ.out.drewN nq)
                clear SJ
                go_wp2_with fail
                go_roundg (n - (i + 1))
                case measure => omega
                case rel => exact ⟨i + 1, dj, by go_num, by omega, by omega, by omega, hsj.out, hmj.out, S2.out, HO2.out⟩
          · have hps : ¬ i < n := hlt
            have hpd : decide (i < n) = false := decide_eq_false hlt
            have hP := Lib.hid (hfin.out _ (show RowS w _ g (insertionSort ltB d 0 n) by
              have e : insertionSort ltB d 0 n = dk := by
                show insOuter ltB 0 n (0 + 1) d = dk
                rw [← HO.out, insOuter_stop (lt := ltB) _ _ _ _ hlt]
              rw [e]; exact S1.out))
            go_wp2_with fail
            go_ret2
            exact hP.out
end Go.Proofs.Ytgfnajpmaaomnaa
