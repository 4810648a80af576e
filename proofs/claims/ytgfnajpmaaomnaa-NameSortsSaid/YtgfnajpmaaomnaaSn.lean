/- NameSorts: the walk. -/
import Derived.Test.YtgfnajpmaaomnaaSm
namespace Go.Proofs.Ytgfnajpmaaomnaa
open Go.ChangeShapes Go.WideShapes Go.ChangeAt Go.RowKit
set_option linter.unusedVariables false

set_option maxRecDepth 100000 in
set_option maxHeartbeats 4000000 in
theorem sorts_core (a : Option Addr) (n cap : Nat) (l : List ByteArray) (w : World) (hr : Reads w a n l) (hsz : ∀ x ∈ l, x.size ≤ maxLen) (hn20 : n ≤ 20) (hcap : n ≤ cap) (hc0 : a = none → cap = 0) (hsh : shortB 20 l = true) :
    Calls Try.prog 9 #[.slice a n cap] w fun e w' => e = .returned (.bool true) ∧ Below w.heap.size w w' := by
  have hl := Lib.hid hr.1
  have hR := Lib.hid hr
  replace hsz := Lib.hid hsz
  replace hsh := Lib.hid hsh
  replace hc0 := Lib.hid hc0
  clear hr
  have hk : Kept w w := Kept.refl w
  have hd20 : decide (20 < n) = false := decide_eq_false (by omega)
  go_enter Try.func9, Try.ntmps9
  go_wp2_with (go_at_call 33; refine (short_to _ _ _ l 20 _ hR.out (by omega) (by omega) hsz.out hsh.out).mono ?_; rintro e w' ⟨rfl, rfl⟩)
  refine (sorted_few a n cap l w hR.out (by omega) hc0.out).mono ?_
  rintro e w1 ⟨a1, c1, rfl, hR1, hn1, hz1, hB1⟩
  replace hR1 := Lib.hid hR1
  replace hz1 := Lib.hid hz1
  replace hB1 := Lib.hid hB1
  go_wp2_with fail
  refine (sorted_few a1 n c1 (srt l) w1 hR1.out (by omega) hz1.out).mono ?_
  rintro e w2 ⟨a2, c2, rfl, hR2, hn2, hz2, hB2⟩
  rw [srt_idem] at hR2
  replace hR2 := Lib.hid hR2
  replace hB2 := Lib.hid hB2
  have hRl := Lib.hid (reads_below (reads_below hR.out hB1.out) hB2.out)
  have hRx := Lib.hid (reads_below hR1.out hB2.out)
  have hk2 := Lib.hid (show Kept w w2 from hB1.out.trans (hB2.out.mono hB1.out.size))
  generalize hD : dif l n = D
  have hT : twB l = !D := by rw [tw_dif l (by have := hl.out; omega), ← hl.out, hD]
  replace hT := Lib.hid hT
  replace hD := Lib.hid hD
  clear hR1 hB1 hB2 hz1 hz2 hsz
  go_wp2_with fail
  refine (tw_to a n cap l w2 hRl.out (by omega) hcap hT.out).mono ?_
  rintro e w' ⟨rfl, rfl⟩
  generalize twN l = tn
  have hsame : sameL (srt l) (srt l) = true := by simp [sameL]
  replace hsame := Lib.hid hsame
  go_wp2_with (go_at_call 36; refine (same_to _ _ _ (srt l) _ _ _ (srt l) w2 hRx.out hR2.out (by omega) (by omega) hsame.out).mono ?_; rintro e w3 ⟨rfl, hB3⟩)
  have hk3 := Lib.hid (show Kept w w3 from hk2.out.trans (hB3.mono hk2.out.size))
  have hR3 := Lib.hid (reads_below hRl.out hB3)
  have hX3 := Lib.hid (reads_below hRx.out hB3)
  clear hB3 hk2 hRl hRx hR2 hsame hR hsh hc0
  go_loopg [10, 11] n (fun k v10 v11 wr => ∃ i : Nat, v11 = .int .i64 i ∧ v10 = .bool (dif l i) ∧ i + k = n ∧ Kept w wr ∧ Reads wr a n l ∧ Reads wr a1 n (srt l))
  case atStart => exact ⟨0, rfl, rfl, by omega, hk3.out, hR3.out, hX3.out⟩
  case round =>
    clear hk3 hR3 hX3
    obtain ⟨i, rfl, rfl, hk, hkr, hR4, hX4⟩ := hrel
    replace hkr := Lib.hid hkr
    replace hR4 := Lib.hid hR4
    replace hX4 := Lib.hid hX4
    by_cases hp : i < n
    · have hil : i < l.length := by have := hl.out; omega
      have hxl : i < (srt l).length := by rw [srt_len]; exact hil
      rcases hR4.out.2 with hz | ⟨b, off, hab, hst⟩
      · omega
      rcases hX4.out.2 with hz | ⟨b2, off2, hab2, hst2⟩
      · omega
      subst hab
      subst hab2
      have c1 := cell_kept (hst i hil)
      have c2 := cell_kept (hst2 i hxl)
      have hdif : dif l (i + 1) = (dif l i && decide (cntL (l.getD i ByteArray.empty) l = 1)) := rfl
      have hcnt := srt_cnt (l.getD i ByteArray.empty) l
      have hle := srt_le l (i - 1)
      generalize hE1 : l.getD i ByteArray.empty = x at c1 hdif hcnt
      generalize hc : cntL x l = c at hdif hcnt
      replace hc := Lib.hid (show (cntL x l : Int) = (c : Int) by rw [hc])
      replace hcnt := Lib.hid (show (cntL x (srt l) : Int) = (c : Int) by rw [hcnt])
      clear hE1
      have hpz : 0 ≤ (i : Int) := by omega
      have hpl : (i : Int) < n := by omega
      have hpd : decide (i < n) = true := decide_eq_true hp
      have rk : ∀ p : KeptBy wr, Reads p.world (some ⟨b, off, none⟩) n l := fun p => reads_below hR4.out p.kept
      have rx : ∀ p : KeptBy wr, Reads p.world (some ⟨b2, off2, none⟩) n (srt l) := fun p => reads_below hX4.out p.kept
      replace rk := Lib.hid rk
      replace rx := Lib.hid rx
      replace hdif := Lib.hid hdif
      generalize hY : (srt l).getD i ByteArray.empty = y at c2
      by_cases hi0 : 0 < i
      · obtain ⟨ip, rfl⟩ : ∃ q, i = q + 1 := ⟨i - 1, by omega⟩
        have hd0 : decide (0 < ip + 1) = true := decide_eq_true hi0
        have hle2 := hle (by omega)
        rw [show ip + 1 - 1 = ip from rfl, hY] at hle2
        have zI : ((ip + 1 : Nat) : Int) - 1 = (ip : Int) := by omega
        have zip0 : (0 : Int) ≤ ip := by omega
        have zip1 : (ip : Int) < n := by omega
        have c0 := cell_kept (hst2 ip (by omega))
        generalize (srt l).getD ip ByteArray.empty = z at c0 hle2
        obtain ⟨V, hV⟩ : ∃ V, cmpB z y = V := ⟨_, rfl⟩
        rw [hV] at hle2
        replace hV := Lib.hid hV
        have hVd : decide (0 < V) = false := decide_eq_false (by omega)
        clear hle hle2 hY
        replace hi0 := Lib.hid hi0
        go_wp2_with fail
        refine wp_region_kept (by kernel_rfl) (by kernel_rfl) ?_
        repeat (go_big_quiet_step (first
          | (go_at_call 37; exact Calls.kept_same (count_to _ _ _ l x _ (rk.out _) (by omega) hc.out))
          | (go_at_call 37; exact Calls.kept_same (count_to _ _ _ (srt l) x _ (rx.out _) (by omega) hcnt.out))
          | (go_at_call 22; exact Calls.kept_same (ncompare_to _ _ V hV.out _))))
        refine wpQuiet_nil ?_
        rintro _ ⟨p, rfl⟩
        replace hkr := Lib.hid (hkr.out.trans (p.kept.mono hkr.out.size))
        replace hR4 := Lib.hid (reads_below hR4.out p.kept)
        replace hX4 := Lib.hid (reads_below hX4.out p.kept)
        have c3 := c1 p
        generalize p.world = w4 at hkr hR4 hX4 c3
        clear c0 c1 c2 rk rx
        cases hdi : dif l (ip + 1) with
        | false =>
          have hn : dif l (ip + 1 + 1) = false := by rw [hdif.out, hdi]; rfl
          replace hn := Lib.hid hn
          replace hdi := Lib.hid hdi
          go_wp2_with fail
          go_roundg (n - (ip + 1 + 1))
          case measure => omega
          case rel => exact ⟨ip + 1 + 1, by go_num, by rw [hn.out], by omega, hkr.out, hR4.out, hX4.out⟩
        | true =>
          by_cases hc1 : c = 1
          · have hn : dif l (ip + 1 + 1) = true := by rw [hdif.out, hdi, decide_eq_true hc1]; rfl
            replace hn := Lib.hid hn
            replace hdi := Lib.hid hdi
            have hcb : ((c : Int) == 1) = true := by simp [hc1]
            clear hc1
            go_wp2_with (go_at_call 37; refine (count_to _ _ _ l x _ hR4.out (by omega) hc.out).mono ?_; rintro e w5 ⟨rfl, rfl⟩)
            go_roundg (n - (ip + 1 + 1))
            case measure => omega
            case rel => exact ⟨ip + 1 + 1, by go_num, by rw [hn.out], by omega, hkr.out, hR4.out, hX4.out⟩
          · have hn : dif l (ip + 1 + 1) = false := by rw [hdif.out, hdi, decide_eq_false hc1]; rfl
            replace hn := Lib.hid hn
            replace hdi := Lib.hid hdi
            have hcb : ((c : Int) == 1) = false := by simp; omega
            clear hc1
            go_wp2_with (go_at_call 37; refine (count_to _ _ _ l x _ hR4.out (by omega) hc.out).mono ?_; rintro e w5 ⟨rfl, rfl⟩)
            go_roundg (n - (ip + 1 + 1))
            case measure => omega
            case rel => exact ⟨ip + 1 + 1, by go_num, by rw [hn.out], by omega, hkr.out, hR4.out, hX4.out⟩
      · have hd0 : decide (0 < i) = false := decide_eq_false hi0
        obtain ⟨V, hV⟩ : ∃ V, cmpB x y = V := ⟨_, rfl⟩
        replace hV := Lib.hid hV
        clear hle hY
        replace hi0 := Lib.hid hi0
        go_wp2_with fail
        refine wp_region_kept (by kernel_rfl) (by kernel_rfl) ?_
        repeat (go_big_quiet_step (first
          | (go_at_call 37; exact Calls.kept_same (count_to _ _ _ l x _ (rk.out _) (by omega) hc.out))
          | (go_at_call 37; exact Calls.kept_same (count_to _ _ _ (srt l) x _ (rx.out _) (by omega) hcnt.out))
          | (go_at_call 22; exact Calls.kept_same (ncompare_to _ _ V hV.out _))))
        refine wpQuiet_nil ?_
        rintro _ ⟨p, rfl⟩
        replace hkr := Lib.hid (hkr.out.trans (p.kept.mono hkr.out.size))
        replace hR4 := Lib.hid (reads_below hR4.out p.kept)
        replace hX4 := Lib.hid (reads_below hX4.out p.kept)
        have c3 := c1 p
        generalize p.world = w4 at hkr hR4 hX4 c3
        clear c1 c2 rk rx
        cases hdi : dif l i with
        | false =>
          have hn : dif l (i + 1) = false := by rw [hdif.out, hdi]; rfl
          replace hn := Lib.hid hn
          replace hdi := Lib.hid hdi
          go_wp2_with fail
          go_roundg (n - (i + 1))
          case measure => omega
          case rel => exact ⟨i + 1, by go_num, by rw [hn.out], by omega, hkr.out, hR4.out, hX4.out⟩
        | true =>
          by_cases hc1 : c = 1
          · have hn : dif l (i + 1) = true := by rw [hdif.out, hdi, decide_eq_true hc1]; rfl
            replace hn := Lib.hid hn
            replace hdi := Lib.hid hdi
            have hcb : ((c : Int) == 1) = true := by simp [hc1]
            clear hc1
            go_wp2_with (go_at_call 37; refine (count_to _ _ _ l x _ hR4.out (by omega) hc.out).mono ?_; rintro e w5 ⟨rfl, rfl⟩)
            go_roundg (n - (i + 1))
            case measure => omega
            case rel => exact ⟨i + 1, by go_num, by rw [hn.out], by omega, hkr.out, hR4.out, hX4.out⟩
          · have hn : dif l (i + 1) = false := by rw [hdif.out, hdi, decide_eq_false hc1]; rfl
            replace hn := Lib.hid hn
            replace hdi := Lib.hid hdi
            have hcb : ((c : Int) == 1) = false := by simp; omega
            clear hc1
            go_wp2_with (go_at_call 37; refine (count_to _ _ _ l x _ hR4.out (by omega) hc.out).mono ?_; rintro e w5 ⟨rfl, rfl⟩)
            go_roundg (n - (i + 1))
            case measure => omega
            case rel => exact ⟨i + 1, by go_num, by rw [hn.out], by omega, hkr.out, hR4.out, hX4.out⟩
    · have hin : i = n := by omega
      subst hin
      have hps : ¬ i < i := hp
      rw [hD.out]
      clear hT hD
      cases D with
      | true =>
        go_wp2_with (go_at_call 17; refine (kept_of (awake03 _) hkr.out).mono ?_; rintro e w5 ⟨rfl, hk5⟩)
        go_ret
        exact ⟨rfl, hk5⟩
      | false =>
        go_wp2_with (go_at_call 17; refine (kept_of (awake03 _) hkr.out).mono ?_; rintro e w5 ⟨rfl, hk5⟩)
        go_ret
        exact ⟨rfl, hk5⟩

set_option maxRecDepth 100000 in
set_option maxHeartbeats 1000000 in
theorem nameSorts_walk (a : Option Addr) (n cap : Nat) (zs : List ByteArray) (w : World) (wz : IsStrs w a n cap zs) :
    Calls Try.prog 9 #[.slice a n cap] w fun e w' => e = .returned (.bool true) ∧ Below w.heap.size w w' := by
  obtain ⟨hR, hsz, h1, h2, h3⟩ := strs_reads wz
  generalize zs.take n = l at hR hsz
  by_cases hn : n ≤ 20
  · cases hs : shortB 20 l with
    | true => exact sorts_core a n cap l w hR hsz hn h1 h3 hs
    | false =>
      have hk : Kept w w := Kept.refl w
      have hd20 : decide (20 < n) = false := decide_eq_false (by omega)
      replace hR := Lib.hid hR
      replace hsz := Lib.hid hsz
      replace hs := Lib.hid hs
      clear h3
      go_enter Try.func9, Try.ntmps9
      go_wp2_with (first
        | (go_at_call 33; refine (short_to _ _ _ l 20 _ hR.out (by omega) (by omega) hsz.out hs.out).mono ?_; rintro e w' ⟨rfl, rfl⟩)
        | (go_at_call 17; refine (kept_of (awake03 _) hk).mono ?_; rintro e w5 ⟨rfl, hk5⟩))
      go_ret
      exact ⟨rfl, hk5⟩
  · have hk : Kept w w := Kept.refl w
    unfold maxLen at h2
    have hd20 : decide (20 < n) = true := decide_eq_true (by omega)
    clear h3 hR hsz
    go_enter Try.func9, Try.ntmps9
    go_wp2_with (go_at_call 17; refine (kept_of (awake03 _) hk).mono ?_; rintro e w5 ⟨rfl, hk5⟩)
    go_ret
    exact ⟨rfl, hk5⟩
end Go.Proofs.Ytgfnajpmaaomnaa
