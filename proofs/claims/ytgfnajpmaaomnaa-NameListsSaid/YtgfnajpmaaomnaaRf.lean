/- The reference's Find, Twice and Fresh. -/
import Derived.Test.YtgfnajpmaaomnaaSm
namespace Go.Proofs.Ytgfnajpmaaomnaa
open Go.ChangeShapes Go.WideShapes Go.ChangeAt Go.RowKit
set_option linter.unusedVariables false

theorem ret_two {a b a' b' : Int} (h : a = a') (h' : b = b') : Ending.returned (.tuple #[.int .i64 a, .int .i64 b]) = .returned (.tuple #[.int .i64 a', .int .i64 b']) := by rw [h, h']

theorem rfind_any (a : Option Addr) (n cap : Nat) (l : List ByteArray) (s : ByteArray) (w : World) (hr : Reads w a n l) (hn : n ≤ 1000000) :
    Calls Try.prog 40 #[.slice a n cap, .string s] w fun e w' => e = .returned (.tuple #[.int .i64 (findN l s), .int .i64 (findE l s)]) ∧ w = w' := by
  obtain ⟨rfl, hc⟩ := hr
  have hc := Lib.hid hc
  by_cases h : 100 < l.length
  · have e1 : findN l s = 0 := by unfold findN; rw [if_pos h]
    have e2 : findE l s = 6 := by unfold findE; rw [if_pos h]
    rw [e1, e2]
    clear e1 e2
    go_enter Try.func40, Try.ntmps40
    go_wp2_with fail
    go_ret2
    exact ⟨rfl, rfl⟩
  · have e1 : findN l s = if idxF s l 0 < 0 then 0 else idxF s l 0 := by unfold findN; rw [if_neg h]
    have e2 : findE l s = if idxF s l 0 < 0 then 7 else 0 := by unfold findE; rw [if_neg h]
    rw [e1, e2]
    clear e1 e2
    generalize hT : idxF s l 0 = T
    replace hT := Lib.hid hT
    go_enter Try.func40, Try.ntmps40
    go_wp2_with fail
    go_loopg [6] l.length (fun k i wr => ∃ pos : Nat, wr = w ∧ i = .int .i64 pos ∧ pos + k = l.length ∧ idxF s (l.drop pos) pos = T)
    case atStart => exact ⟨0, rfl, rfl, by omega, hT.out⟩
    case round =>
      obtain ⟨pos, rfl, rfl, hk, hg⟩ := hrel
      by_cases hp : pos < l.length
      · rcases hc.out with hz | ⟨b, off, rfl, hst⟩
        · omega
        · have hcell := hst pos (by omega)
          have hd := drop_cons l pos (by omega)
          generalize l.getD pos ByteArray.empty = x at hcell hd
          rw [hd] at hg
          have hpz : 0 ≤ (pos : Int) := by omega
          by_cases hx : x = s
          · have hxb := eqT x s hx
            have hG : T = pos := hg.symm.trans (by simp [idxF, hx])
            subst hG
            clear hg hd hc hx hst
            go_wp2_with fail
            go_ret2
            exact ⟨rfl, rfl⟩
          · have hxb := eqF x s hx
            have hx2 : ¬ s = x := fun e => hx e.symm
            have hG := Lib.hid ((show idxF s (x :: List.drop (pos + 1) l) pos = idxF s (List.drop (pos + 1) l) (pos + 1) by simp [idxF, hx2]).symm.trans hg)
            clear hg hd hc hx hx2 hst
            go_wp2_with fail
            go_roundg (l.length - (pos + 1))
            case measure => omega
            case rel => exact ⟨pos + 1, rfl, by go_num, by omega, hG.out⟩
      · have hps : ¬ pos < l.length := hp
        rw [List.drop_of_length_le (by omega)] at hg
        have hG : T = -1 := hg.symm
        subst hG
        clear hg hc
        go_wp2_with fail
        go_ret2
        exact ⟨rfl, rfl⟩

theorem idx_split (s : ByteArray) : ∀ (p q : List ByteArray) (k : Nat), idxF s (p ++ q) k = if hasB s p = true then idxF s p k else idxF s q (k + p.length)
  | [], q, k => by simp [hasB]
  | x :: p, q, k => by
    by_cases h : s = x
    · simp [idxF, hasB, h]
    · have h2 : hasB s (x :: p) = hasB s p := by simp [hasB, h]
      rw [h2, List.cons_append]
      show (if s = x then (k : Int) else idxF s (p ++ q) (k + 1)) = _
      rw [if_neg h, idx_split s p q (k + 1)]
      by_cases h3 : hasB s p = true
      · rw [if_pos h3, if_pos h3]; show _ = (if s = x then (k : Int) else idxF s p (k + 1)); rw [if_neg h]
      · rw [if_neg h3, if_neg h3, List.length_cons, show k + 1 + p.length = k + (p.length + 1) by omega]

theorem idx_here (l : List ByteArray) (i : Nat) (hi : i < l.length) : ∃ k : Nat, idxF (l.getD i ByteArray.empty) l 0 = k ∧ (hasB (l.getD i ByteArray.empty) (l.take i) = true → k < i) ∧ (hasB (l.getD i ByteArray.empty) (l.take i) = false → k = i) := by
  have hl : l = l.take i ++ l.drop i := (List.take_append_drop i l).symm
  have hlen : (l.take i).length = i := by rw [List.length_take]; omega
  have e : idxF (l.getD i ByteArray.empty) l 0 = if hasB (l.getD i ByteArray.empty) (l.take i) = true then idxF (l.getD i ByteArray.empty) (l.take i) 0 else idxF (l.getD i ByteArray.empty) (l.drop i) (0 + (l.take i).length) := by
    rw [← idx_split, ← hl]
  rw [e]
  cases hb : hasB (l.getD i ByteArray.empty) (l.take i) with
  | true =>
    rcases idxF_ge (l.getD i ByteArray.empty) (l.take i) 0 with ⟨_, h2⟩ | ⟨h1, h2, _⟩
    · rw [h2] at hb; cases hb
    · refine ⟨(idxF (l.getD i ByteArray.empty) (l.take i) 0).toNat, by rw [if_pos rfl]; omega, fun _ => by omega, fun h => by cases h⟩
  | false =>
    refine ⟨i, ?_, fun h => (by cases h), fun _ => rfl⟩
    rw [if_neg (by simp), drop_cons l i hi, hlen]
    simp [idxF]

set_option maxHeartbeats 1000000 in
theorem rtwice_any (a : Option Addr) (n cap : Nat) (l : List ByteArray) (w : World) (hr : Reads w a n l) (hn : n ≤ 1000000) :
    Calls Try.prog 41 #[.slice a n cap] w fun e w' => e = .returned (.tuple #[.int .i64 (twN l), .bool (twB l), .int .i64 (twE l)]) ∧ w = w' := by
  have hl := hr.1
  have hc := Lib.hid hr.2
  have hR := Lib.hid hr
  clear hr
  by_cases h : 100 < n
  · have e1 : twN l = 0 := by unfold twN; rw [if_pos (by omega)]
    have e2 : twB l = false := by unfold twB; rw [if_pos (by omega)]
    have e3 : twE l = 6 := by unfold twE; rw [if_pos (by omega)]
    rw [e1, e2, e3]
    clear e1 e2 e3 hl
    go_enter Try.func41, Try.ntmps41
    go_wp2_with fail
    go_ret3
    exact ⟨rfl, rfl⟩
  · have e1 : twN l = match twL [] l with | some i => (i : Int) | none => 0 := by unfold twN; rw [if_neg (by omega)]; rfl
    have e2 : twB l = (twL [] l).isSome := by unfold twB; rw [if_neg (by omega)]
    have e3 : twE l = 0 := by unfold twE; rw [if_neg (by omega)]
    rw [e1, e2, e3]
    clear e1 e2 e3
    generalize hT : twL [] l = T
    replace hT := Lib.hid hT
    subst hl
    go_enter Try.func41, Try.ntmps41
    go_wp2_with fail
    go_loopg [5] l.length (fun k i wr => ∃ pos : Nat, wr = w ∧ i = .int .i64 pos ∧ pos + k = l.length ∧ twL (l.take pos) (l.drop pos) = T)
    case atStart => exact ⟨0, rfl, rfl, by omega, hT.out⟩
    case round =>
      obtain ⟨pos, rfl, rfl, hk, hg⟩ := hrel
      replace hg := Lib.hid hg
      by_cases hp : pos < l.length
      · rcases hc.out with hz | ⟨b, off, rfl, hst⟩
        · omega
        · have hcell := hst pos hp
          have hd := drop_cons l pos hp
          have htk := take_drop_snoc l pos hp
          obtain ⟨q, hq, hq1, hq2⟩ := idx_here l pos hp
          generalize l.getD pos ByteArray.empty = x at hcell hd htk hq hq1 hq2
          have hF : findN l x = (q : Int) := by unfold findN; rw [if_neg h, hq, if_neg (by omega)]
          replace hF := Lib.hid hF
          have hg2 := hg.out
          rw [hd] at hg2
          have hpz : 0 ≤ (pos : Int) := by omega
          have hlen : (l.take pos).length = pos := by rw [List.length_take]; omega
          cases hB : hasB x (l.take pos)
          · have hS := Lib.hid (show twL (l.take (pos + 1)) (l.drop (pos + 1)) = T by rw [htk, ← hg2]; simp [twL, hB])
            have hqp := hq2 hB
            subst hqp
            clear hg2 hd htk hst hlen hq hq1 hq2 hB
            go_wp2_with fail
            refine (rfind_any _ _ _ _ _ _ hR.out (by omega)).mono ?_
            rintro e w' ⟨rfl, rfl⟩
            rw [hF.out]
            go_wp2_with fail
            go_roundg (l.length - (q + 1))
            case measure => omega
            case rel => exact ⟨q + 1, rfl, by go_num, by omega, hS.out⟩
          · have hS : T = some pos := by rw [← hg2]; simp only [twL, hB, if_true, hlen]
            have hqp := hq1 hB
            subst hS
            have hqz : (q : Int) < pos := by omega
            clear hg2 hd htk hst hlen hq hq1 hq2 hB
            go_wp2_with fail
            refine (rfind_any _ _ _ _ _ _ hR.out (by omega)).mono ?_
            rintro e w' ⟨rfl, rfl⟩
            rw [hF.out]
            go_wp2_with fail
            go_ret3
            exact ⟨rfl, rfl⟩
      · have hg2 := hg.out
        rw [List.drop_of_length_le (by omega)] at hg2
        have hS : T = none := hg2.symm
        subst hS
        have hps : ¬ pos < l.length := hp
        clear hg2
        go_wp2_with fail
        go_ret3
        exact ⟨rfl, rfl⟩

theorem findE_has (l : List ByteArray) (s : ByteArray) (h : l.length ≤ 100) : findE l s = if hasB s l = true then 0 else 7 := by
  unfold findE
  rw [if_neg (by omega)]
  rcases idxF_ge s l 0 with ⟨h1, h2⟩ | ⟨h1, h2, h3⟩
  · rw [h1, h2]; rfl
  · rw [if_neg (by omega), h3]; rfl

set_option maxHeartbeats 1000000 in
theorem rfresh_any (a : Option Addr) (n cap : Nat) (l : List ByteArray) (c : Bool) (w : World) (hr : Reads w a n l) (hn : n ≤ 1000000) :
    Calls Try.prog 42 #[.slice a n cap, .bool c] w fun e w' => e = .returned (.tuple #[.string (freshB l c), .int .i64 (freshE l)]) ∧ ∃ k, w' = w.drewN k := by
  have hl := hr.1
  have hR := Lib.hid hr
  clear hr
  by_cases h : 100 < n
  · have e1 : freshB l c = ByteArray.empty := by unfold freshB; rw [if_pos (by omega)]
    have e2 : freshE l = 6 := by unfold freshE; rw [if_pos (by omega)]
    rw [e1, e2]
    clear e1 e2 hl
    go_enter Try.func42, Try.ntmps42
    go_wp2_with fail
    go_ret2
    exact ⟨rfl, 0, rfl⟩
  · obtain ⟨f1, f2, f3⟩ := fresh_spec l c (by omega)
    have e1 : freshB l c = mkB (freshN l c) c := by unfold freshB; rw [if_neg (by omega)]
    have e2 : freshE l = 0 := by unfold freshE; rw [if_neg (by omega)]
    rw [e1, e2]
    have hE := fun s => findE_has l s (by omega)
    clear e1 e2 hl
    have f2 := Lib.hid f2
    have f3 := Lib.hid f3
    have hE := Lib.hid hE
    generalize freshN l c = N at *
    go_enter Try.func42, Try.ntmps42
    go_wp2_with fail
    go_loopg [6] (N + 1) (fun k i wr => ∃ pos q : Nat, wr = w.drewN q ∧ i = .int .i64 pos ∧ pos + k = N + 1 ∧ pos ≤ N)
    case atStart => exact ⟨0, 0, rfl, rfl, by omega, by omega⟩
    case round =>
      obtain ⟨pos, q, rfl, rfl, hk, hp⟩ := hrel
      have hpz : 0 ≤ (pos : Int) := by omega
      by_cases hlt : pos < N
      · have hB := f2.out pos hlt
        generalize hm : mkB pos c = s at hB
        have hm := Lib.hid hm
        have hF := hE.out s
        rw [if_pos hB] at hF
        replace hF := Lib.hid hF
        clear hB
        go_wp2_with fail
        refine (rmake_any _ _ _).mono ?_
        rintro e w' ⟨rfl, k1, rfl⟩
        rw [hm.out]
        go_wp2_with fail
        refine (rfind_any _ _ _ _ _ _ (reads_below hR.out (below_drewN (Below.refl _ _) _)) hn).mono ?_
        rintro e w' ⟨rfl, rfl⟩
        rw [hF.out]
        go_wp2_with fail
        go_roundg (N - pos)
        case measure => omega
        case rel => exact ⟨pos + 1, q + k1, rfl, by go_num, by omega, by omega⟩
      · obtain rfl : pos = N := by omega
        have hB := f3.out
        generalize hm : mkB pos c = s at hB
        have hm := Lib.hid hm
        have hF := hE.out s
        rw [if_neg (by rw [hB]; simp)] at hF
        replace hF := Lib.hid hF
        clear hB
        go_wp2_with fail
        refine (rmake_any _ _ _).mono ?_
        rintro e w' ⟨rfl, k1, rfl⟩
        rw [hm.out]
        go_wp2_with fail
        refine (rfind_any _ _ _ _ _ _ (reads_below hR.out (below_drewN (Below.refl _ _) _)) hn).mono ?_
        rintro e w' ⟨rfl, rfl⟩
        rw [hF.out]
        go_wp2_with fail
        go_ret2
        exact ⟨ret_strint hm.out.symm rfl, q + k1, rfl⟩
end Go.Proofs.Ytgfnajpmaaomnaa
