/- The reference's Compare. -/
import Derived.Test.YtgfnajpmaaomnaaKd
namespace Go.Proofs.Ytgfnajpmaaomnaa
open Go.ChangeShapes Go.WideShapes Go.ChangeAt Go.RowKit
set_option linter.unusedVariables false

theorem drop_at (a : ByteArray) (i : Nat) (h : i < a.size) : ∃ c : UInt8, (c.toNat : Int) = byteAt a i ∧ a.data.toList.drop i = c :: a.data.toList.drop (i + 1) := by
  have h' : i < a.data.toList.length := by simpa using h
  refine ⟨a.data.toList[i], ?_, List.drop_eq_getElem_cons h'⟩
  unfold byteAt
  rw [List.getD_eq_getElem?_getD, List.getElem?_eq_getElem h']; rfl

theorem drop_end (a : ByteArray) (i : Nat) (h : ¬ i < a.size) : a.data.toList.drop i = [] := by
  have h' : a.data.toList.length = a.size := by simp
  exact List.drop_of_length_le (by omega)

/-- what is left of the comparison from place i on -/
def cmpFrom (a b : ByteArray) (i : Nat) : Int := cmpL (a.data.toList.drop i) (b.data.toList.drop i)

theorem cmpFrom_lt (a b : ByteArray) (i : Nat) (ha : i < a.size) (hb : i < b.size) (h : byteAt a i < byteAt b i) : cmpFrom a b i = -1 := by
  obtain ⟨c, hc, ec⟩ := drop_at a i ha
  obtain ⟨d, hd, ed⟩ := drop_at b i hb
  have : c < d := by rw [UInt8.lt_iff_toNat_lt]; omega
  simp [cmpFrom, ec, ed, cmpL, this]
theorem cmpFrom_gt (a b : ByteArray) (i : Nat) (ha : i < a.size) (hb : i < b.size) (h : byteAt b i < byteAt a i) : cmpFrom a b i = 1 := by
  obtain ⟨c, hc, ec⟩ := drop_at a i ha
  obtain ⟨d, hd, ed⟩ := drop_at b i hb
  have h1 : ¬ c < d := by rw [UInt8.lt_iff_toNat_lt]; omega
  have h2 : d < c := by rw [UInt8.lt_iff_toNat_lt]; omega
  simp [cmpFrom, ec, ed, cmpL, h1, h2]
theorem cmpFrom_eq (a b : ByteArray) (i : Nat) (ha : i < a.size) (hb : i < b.size) (h : byteAt b i = byteAt a i) : cmpFrom a b i = cmpFrom a b (i + 1) := by
  obtain ⟨c, hc, ec⟩ := drop_at a i ha
  obtain ⟨d, hd, ed⟩ := drop_at b i hb
  have h1 : ¬ c < d := by rw [UInt8.lt_iff_toNat_lt]; omega
  have h2 : ¬ d < c := by rw [UInt8.lt_iff_toNat_lt]; omega
  simp only [cmpFrom, ec, ed, cmpL, h1, h2, if_false]
theorem cmpFrom_end (a b : ByteArray) (i : Nat) (h : ¬ i < a.size ∨ ¬ i < b.size) (hi : i ≤ a.size ∧ i ≤ b.size) :
    cmpFrom a b i = if a.size < b.size then -1 else if b.size < a.size then 1 else 0 := by
  unfold cmpFrom
  by_cases ha : i < a.size
  · have hb : ¬ i < b.size := by omega
    obtain ⟨c, hc, ec⟩ := drop_at a i ha
    rw [ec, drop_end b i hb, if_neg (by omega), if_pos (by omega)]; rfl
  · rw [drop_end a i ha]
    by_cases hb : i < b.size
    · obtain ⟨d, hd, ed⟩ := drop_at b i hb
      rw [ed, if_pos (by omega)]; rfl
    · rw [drop_end b i hb, if_neg (by omega), if_neg (by omega)]; rfl

set_option maxHeartbeats 1000000 in
theorem rcompare_any (a b : ByteArray) (w : World) (hsa : a.size ≤ maxLen) (hsb : b.size ≤ maxLen) : Calls Try.prog 29 #[.string a, .string b] w fun e w' => e = .returned (.int .i64 (cmpB a b)) ∧ ∃ k, w' = w.drewN k := by
  unfold maxLen at hsa hsb
  go_enter Try.func29, Try.ntmps29
  go_wp2
  go_loopg [5] a.size (fun k i wr => ∃ pos n : Nat, wr = w.drewN n ∧ i = .int .i64 pos ∧ pos + k = a.size ∧ pos ≤ b.size ∧ cmpFrom a b pos = cmpB a b)
  case atStart => exact ⟨0, 0, rfl, rfl, by omega, by omega, rfl⟩
  case round =>
    obtain ⟨pos, n, rfl, rfl, hk, hpb, hg⟩ := hrel
    have hpz : 0 ≤ (pos : Int) := by omega
    have hE := Lib.hid (cmpFrom_end a b pos)
    by_cases hp : pos < a.size
    · by_cases hq : pos < b.size
      · have i1 : (pos : Int) < a.size := by omega
        have i2 : (pos : Int) < b.size := by omega
        have b1 := (byteAt_get a pos hp).symm
        have b2 := (byteAt_get b pos hq).symm
        have L1 := Lib.hid (cmpFrom_lt a b pos hp hq)
        have L2 := Lib.hid (cmpFrom_gt a b pos hp hq)
        have L3 := Lib.hid (cmpFrom_eq a b pos hp hq)
        generalize byteAt a pos = x at *
        generalize byteAt b pos = y at *
        have hG := Lib.hid hg
        clear hg hE
        by_cases h1 : x < y
        · have hR := Lib.hid (L1.out h1)
          clear L1 L2 L3
          go_wp2_with fail
          go_quiet (fail)
          go_wp2_with fail
          go_ret
          exact ⟨ret_int (hG.out.symm.trans hR.out).symm, by simp only [World.drewN_drewN]; exact ⟨_, rfl⟩⟩
        · by_cases h2 : y < x
          · have hR := Lib.hid (L2.out h2)
            clear L1 L2 L3
            go_wp2_with fail
            go_quiet (fail)
            go_wp2_with fail
            go_quiet (fail)
            go_wp2_with fail
            go_ret
            exact ⟨ret_int (hG.out.symm.trans hR.out).symm, by simp only [World.drewN_drewN]; exact ⟨_, rfl⟩⟩
          · have hR := Lib.hid ((L3.out (by omega)).symm.trans hG.out)
            clear L1 L2 L3
            go_wp2_with fail
            go_quiet (fail)
            go_wp2_with fail
            go_quiet (fail)
            go_wp2_with fail
            go_roundg (a.size - (pos + 1))
            case measure => omega
            case rel =>
              refine ⟨pos + 1, ?_⟩
              exact ⟨_, rfl, by go_num, by omega, by omega, hR.out⟩
      · have hps : pos = b.size := by omega
        have hR := Lib.hid (hg.symm.trans (hE.out (by omega) (by omega)))
        have hlt : ¬ a.size < b.size := by omega
        have hgt : b.size < a.size := by omega
        have hR2 := Lib.hid (show cmpB a b = 1 by rw [hR.out, if_neg hlt, if_pos hgt])
        clear hg hE hR hps hpb hk
        go_wp2_with fail
        go_ret
        exact ⟨ret_int hR2.out.symm, _, rfl⟩
    · have hps : pos = a.size := by omega
      have hR := Lib.hid (hg.symm.trans (hE.out (by omega) (by omega)))
      by_cases hlt : a.size < b.size
      · have hR2 := Lib.hid (show cmpB a b = -1 by rw [hR.out, if_pos hlt])
        clear hg hE hR hps hpb hk
        go_wp2_with fail
        go_ret
        exact ⟨ret_int hR2.out.symm, _, rfl⟩
      · have hgt : ¬ b.size < a.size := by omega
        have hR2 := Lib.hid (show cmpB a b = 0 by rw [hR.out, if_neg hlt, if_neg hgt])
        clear hg hE hR hps hpb hk
        go_wp2_with fail
        go_ret
        exact ⟨ret_int hR2.out.symm, _, rfl⟩

theorem kept_drewN {w0 w : World} (h : Kept w0 w) (n : Nat) : Kept w0 (w.drewN n) := below_drewN h n
theorem kept_drew_of {P : Program} {f : FuncId} {args : Array Value} {w w0 : World} {v : Value} (h : Calls P f args w fun e w' => e = .returned v ∧ ∃ k, w' = w.drewN k) (hk : Kept w0 w) :
    Calls P f args w fun e w' => e = .returned v ∧ Kept w0 w' := h.mono fun _ _ ⟨he, k, hb⟩ => ⟨he, by rw [hb]; exact kept_drewN hk k⟩
theorem kept_same {P : Program} {f : FuncId} {args : Array Value} {w w0 : World} {v : Value} (h : Calls P f args w fun e w' => e = .returned v ∧ w = w') (hk : Kept w0 w) :
    Calls P f args w fun e w' => e = .returned v ∧ Kept w0 w' := h.mono fun _ _ ⟨he, hb⟩ => ⟨he, hb ▸ hk⟩

set_option maxHeartbeats 1000000 in
theorem nameChecks_walk (s t : ByteArray) (w : World) (hs : s.size ≤ maxLen) (ht : t.size ≤ maxLen) :
    Calls Try.prog 7 #[.string s, .string t] w fun e w' => e = .returned (.bool true) ∧ Below w.heap.size w w' := by
  have hs2 := Lib.hid hs
  have ht2 := Lib.hid ht
  unfold maxLen at hs ht
  have hk : Kept w w := Kept.refl w
  have HG : Hid (∀ w', Kept w w' → Below w.heap.size w w') := Lib.hid fun _ h => h
  by_cases h1 : s.size ≤ 60
  · by_cases h2 : t.size ≤ 60
    · go_enter Try.func7, Try.ntmps7
      go_wp2_with (first | (go_at_call 17; refine (kept_of (awake03 _) (by assumption)).mono ?_; rintro e w' ⟨rfl, hk'⟩) | (go_at_call 18; refine (kept_of (check_any _ _ (by exact hs2.out)) (by assumption)).mono ?_; rintro e w' ⟨rfl, hk'⟩) | (go_at_call 19; refine (kept_of (small_any _ _ (by exact hs2.out)) (by assumption)).mono ?_; rintro e w' ⟨rfl, hk'⟩) | (go_at_call 20; refine (kept_of (cap_any _ _ (by exact hs2.out)) (by assumption)).mono ?_; rintro e w' ⟨rfl, hk'⟩) | (go_at_call 21; refine (kept_of (word_any _ _ (by exact hs2.out)) (by assumption)).mono ?_; rintro e w' ⟨rfl, hk'⟩) | (go_at_call 23; refine (kept_same (rword_any _ _ (by exact hs2.out)) (by assumption)).mono ?_; rintro e w' ⟨rfl, hk'⟩) | (go_at_call 24; refine (kept_of (lang_any _ _) (by assumption)).mono ?_; rintro e w' ⟨rfl, hk'⟩) | (go_at_call 25; refine (kept_same (rlang_any _ _) (by assumption)).mono ?_; rintro e w' ⟨rfl, hk'⟩) | (go_at_call 26; refine (kept_same (rcheck_any _ _ (by exact hs2.out)) (by assumption)).mono ?_; rintro e w' ⟨rfl, hk'⟩) | (go_at_call 27; refine (kept_same (rsmall_any _ _ (by exact hs2.out)) (by assumption)).mono ?_; rintro e w' ⟨rfl, hk'⟩) | (go_at_call 28; refine (kept_same (rcap_any _ _ (by exact hs2.out)) (by assumption)).mono ?_; rintro e w' ⟨rfl, hk'⟩) | (go_at_call 22; refine (kept_same (ncompare_any _ _ _) (by assumption)).mono ?_; rintro e w' ⟨rfl, hk'⟩) | (go_at_call 29; refine (kept_drew_of (rcompare_any _ _ _ (by exact hs2.out) (by exact ht2.out)) (by assumption)).mono ?_; rintro e w' ⟨rfl, hk'⟩))
      go_ret
      exact ⟨rfl, HG.out _ (by assumption)⟩
    · go_enter Try.func7, Try.ntmps7
      go_wp2_with (go_at_call 17; refine (awake03 _).mono ?_; rintro e w' ⟨rfl, hk'⟩)
      go_ret
      exact ⟨rfl, hk'⟩
  · go_enter Try.func7, Try.ntmps7
    go_wp2_with (go_at_call 17; refine (awake03 _).mono ?_; rintro e w' ⟨rfl, hk'⟩)
    go_ret
    exact ⟨rfl, hk'⟩
end Go.Proofs.Ytgfnajpmaaomnaa
