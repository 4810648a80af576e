/- The walks of NameKinds, NameOrder and NameChecks; the reference's Compare. -/
import Derived.Test.YtgfnajpmaaomnaaCp
namespace Go.Proofs.Ytgfnajpmaaomnaa
open Go.ChangeShapes Go.WideShapes Go.ChangeAt Go.RowKit
set_option linter.unusedVariables false

/-- what was there when the call began is as it was -/
def Kept (w0 w : World) : Prop := Below w0.heap.size w0 w
theorem Kept.refl (w : World) : Kept w w := Below.refl _ _
theorem kept_of {P : Program} {f : FuncId} {args : Array Value} {w w0 : World} {v : Value} (h : Calls P f args w fun e w' => e = .returned v ∧ Below w.heap.size w w') (hk : Kept w0 w) :
    Calls P f args w fun e w' => e = .returned v ∧ Kept w0 w' := h.mono fun _ _ ⟨he, hb⟩ => ⟨he, hk.trans (hb.mono hk.size)⟩

theorem sc_or (s : ByteArray) (h : checkE s = 0) : (smallB s = true ∧ capB s = false) ∨ (smallB s = false ∧ capB s = true) := by
  by_cases h1 : 97 ≤ byteAt s 0
  · left; simp [smallB, capB, h, h1]
  · right; simp [smallB, capB, h, h1]; omega
theorem sc_none (s : ByteArray) (h : ¬ checkE s = 0) : smallB s = false ∧ capB s = false := by simp [smallB, capB, h]

theorem plus_size (s : ByteArray) : (s ++ (⟨#[48]⟩ : ByteArray)).size = s.size + 1 := by rw [ByteArray.size_append]; rfl
theorem plus_at (s : ByteArray) (i : Nat) (h : i < s.size) : byteAt (s ++ (⟨#[48]⟩ : ByteArray)) i = byteAt s i := by
  have h' : i < s.data.toList.length := by simpa using h
  unfold byteAt
  rw [ByteArray.data_append, Array.toList_append, List.getD_eq_getElem?_getD, List.getD_eq_getElem?_getD, List.getElem?_append_left h']
theorem plus_last (s : ByteArray) : byteAt (s ++ (⟨#[48]⟩ : ByteArray)) s.size = 48 := by
  unfold byteAt
  rw [ByteArray.data_append, Array.toList_append, List.getD_eq_getElem?_getD, List.getElem?_append_right (by simp)]
  simp

theorem word_plus (s : ByteArray) (h : wordE s = 0) (h12 : s.size < 12) : wordE (s ++ (⟨#[48]⟩ : ByteArray)) = 0 := by
  obtain ⟨h0, _, hg⟩ := wordE_zero s h
  refine wordE_ok _ ?_ (by rw [plus_size]; omega) (by rw [plus_size]; omega)
  intro i hi
  rw [plus_size] at hi
  by_cases h1 : i < s.size
  · rw [plus_at s i h1]; exact hg i h1
  · obtain rfl : i = s.size := by omega
    rw [plus_last]
    have h3 : ¬ s.size = 0 := by omega
    simp [badI, h3, digiI]

theorem lang_last (s : ByteArray) (h : langB s = true) : byteAt s (s.size - 1) ≠ 48 := by
  simp only [langB, Bool.or_eq_true, decide_eq_true_eq] at h
  rcases h with h | h | h | h <;> subst h <;> decide +kernel

theorem lang_plus (s : ByteArray) : langB (s ++ (⟨#[48]⟩ : ByteArray)) = false := by
  cases h : langB (s ++ (⟨#[48]⟩ : ByteArray)) with
  | false => rfl
  | true =>
    exfalso
    apply lang_last _ h
    rw [plus_size]
    exact plus_last s

theorem check_plus (s : ByteArray) (h : wordE s = 0) (h12 : s.size < 12) : checkE (s ++ (⟨#[48]⟩ : ByteArray)) = 0 := by
  simp [checkE, word_plus s h h12, lang_plus]

set_option maxHeartbeats 1000000 in
theorem nk_tail (s : ByteArray) (w : World) (hs : s.size ≤ maxLen) (h60 : s.size ≤ 60) (c x y : Bool) (hc : (checkE s == 0) = c) (hx : smallB s = x) (hy : capB s = y)
    (hor : (c = true ∧ ((x = true ∧ y = false) ∨ (x = false ∧ y = true))) ∨ (c = false ∧ x = false ∧ y = false)) :
    Calls Try.prog 5 #[.string s] w fun e w' => e = .returned (.bool true) ∧ Below w.heap.size w w' := by
  have hs2 := Lib.hid hs
  have hk : Kept w w := Kept.refl w
  have HG : Hid (∀ w', Kept w w' → Below w.heap.size w w') := Lib.hid fun _ h => h
  clear hs
  by_cases hw : wordE s = 0 ∧ s.size < 12
  · obtain ⟨hw0, h12⟩ := hw
    have ht := check_plus s hw0 h12
    have hts : (s ++ (⟨#[48]⟩ : ByteArray)).size ≤ maxLen := by rw [plus_size]; unfold maxLen; omega
    have hts := Lib.hid hts
    have hcc : s.size + (⟨#[48]⟩ : ByteArray).size ≤ 9223372036854775807 := by show s.size + 1 ≤ _; omega
    have htx := sc_or _ ht
    have hw0b : (wordE s == 0) = true := by simpa using hw0
    clear hw0
    rcases hor with ⟨rfl, ⟨rfl, rfl⟩ | ⟨rfl, rfl⟩⟩ | ⟨rfl, rfl, rfl⟩ <;> rcases htx with ⟨htx, hty⟩ | ⟨htx, hty⟩
    all_goals
      go_enter Try.func5, Try.ntmps5
      go_wp2_with (first | (go_at_call 17; refine (kept_of (awake03 _) (by assumption)).mono ?_; rintro e w' ⟨rfl, hk'⟩) | (go_at_call 18; refine (kept_of (check_any _ _ (by first | exact hs2.out | exact hts.out)) (by assumption)).mono ?_; rintro e w' ⟨rfl, hk'⟩) | (go_at_call 19; refine (kept_of (small_any _ _ (by first | exact hs2.out | exact hts.out)) (by assumption)).mono ?_; rintro e w' ⟨rfl, hk'⟩) | (go_at_call 20; refine (kept_of (cap_any _ _ (by first | exact hs2.out | exact hts.out)) (by assumption)).mono ?_; rintro e w' ⟨rfl, hk'⟩) | (go_at_call 21; refine (kept_of (word_any _ _ (by first | exact hs2.out | exact hts.out)) (by assumption)).mono ?_; rintro e w' ⟨rfl, hk'⟩))
      go_ret
      exact ⟨rfl, HG.out _ (by assumption)⟩
  · have hts := hs2
    by_cases hw0 : wordE s = 0
    · have h12 : ¬ s.size < 12 := fun h => hw ⟨hw0, h⟩
      have hw0b : (wordE s == 0) = true := by simpa using hw0
      clear hw hw0
      rcases hor with ⟨rfl, ⟨rfl, rfl⟩ | ⟨rfl, rfl⟩⟩ | ⟨rfl, rfl, rfl⟩
      all_goals
        go_enter Try.func5, Try.ntmps5
        go_wp2_with (first | (go_at_call 17; refine (kept_of (awake03 _) (by assumption)).mono ?_; rintro e w' ⟨rfl, hk'⟩) | (go_at_call 18; refine (kept_of (check_any _ _ (by first | exact hs2.out | exact hts.out)) (by assumption)).mono ?_; rintro e w' ⟨rfl, hk'⟩) | (go_at_call 19; refine (kept_of (small_any _ _ (by first | exact hs2.out | exact hts.out)) (by assumption)).mono ?_; rintro e w' ⟨rfl, hk'⟩) | (go_at_call 20; refine (kept_of (cap_any _ _ (by first | exact hs2.out | exact hts.out)) (by assumption)).mono ?_; rintro e w' ⟨rfl, hk'⟩) | (go_at_call 21; refine (kept_of (word_any _ _ (by first | exact hs2.out | exact hts.out)) (by assumption)).mono ?_; rintro e w' ⟨rfl, hk'⟩))
        go_ret
        exact ⟨rfl, HG.out _ (by assumption)⟩
    · have hw0b : (wordE s == 0) = false := by simpa using hw0
      clear hw hw0
      rcases hor with ⟨rfl, ⟨rfl, rfl⟩ | ⟨rfl, rfl⟩⟩ | ⟨rfl, rfl, rfl⟩
      all_goals
        go_enter Try.func5, Try.ntmps5
        go_wp2_with (first | (go_at_call 17; refine (kept_of (awake03 _) (by assumption)).mono ?_; rintro e w' ⟨rfl, hk'⟩) | (go_at_call 18; refine (kept_of (check_any _ _ (by first | exact hs2.out | exact hts.out)) (by assumption)).mono ?_; rintro e w' ⟨rfl, hk'⟩) | (go_at_call 19; refine (kept_of (small_any _ _ (by first | exact hs2.out | exact hts.out)) (by assumption)).mono ?_; rintro e w' ⟨rfl, hk'⟩) | (go_at_call 20; refine (kept_of (cap_any _ _ (by first | exact hs2.out | exact hts.out)) (by assumption)).mono ?_; rintro e w' ⟨rfl, hk'⟩) | (go_at_call 21; refine (kept_of (word_any _ _ (by first | exact hs2.out | exact hts.out)) (by assumption)).mono ?_; rintro e w' ⟨rfl, hk'⟩))
        go_ret
        exact ⟨rfl, HG.out _ (by assumption)⟩

theorem nameKinds_walk (s : ByteArray) (w : World) (hs : s.size ≤ maxLen) :
    Calls Try.prog 5 #[.string s] w fun e w' => e = .returned (.bool true) ∧ Below w.heap.size w w' := by
  by_cases h60 : s.size ≤ 60
  · by_cases hc : checkE s = 0
    · exact nk_tail s w hs h60 true _ _ (by simpa using hc) rfl rfl (.inl ⟨rfl, sc_or s hc⟩)
    · exact nk_tail s w hs h60 false _ _ (by simpa using hc) rfl rfl (.inr ⟨rfl, sc_none s hc⟩)
  · unfold maxLen at hs
    go_enter Try.func5, Try.ntmps5
    go_wp2_with (go_at_call 17; refine (awake03 _).mono ?_; rintro e w' ⟨rfl, hk'⟩)
    go_ret
    exact ⟨rfl, hk'⟩

theorem cmpB_anti (a b : ByteArray) : cmpB b a = - cmpB a b := cmpL_anti _ _
theorem cmpB_vals (a b : ByteArray) : cmpB a b = -1 ∨ cmpB a b = 0 ∨ cmpB a b = 1 := cmpL_vals _ _
theorem cmpB_trans (a b c : ByteArray) (h1 : cmpB a b ≤ 0) (h2 : cmpB b c ≤ 0) : cmpB a c ≤ 0 ∧ (cmpB a b < 0 → cmpB a c < 0) := cmpL_trans _ _ _ h1 h2

theorem ncompare_to (a b : ByteArray) (k : Int) (h : cmpB a b = k) (w : World) : Calls Try.prog 22 #[.string a, .string b] w fun e w' => e = .returned (.int .i64 k) ∧ w = w' := by
  subst h; exact ncompare_any a b w

set_option maxHeartbeats 1000000 in
theorem no_core (a b c : ByteArray) (w : World) (ha : a.size ≤ 20) (hb : b.size ≤ 20) (hc : c.size ≤ 20) (x y z : Int)
    (hx : Hid (cmpB a b = x)) (hx2 : Hid (cmpB b a = -x)) (hy : Hid (cmpB b c = y)) (hz : Hid (cmpB a c = z)) (he : (a.toList == b.toList) = decide (x = 0))
    (hor : x = 1 ∨ (x = 0 ∧ y = 1) ∨ (x = 0 ∧ decide (0 < y) = false ∧ decide (z ≤ 0) = true) ∨ (x = -1 ∧ y = 1) ∨ (x = -1 ∧ decide (0 < y) = false ∧ decide (z < 0) = true ∧ decide (z ≤ 0) = true)) :
    Calls Try.prog 6 #[.string a, .string b, .string c] w fun e w' => e = .returned (.bool true) ∧ Below w.heap.size w w' := by
  rcases hor with rfl | ⟨rfl, rfl⟩ | ⟨rfl, h1, h2⟩ | ⟨rfl, rfl⟩ | ⟨rfl, h1, h2, h3⟩
  all_goals
    simp only [decide_true, show decide ((-1 : Int) = 0) = false from rfl, show decide ((1 : Int) = 0) = false from rfl] at he
    go_enter Try.func6, Try.ntmps6
    go_wp2_with fail
    refine (ncompare_to _ _ _ hx.out _).mono ?_
    rintro e w' ⟨rfl, rfl⟩
    go_wp2_with fail
    refine (ncompare_to _ _ _ hy.out _).mono ?_
    rintro e w' ⟨rfl, rfl⟩
    go_wp2_with fail
    refine (ncompare_to _ _ _ hz.out _).mono ?_
    rintro e w' ⟨rfl, rfl⟩
    go_wp2_with fail
    refine (ncompare_to _ _ _ hx2.out _).mono ?_
    rintro e w' ⟨rfl, rfl⟩
    go_wp2_with (go_at_call 17; refine (awake03 _).mono ?_; rintro e w' ⟨rfl, hk'⟩)
    go_ret
    exact ⟨rfl, hk'⟩

theorem nameOrder_walk (a b c : ByteArray) (w : World) (_ha : a.size ≤ maxLen) (_hb : b.size ≤ maxLen) (_hc : c.size ≤ maxLen) :
    Calls Try.prog 6 #[.string a, .string b, .string c] w fun e w' => e = .returned (.bool true) ∧ Below w.heap.size w w' := by
  unfold maxLen at _ha _hb _hc
  by_cases ha : a.size ≤ 20
  · by_cases hb : b.size ≤ 20
    · by_cases hc : c.size ≤ 20
      · refine no_core a b c w ha hb hc _ _ _ (Lib.hid rfl) (Lib.hid (cmpB_anti a b)) (Lib.hid rfl) (Lib.hid rfl) (cmp_eq a b) ?_
        have h1 := cmpB_vals a b
        have h2 := cmpB_vals b c
        have h3 := cmpB_vals a c
        have h4 := cmpB_trans a b c
        generalize cmpB a b = x at *
        generalize cmpB b c = y at *
        generalize cmpB a c = z at *
        simp only [decide_eq_false_iff_not, decide_eq_true_eq]
        rcases h1 with rfl | rfl | rfl
        · by_cases hy : y ≤ 0
          · have := (h4 (by omega) hy).2 (by omega)
            omega
          · omega
        · by_cases hy : y ≤ 0
          · have := (h4 (by omega) hy).1
            omega
          · omega
        · omega
      · go_enter Try.func6, Try.ntmps6
        go_wp2_with (go_at_call 17; refine (awake03 _).mono ?_; rintro e w' ⟨rfl, hk'⟩)
        go_ret
        exact ⟨rfl, hk'⟩
    · go_enter Try.func6, Try.ntmps6
      go_wp2_with (go_at_call 17; refine (awake03 _).mono ?_; rintro e w' ⟨rfl, hk'⟩)
      go_ret
      exact ⟨rfl, hk'⟩
  · go_enter Try.func6, Try.ntmps6
    go_wp2_with (go_at_call 17; refine (awake03 _).mono ?_; rintro e w' ⟨rfl, hk'⟩)
    go_ret
    exact ⟨rfl, hk'⟩
end Go.Proofs.Ytgfnajpmaaomnaa
