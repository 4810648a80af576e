/- Plain facts on the names with a number: they are names, small or capital as asked, different for different numbers; one of the first 101 is not in a list of at most 100. -/
import Derived.Test.YtgfnajpmaaomnaaRc
namespace Go.Proofs.Ytgfnajpmaaomnaa
set_option linter.unusedVariables false

def hd (c : Bool) : UInt8 := if c = true then 78 else 116

theorem mkB_list (n : Nat) (c : Bool) (h : n ≤ 9999) : mkB n c = strB (hd c :: decF 4 n) := by
  unfold mkB
  rw [if_neg (by omega)]
  cases c
  · show strB [116] ++ strB _ = _
    rw [strB_append]; rfl
  · show strB [78] ++ strB _ = _
    rw [strB_append]; rfl

theorem u8_dig (k : Nat) (h : k < 10) : ((48 + k).toUInt8).toNat = 48 + k := by
  rw [UInt8.toNat_ofNat']; omega

theorem decF_dig : ∀ f n, ∀ x ∈ decF f n, 48 ≤ x.toNat ∧ x.toNat ≤ 57
  | 0, n, x, h => by simp [decF] at h
  | f + 1, n, x, h => by
    by_cases hn : n < 10
    · simp only [decF, hn, if_true, List.mem_singleton] at h
      rw [h, u8_dig n hn]; omega
    · simp only [decF, hn, if_false, List.mem_append, List.mem_singleton] at h
      rcases h with h | h
      · exact decF_dig f _ x h
      · rw [h, u8_dig _ (by omega)]; omega

theorem decF_pos (f n : Nat) : 0 < (decF (f + 1) n).length := by
  by_cases h : n < 10 <;> simp [decF, h]

/-- the number of a list of digits -/
def valF (l : List UInt8) : Nat := l.foldl (fun a d => 10 * a + (d.toNat - 48)) 0
theorem valF_snoc (l : List UInt8) (d : UInt8) : valF (l ++ [d]) = 10 * valF l + (d.toNat - 48) := by simp [valF, List.foldl_append]
theorem valF_dec : ∀ f n, n < 10 ^ f → valF (decF f n) = n
  | 0, n, h => by simp at h; simp [decF, valF, h]
  | f + 1, n, h => by
    by_cases hn : n < 10
    · simp only [decF, hn, if_true]
      rw [show [(48 + n).toUInt8] = [] ++ [(48 + n).toUInt8] from rfl, valF_snoc, u8_dig n hn]
      simp [valF]
    · simp only [decF, hn, if_false]
      rw [valF_snoc, valF_dec f (n / 10) (by rw [Nat.pow_succ] at h; omega), u8_dig _ (by omega)]
      omega

theorem strB_inj (a b : List UInt8) (h : strB a = strB b) : a = b := by
  have h1 : (strB a).data.toList = (strB b).data.toList := by rw [h]
  simpa [strB] using h1

theorem mkB_inj (m n : Nat) (c : Bool) (hm : m ≤ 9999) (hn : n ≤ 9999) (h : mkB m c = mkB n c) : m = n := by
  rw [mkB_list m c hm, mkB_list n c hn] at h
  have h1 := strB_inj _ _ h
  have h2 : decF 4 m = decF 4 n := (List.cons.inj h1).2
  have h3 := valF_dec 4 m (by omega)
  have h4 := valF_dec 4 n (by omega)
  rw [← h3, ← h4, h2]

theorem strB_at (l : List UInt8) (i : Nat) : byteAt (strB l) i = ((l.getD i 0).toNat : Int) := rfl

theorem getD_mem (l : List UInt8) (i : Nat) (h : i < l.length) : l.getD i 0 ∈ l := by
  rw [List.getD_eq_getElem?_getD, List.getElem?_eq_getElem h]; simp

theorem mk_word (n : Nat) (c : Bool) (h : n ≤ 9999) : wordE (mkB n c) = 0 := by
  rw [mkB_list n c h]
  have hl := decF_len 4 n
  refine wordE_ok _ ?_ (by rw [strB_size]; simp) (by rw [strB_size]; simp; omega)
  intro i hi
  rw [strB_size] at hi
  rw [strB_at]
  cases i with
  | zero => cases c
            · show badI 0 ((hd false).toNat : Int) = false
              decide
            · show badI 0 ((hd true).toNat : Int) = false
              decide
  | succ i =>
    have hm := decF_dig 4 n _ (getD_mem (decF 4 n) i (by simp at hi; omega))
    rw [List.getD_cons_succ]
    generalize ((decF 4 n).getD i 0).toNat = d at hm
    have h1 : digiI (d : Int) = true := by simp [digiI]; omega
    simp [badI, h1]

theorem mk_lang (n : Nat) (c : Bool) (h : n ≤ 9999) : langB (mkB n c) = false := by
  cases hl : langB (mkB n c) with
  | false => rfl
  | true =>
    exfalso
    have hz : 48 ≤ byteAt (mkB n c) 1 ∧ byteAt (mkB n c) 1 ≤ 57 := by
      rw [mkB_list n c h, strB_at, List.getD_cons_succ]
      have := decF_dig 4 n _ (getD_mem (decF 4 n) 0 (decF_pos 3 n))
      omega
    simp only [langB, Bool.or_eq_true, decide_eq_true_eq] at hl
    rcases hl with hl | hl | hl | hl <;> rw [hl] at hz <;> revert hz <;> decide +kernel

theorem mk_check (n : Nat) (c : Bool) (h : n ≤ 9999) : checkE (mkB n c) = 0 := by
  simp [checkE, mk_word n c h, mk_lang n c h]
theorem mk_first (n : Nat) (c : Bool) (h : n ≤ 9999) : byteAt (mkB n c) 0 = ((hd c).toNat : Int) := by
  rw [mkB_list n c h, strB_at]; rfl
theorem mk_small (n : Nat) (c : Bool) (h : n ≤ 9999) : smallB (mkB n c) = !c := by
  simp only [smallB, mk_check n c h, mk_first n c h]
  cases c <;> decide
theorem mk_cap (n : Nat) (c : Bool) (h : n ≤ 9999) : capB (mkB n c) = c := by
  simp only [capB, mk_check n c h, mk_first n c h]
  cases c <;> decide
theorem mk_size (n : Nat) (c : Bool) (h : n ≤ 9999) : (mkB n c).size ≤ 5 := by
  rw [mkB_list n c h, strB_size]
  have := decF_len 4 n
  simp; omega
theorem mkE_ok (n : Int) (h0 : 0 ≤ n) (h : n ≤ 9999) : mkE n = 0 := by unfold mkE; rw [if_neg (by omega)]

theorem hasB_mem (s : ByteArray) (l : List ByteArray) : hasB s l = true ↔ s ∈ l := by simp [hasB]

theorem pig {α : Type} [BEq α] [LawfulBEq α] : ∀ (l m : List α), l.Nodup → (∀ x ∈ l, x ∈ m) → l.length ≤ m.length
  | [], m, _, _ => by simp
  | x :: t, m, hn, hs => by
    have hx := hs x (by simp)
    obtain ⟨hx1, hn2⟩ := List.nodup_cons.1 hn
    have := pig t (m.erase x) hn2 (fun y hy => by
      have hne : y ≠ x := fun e => hx1 (e ▸ hy)
      exact (List.mem_erase_of_ne hne).2 (hs y (by simp [hy])))
    rw [List.length_erase_of_mem hx] at this
    have := List.length_pos_of_mem hx
    simp only [List.length_cons]; omega

/-- the first number from n on whose name is not in the list, by fuel -/
def freshF (l : List ByteArray) (c : Bool) : Nat → Nat → Nat
  | 0, n => n
  | f + 1, n => if hasB (mkB n c) l = true then freshF l c f (n + 1) else n

theorem freshF_between (l : List ByteArray) (c : Bool) : ∀ f n, n ≤ freshF l c f n ∧ freshF l c f n ≤ n + f ∧ (∀ k, n ≤ k → k < freshF l c f n → hasB (mkB k c) l = true) ∧ (freshF l c f n < n + f → hasB (mkB (freshF l c f n) c) l = false)
  | 0, n => ⟨Nat.le_refl _, Nat.le_refl _, fun k h1 h2 => by simp [freshF] at h2; omega, fun h => by simp [freshF] at h⟩
  | f + 1, n => by
    obtain ⟨h1, h2, h3, h4⟩ := freshF_between l c f (n + 1)
    by_cases h : hasB (mkB n c) l = true
    · have e : freshF l c (f + 1) n = freshF l c f (n + 1) := by rw [freshF, if_pos h]
      rw [e]
      refine ⟨by omega, by omega, fun k hk1 hk2 => ?_, fun hh => h4 (by omega)⟩
      by_cases hk : k = n
      · rw [hk]; exact h
      · exact h3 k (by omega) hk2
    · have e : freshF l c (f + 1) n = n := by rw [freshF, if_neg h]
      rw [e]
      refine ⟨Nat.le_refl _, by omega, fun k hk1 hk2 => by omega, fun _ => by simpa using h⟩

def freshN (l : List ByteArray) (c : Bool) : Nat := freshF l c 101 0

instance : BEq ByteArray := ⟨fun a b => decide (a = b)⟩
instance : LawfulBEq ByteArray where
  eq_of_beq h := of_decide_eq_true h
  rfl := decide_eq_true rfl

theorem fresh_spec (l : List ByteArray) (c : Bool) (hl : l.length ≤ 100) :
    freshN l c ≤ 100 ∧ (∀ k, k < freshN l c → hasB (mkB k c) l = true) ∧ hasB (mkB (freshN l c) c) l = false := by
  obtain ⟨_, h2, h3, h4⟩ := freshF_between l c 101 0
  have hlt : freshF l c 101 0 < 101 := by
    by_cases h : freshF l c 101 0 < 101
    · exact h
    · exfalso
      have hp := pig ((List.range 101).map fun k => mkB (k : Nat) c) l (by
        rw [List.Nodup, List.pairwise_map]
        refine List.Pairwise.imp_of_mem ?_ (List.nodup_range (n := 101))
        intro a b ha hb hab e
        exact hab (mkB_inj a b c (by have := List.mem_range.1 ha; omega) (by have := List.mem_range.1 hb; omega) e)) (by
        intro x hx
        obtain ⟨k, hk, rfl⟩ := List.mem_map.1 hx
        exact (hasB_mem _ _).1 (h3 k (Nat.zero_le _) (by have := List.mem_range.1 hk; omega)))
      simp at hp
      omega
  refine ⟨by unfold freshN; omega, fun k hk => h3 k (Nat.zero_le _) hk, h4 (by omega)⟩
end Go.Proofs.Ytgfnajpmaaomnaa
