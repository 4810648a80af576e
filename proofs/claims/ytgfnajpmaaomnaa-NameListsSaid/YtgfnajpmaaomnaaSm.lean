/- NameSorts. -/
import Derived.Test.YtgfnajpmaaomnaaSk
namespace Go.Proofs.Ytgfnajpmaaomnaa
open Go.ChangeShapes Go.WideShapes Go.ChangeAt Go.RowKit
set_option linter.unusedVariables false

theorem reads_below {w w' : World} {a : Option Addr} {n : Nat} {l : List ByteArray} (h : Reads w a n l) (hb : Below w.heap.size w w') : Reads w' a n l := by
  refine ⟨h.1, ?_⟩
  rcases h.2 with h0 | ⟨b, off, h1, h2⟩
  · exact .inl h0
  · exact .inr ⟨b, off, h1, fun i hi => cell_later hb (h2 i hi)⟩

theorem srt_perm (l : List ByteArray) : (srt l).Perm l := List.mergeSort_perm _ _
theorem srt_len (l : List ByteArray) : (srt l).length = l.length := (srt_perm l).length_eq
theorem srt_pair (l : List ByteArray) : (srt l).Pairwise (fun x y => (!ltB y x) = true) :=
  List.pairwise_mergeSort (fun a b c h1 h2 => by
    simp only [Bool.not_eq_true'] at h1 h2 ⊢
    exact swoB.ntrans _ _ _ h2 h1) (fun a b => by
    cases h : ltB b a with
    | false => rfl
    | true => simp [ltB_asym h]) l
theorem srt_idem (l : List ByteArray) : srt (srt l) = srt l := List.mergeSort_of_pairwise (srt_pair l)
theorem srt_cnt (s : ByteArray) (l : List ByteArray) : cntL s (srt l) = cntL s l := (srt_perm l).countP_eq _
theorem srt_le (l : List ByteArray) (i : Nat) (h : i + 1 < l.length) : cmpB ((srt l).getD i ByteArray.empty) ((srt l).getD (i + 1) ByteArray.empty) ≤ 0 := by
  have z0 : i < (srt l).length := by rw [srt_len]; omega
  have z1 : i + 1 < (srt l).length := by rw [srt_len]; omega
  have hp := List.pairwise_iff_getElem.mp (srt_pair l) i (i + 1) z0 z1 (by omega)
  simp only [Bool.not_eq_true'] at hp
  rw [ltB_false] at hp
  have := cmpB_anti (srt l)[i + 1] (srt l)[i]
  rw [List.getD_eq_getElem?_getD, List.getD_eq_getElem?_getD, List.getElem?_eq_getElem z0, List.getElem?_eq_getElem z1]
  show cmpB (srt l)[i] (srt l)[i + 1] ≤ 0
  omega

/-- different so far -/
def dif (l : List ByteArray) : Nat → Bool
  | 0 => true
  | i + 1 => dif l i && decide (cntL (l.getD i ByteArray.empty) l = 1)
theorem dif_iff (l : List ByteArray) : ∀ n, dif l n = true ↔ ∀ k, k < n → cntL (l.getD k ByteArray.empty) l = 1
  | 0 => by simp [dif]
  | n + 1 => by
    rw [dif, Bool.and_eq_true, dif_iff l n, decide_eq_true_iff]
    constructor
    · rintro ⟨h1, h2⟩ k hk
      by_cases e : k = n
      · rw [e]; exact h2
      · exact h1 k (by omega)
    · intro h
      exact ⟨fun k hk => h k (by omega), h n (by omega)⟩
theorem cnt_cons (s x : ByteArray) (t : List ByteArray) : cntL s (x :: t) = cntL s t + if x = s then 1 else 0 := by
  unfold cntL; rw [List.countP_cons]; by_cases h : x = s <;> simp [h]
theorem cnt_zero (s : ByteArray) (t : List ByteArray) : cntL s t = 0 ↔ s ∉ t := by
  unfold cntL; rw [List.countP_eq_zero]; constructor
  · intro h hm; exact h s hm (by simp)
  · intro h x hx hd
    have e : x = s := by simpa using hd
    exact h (by rw [← e]; exact hx)
theorem nd_iff : ∀ l : List ByteArray, l.Nodup ↔ ∀ s ∈ l, cntL s l = 1
  | [] => by simp
  | x :: t => by
    rw [List.nodup_cons, nd_iff t]
    constructor
    · rintro ⟨h1, h2⟩ s hs
      rw [cnt_cons]
      by_cases e : x = s
      · subst e; rw [if_pos rfl, (cnt_zero _ _).mpr h1]
      · rw [if_neg e]
        exact h2 s (by
          rcases List.mem_cons.mp hs with h | h
          · exact absurd h.symm e
          · exact h)
    · intro h
      have h0 := h x (by simp)
      rw [cnt_cons, if_pos rfl] at h0
      have h1 : x ∉ t := (cnt_zero _ _).mp (by omega)
      refine ⟨h1, fun s hs => ?_⟩
      have h2 := h s (by simp [hs])
      rw [cnt_cons, if_neg (fun e => h1 (by rw [e]; exact hs))] at h2
      exact h2
theorem twL_none : ∀ (t pre : List ByteArray), twL pre t = none ↔ t.Nodup ∧ ∀ x ∈ t, x ∉ pre
  | [], pre => by simp [twL]
  | x :: t, pre => by
    unfold twL
    by_cases h : hasB x pre = true
    · rw [if_pos h]
      simp only [reduceCtorEq, false_iff]
      rintro ⟨_, h2⟩
      exact h2 x (by simp) ((hasB_mem x pre).mp h)
    · rw [if_neg h, twL_none t (pre ++ [x]), List.nodup_cons]
      have hx : x ∉ pre := fun hm => h ((hasB_mem x pre).mpr hm)
      constructor
      · rintro ⟨h1, h2⟩
        refine ⟨⟨fun hm => h2 x hm (by simp), h1⟩, fun y hy => ?_⟩
        rcases List.mem_cons.mp hy with e | e
        · rw [e]; exact hx
        · exact fun hm => h2 y e (by simp [hm])
      · rintro ⟨⟨h1, h2⟩, h3⟩
        refine ⟨h2, fun y hy => ?_⟩
        intro hm
        rcases List.mem_append.mp hm with e | e
        · exact h3 y (by simp [hy]) e
        · have : y = x := by simpa using e
          exact h1 (by rw [← this]; exact hy)
theorem tw_dif (l : List ByteArray) (h : l.length ≤ 100) : twB l = !dif l l.length := by
  have h1 : (twL [] l = none) ↔ dif l l.length = true := by
    rw [twL_none, dif_iff, nd_iff]
    constructor
    · rintro ⟨h1, _⟩ k hk
      exact h1 _ (by rw [List.getD_eq_getElem?_getD, List.getElem?_eq_getElem hk]; simp)
    · intro h2
      refine ⟨fun s hs => ?_, by simp⟩
      obtain ⟨i, hi, rfl⟩ := List.mem_iff_getElem.mp hs
      have := h2 i hi
      rwa [List.getD_eq_getElem?_getD, List.getElem?_eq_getElem hi] at this
  unfold twB
  rw [if_neg (by omega)]
  cases hd : dif l l.length with
  | true => rw [h1.mpr hd]; rfl
  | false =>
    cases ht : twL [] l with
    | none => rw [h1.mp ht] at hd; cases hd
    | some i => rfl
theorem tw_e (l : List ByteArray) (h : l.length ≤ 100) : twE l = 0 := by unfold twE; rw [if_neg (by omega)]

/-- Sorted of at most 49 strings -/
theorem sorted_few (a : Option Addr) (n cap : Nat) (l : List ByteArray) (w : World) (hr : Reads w a n l) (hn : n ≤ 49) (hcap : a = none → cap = 0) :
    Calls Try.prog 34 #[.slice a n cap] w fun e w' => ∃ a' cap', e = .returned (.tuple #[.slice a' n cap', .int .i64 0]) ∧ Reads w' a' n (srt l) ∧ n ≤ cap' ∧ (a' = none → cap' = 0) ∧ Below w.heap.size w w' := by
  have hl := hr.1
  refine (sorted_any a n cap l w hr (.inl hn) hcap).mono ?_
  rintro e w' ⟨a', cap', he, h1, h2, h3, h4⟩
  have hL : srtL l = srt l := by unfold srtL; rw [if_neg (by omega)]
  have hE : srtE l = 0 := by unfold srtE; rw [if_neg (by omega)]
  rw [hL, srt_len, ← hl] at h1 h2 he
  rw [hE] at he
  exact ⟨a', cap', he, h1, h2, h3, h4⟩
theorem short_to {x : Bool} (a : Option Addr) (n cap : Nat) (l : List ByteArray) (k : Nat) (w : World) (hr : Reads w a n l) (hn : n ≤ 1000000) (hk1 : k ≤ 1000) (hsz : ∀ x ∈ l, x.size ≤ maxLen) (h : shortB k l = x) :
    Calls Try.prog 33 #[.slice a n cap, .int .i64 k] w fun e w' => e = .returned (.bool x) ∧ w = w' := by
  subst h; exact short_any a n cap l k w hr hn hk1 hsz
theorem count_to {c : Int} (a : Option Addr) (n cap : Nat) (l : List ByteArray) (s : ByteArray) (w : World) (hr : Reads w a n l) (hn : n ≤ 1000000) (h : (cntL s l : Int) = c) :
    Calls Try.prog 37 #[.slice a n cap, .string s] w fun e w' => e = .returned (.int .i64 c) ∧ w = w' := by
  subst h; exact count_any a n cap l s w hr hn
theorem same_to {x : Bool} (a : Option Addr) (n cap : Nat) (l : List ByteArray) (c : Option Addr) (m cap2 : Nat) (k : List ByteArray) (w : World) (hr : Reads w a n l) (hr2 : Reads w c m k) (hn : n ≤ 1000000) (hm : m ≤ 1000000) (h : sameL l k = x) :
    Calls Try.prog 36 #[.slice a n cap, .slice c m cap2] w fun e w' => e = .returned (.bool x) ∧ Below w.heap.size w w' := by
  subst h; exact same_any a n cap l c m cap2 k w hr hr2 hn hm
theorem tw_to {x : Bool} (a : Option Addr) (n cap : Nat) (l : List ByteArray) (w : World) (hr : Reads w a n l) (hn : n ≤ 100) (hcap : n ≤ cap) (h : twB l = x) :
    Calls Try.prog 35 #[.slice a n cap] w fun e w' => e = .returned (.tuple #[.int .i64 (twN l), .bool x, .int .i64 0]) ∧ w = w' := by
  subst h
  have := twice_any a n cap l w hr (by omega) hcap
  rwa [tw_e l (by have := hr.1; omega)] at this
end Go.Proofs.Ytgfnajpmaaomnaa
