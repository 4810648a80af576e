/- Contracts of slices.Index and slices.Contains at []string, and of layer 3's Language, Check, Small, Capital, Compare. -/
import Derived.Test.YtgfnajpmaaomnaaCk
namespace Go.Proofs.Ytgfnajpmaaomnaa
open Go.ChangeShapes Go.WideShapes Go.ChangeAt Go.RowKit
set_option linter.unusedVariables false

/-- the cells of a slice of strings -/
def Strs (w : World) (b off : Nat) (l : List ByteArray) : Prop := ∀ i, i < l.length → w.cell? ⟨b, off + i, none⟩ = some (.string (l.getD i ByteArray.empty))
/-- a slice value that reads as a list of strings: nil or with cells -/
def Reads (w : World) (a : Option Addr) (n : Nat) (l : List ByteArray) : Prop := n = l.length ∧ (n = 0 ∨ ∃ b off, a = some ⟨b, off, none⟩ ∧ Strs w b off l)

/-- the place of the first equal string from place k on; -1 if there is none -/
def idxF (s : ByteArray) : List ByteArray → Nat → Int
  | [], _ => -1
  | x :: l, k => if s = x then (k : Int) else idxF s l (k + 1)

theorem drop_cons (l : List ByteArray) (k : Nat) (h : k < l.length) : l.drop k = l.getD k ByteArray.empty :: l.drop (k + 1) := by
  rw [List.drop_eq_getElem_cons h]; simp [List.getD_eq_getElem?_getD, h]

theorem eqT (a b : ByteArray) (h : a = b) : (a.toList == b.toList) = true := by rw [h]; simp
theorem eqF (a b : ByteArray) (h : ¬ a = b) : (a.toList == b.toList) = false := by
  rw [beq_eq_false_iff_ne]
  intro h2
  apply h
  rw [ByteArray.toList_eq, ByteArray.toList_eq] at h2
  exact ByteArray.ext (Array.toList_inj.1 h2)

set_option maxHeartbeats 400000 in
theorem index_any (a : Option Addr) (n cap : Nat) (l : List ByteArray) (s : ByteArray) (w : World) (hr : Reads w a n l) (hn : n ≤ 1000000) :
    Calls Try.prog 59 #[.slice a n cap, .string s] w fun e w' => e = .returned (.int .i64 (idxF s l 0)) ∧ w = w' := by
  obtain ⟨rfl, hc⟩ := hr
  have hc := Lib.hid hc
  go_enter Try.func59, Try.ntmps59
  go_wp2
  go_loopg [8] l.length (fun k i wr => ∃ pos : Nat, wr = w ∧ i = .int .i64 pos ∧ pos + k = l.length ∧ idxF s (l.drop pos) pos = idxF s l 0)
  case atStart => exact ⟨0, rfl, rfl, by omega, rfl⟩
  case round =>
    obtain ⟨pos, rfl, rfl, hk, hg⟩ := hrel
    by_cases hp : pos < l.length
    · rcases hc.out with hz | ⟨b, off, rfl, hst⟩
      · omega
      · have hcell := hst pos (by omega)
        have hd := drop_cons l pos (by omega)
        generalize l.getD pos ByteArray.empty = x at hcell hd
        rw [hd] at hg
        have hpz : 0 ≤ (pos : Int) := by omega
        by_cases hx : s = x
        · have hxb := eqT s x hx
          have hG := Lib.hid (hg.symm.trans (by simp [idxF, hx]) : idxF s l 0 = pos)
          clear hg hd hc hx hst
          go_wp2_with fail
          go_ret
          exact ⟨ret_int hG.out.symm, rfl⟩
        · have hxb := eqF s x hx
          have hG := Lib.hid ((show idxF s (x :: List.drop (pos + 1) l) pos = idxF s (List.drop (pos + 1) l) (pos + 1) by simp [idxF, hx]).symm.trans hg)
          clear hg hd hc hx hst
          go_wp2_with fail
          go_roundg (l.length - (pos + 1))
          case measure => omega
          case rel => exact ⟨pos + 1, rfl, by go_num, by omega, hG.out⟩
    · have hps : pos = l.length := by omega
      have hG := Lib.hid hg
      clear hg hc
      have hf := hG.out
      rw [List.drop_of_length_le (by omega)] at hf
      have hF := Lib.hid hf
      clear hf hps hk hG
      go_wp2
      go_ret
      exact ⟨ret_int hF.out, rfl⟩

def hasB (s : ByteArray) (l : List ByteArray) : Bool := l.any fun x => decide (s = x)

theorem idxF_ge (s : ByteArray) : ∀ l k, (idxF s l k = -1 ∧ hasB s l = false) ∨ ((k : Int) ≤ idxF s l k ∧ idxF s l k < k + l.length ∧ hasB s l = true)
  | [], k => by simp [idxF, hasB]
  | x :: l, k => by
    by_cases h : s = x
    · right
      refine ⟨by simp [idxF, h], by simp [idxF, h]; omega, by simp [hasB, h]⟩
    · have := idxF_ge s l (k + 1)
      simp only [idxF, h, if_false, hasB, List.any_cons, decide_false, Bool.false_or]
      rcases this with ⟨h1, h2⟩ | ⟨h1, h2, h3⟩
      · exact .inl ⟨h1, h2⟩
      · right; refine ⟨by omega, by simp only [List.length_cons]; omega, h3⟩

theorem contains_any (a : Option Addr) (n cap : Nat) (l : List ByteArray) (s : ByteArray) (w : World) (hr : Reads w a n l) (hn : n ≤ 1000000) :
    Calls Try.prog 51 #[.slice a n cap, .string s] w fun e w' => e = .returned (.bool (hasB s l)) ∧ w = w' := by
  have hi : decide (0 ≤ idxF s l 0) = hasB s l := by
    rcases idxF_ge s l 0 with ⟨h1, h2⟩ | ⟨h1, _, h2⟩
    · rw [h1, h2]; decide
    · rw [h2]; simpa using h1
  have hI := Lib.hid (index_any a n cap l s w hr hn)
  rw [← hi]
  clear hr hi
  generalize idxF s l 0 = k at *
  go_enter Try.func51, Try.ntmps51
  go_wp2_with fail
  refine (hI.out).mono ?_
  rintro e w' ⟨rfl, rfl⟩
  go_wp2_with fail
  go_ret
  exact ⟨ret_bool rfl, rfl⟩

def words : List ByteArray := [⟨#[108, 111, 111, 107, 97, 104, 101, 97, 100]⟩, ⟨#[116, 111, 107, 101, 110]⟩, ⟨#[115, 101, 112, 97, 114, 97, 116, 111, 114]⟩, ⟨#[115, 116, 97, 114, 116]⟩]
theorem lang_words (s : ByteArray) : hasB s words = langB s := by simp [hasB, words, langB]

set_option maxHeartbeats 400000 in
theorem lang_any (s : ByteArray) (w : World) : Calls Try.prog 24 #[.string s] w fun e w' => e = .returned (.bool (langB s)) ∧ Below w.heap.size w w' := by
  go_enter Try.func24, Try.ntmps24
  go_wp2_with fail
  refine (contains_any _ 4 4 words s _ ⟨rfl, .inr ⟨w.heap.size, 0, rfl, ?_⟩⟩ (by omega)).mono ?_
  · intro i hi
    have : i = 0 ∨ i = 1 ∨ i = 2 ∨ i = 3 := by simp [words] at hi; omega
    rcases this with rfl | rfl | rfl | rfl <;> simp [words]
  · rintro e w' ⟨rfl, rfl⟩
    rw [lang_words]
    go_wp2_with fail
    go_ret
    exact ⟨rfl, (Below.refl _ _).alloc (Nat.le_refl _) _⟩

theorem dec_tl (s : ByteArray) (l : List UInt8) : decide (s = ⟨l.toArray⟩) = (s.toList == l) := by
  by_cases h : s = ⟨l.toArray⟩
  · rw [decide_eq_true h, h]; simp
  · have h2 := eqF s _ h
    have h3 : (⟨l.toArray⟩ : ByteArray).toList = l := ByteArray.toList_mk l
    rw [h3] at h2
    rw [h2, decide_eq_false h]

theorem langB_tl (s : ByteArray) : langB s = (s.toList == [108, 111, 111, 107, 97, 104, 101, 97, 100] || (s.toList == [116, 111, 107, 101, 110] || (s.toList == [115, 101, 112, 97, 114, 97, 116, 111, 114] || s.toList == [115, 116, 97, 114, 116]))) := by
  unfold langB
  rw [← dec_tl, ← dec_tl, ← dec_tl, ← dec_tl]

set_option maxHeartbeats 400000 in
theorem rlang_any (s : ByteArray) (w : World) : Calls Try.prog 25 #[.string s] w fun e w' => e = .returned (.bool (langB s)) ∧ w = w' := by
  have hL := Lib.hid (langB_tl s)
  generalize langB s = x at *
  go_enter Try.func25, Try.ntmps25
  go_wp2
  all_goals
    go_ret
    exact ⟨ret_bool (by rw [hL.out]; first | (simp only [Bool.or_assoc]; done) | (simp [*]; done)), rfl⟩

theorem check_any (s : ByteArray) (w : World) (hs : s.size ≤ maxLen) : Calls Try.prog 18 #[.string s] w fun e w' => e = .returned (.int .i64 (checkE s)) ∧ Below w.heap.size w w' := by
  by_cases h0 : wordE s = 0
  · cases hl : langB s
    · have hC : checkE s = 0 := by simp [checkE, h0, hl]
      rw [hC]
      go_enter Try.func18, Try.ntmps18
      go_wp2_with fail
      refine (word_any s _ hs).mono ?_
      rintro e w1 ⟨rfl, hb1⟩
      rw [h0]
      go_wp2_with fail
      refine (lang_any s _).mono ?_
      rintro e w2 ⟨rfl, hb2⟩
      rw [hl]
      go_wp2_with fail
      go_ret
      exact ⟨rfl, hb1.trans (hb2.mono hb1.size)⟩
    · have hC : checkE s = 12 := by simp [checkE, h0, hl]
      rw [hC]
      go_enter Try.func18, Try.ntmps18
      go_wp2_with fail
      refine (word_any s _ hs).mono ?_
      rintro e w1 ⟨rfl, hb1⟩
      rw [h0]
      go_wp2_with fail
      refine (lang_any s _).mono ?_
      rintro e w2 ⟨rfl, hb2⟩
      rw [hl]
      go_wp2_with fail
      go_ret
      exact ⟨rfl, hb1.trans (hb2.mono hb1.size)⟩
  · have hC : checkE s = wordE s := by simp [checkE, h0]
    have h0b : (wordE s == 0) = false := by simpa using h0
    rw [hC]
    clear hC h0
    go_enter Try.func18, Try.ntmps18
    go_wp2_with fail
    refine (word_any s _ hs).mono ?_
    rintro e w1 ⟨rfl, hb1⟩
    go_wp2_with fail
    go_ret
    exact ⟨rfl, hb1⟩

theorem rcheck_any (s : ByteArray) (w : World) (hs : s.size ≤ maxLen) : Calls Try.prog 26 #[.string s] w fun e w' => e = .returned (.int .i64 (checkE s)) ∧ w = w' := by
  by_cases h0 : wordE s = 0
  · cases hl : langB s
    · have hC : checkE s = 0 := by simp [checkE, h0, hl]
      rw [hC]
      go_enter Try.func26, Try.ntmps26
      go_wp2_with fail
      refine (rword_any s _ hs).mono ?_
      rintro e w1 ⟨rfl, rfl⟩
      rw [h0]
      go_wp2_with fail
      refine (rlang_any s _).mono ?_
      rintro e w2 ⟨rfl, rfl⟩
      rw [hl]
      go_wp2_with fail
      go_ret
      exact ⟨rfl, rfl⟩
    · have hC : checkE s = 12 := by simp [checkE, h0, hl]
      rw [hC]
      go_enter Try.func26, Try.ntmps26
      go_wp2_with fail
      refine (rword_any s _ hs).mono ?_
      rintro e w1 ⟨rfl, rfl⟩
      rw [h0]
      go_wp2_with fail
      refine (rlang_any s _).mono ?_
      rintro e w2 ⟨rfl, rfl⟩
      rw [hl]
      go_wp2_with fail
      go_ret
      exact ⟨rfl, rfl⟩
  · have hC : checkE s = wordE s := by simp [checkE, h0]
    have h0b : (wordE s == 0) = false := by simpa using h0
    rw [hC]
    clear hC h0
    go_enter Try.func26, Try.ntmps26
    go_wp2_with fail
    refine (rword_any s _ hs).mono ?_
    rintro e w1 ⟨rfl, rfl⟩
    go_wp2_with fail
    go_ret
    exact ⟨rfl, rfl⟩
end Go.Proofs.Ytgfnajpmaaomnaa
