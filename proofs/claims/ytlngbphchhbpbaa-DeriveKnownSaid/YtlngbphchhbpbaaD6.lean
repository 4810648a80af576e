/- Walks and plain laws, part 6 of 8: Spans as keys; what a form derives of a string, by places; derive.Derives' ends: the walk; How many spans there are; the rounds of Derives, plainly; derive.Derives: the walk; less, ends of the law; what ends in terminals derives itself; Productions of the call's own; The kit's OwnGrammar; The kit's Any. Conditions: none beyond those that each theorem states. -/
import Derived.Test.YtlngbphchhbpbaaD5
import Derived.Laws.BitsAllLaws
import Derived.Deep.RegionHeld3
import Derived.Deep.LoopGhost
import Derived.Laws.IdiomStrings
/- Spans as keys; what a form derives of a string, by places. -/
namespace Go.Proofs.Ytlngbphchhbpbaa
open Go.ChangeShapes Go.WideShapes Go.ChangeAt Go.RowKit
set_option linter.unusedVariables false

/-- a symbol, and two places -/
structure Sp where
  a : Int
  i : Int
  j : Int
  deriving DecidableEq, Inhabited
def spv (x : Sp) : Value := .agg #[.int .i64 x.a, .int .i64 x.i, .int .i64 x.j]
def spok (x : Sp) : Prop := (0 ≤ x.a ∧ x.a < 1000) ∧ (0 ≤ x.i ∧ x.i < 1000) ∧ (0 ≤ x.j ∧ x.j < 1000)
theorem wf_small {n : Int} (h : 0 ≤ n ∧ n < 1000) : (Lit.int .i64 n).wf = true := by
  have e1 : IntKind.i64.min = -9223372036854775808 := by decide
  have e2 : IntKind.i64.max = 9223372036854775807 := by decide
  simp [Lit.wf, e1, e2]
  omega
theorem spv_inj {x y : Sp} (h : spv x = spv y) : x = y := by
  cases x; cases y
  simp [spv] at h
  simp [h]
theorem underS : Try.prog.underlying 79 = some (.struct (Try.prog.fieldsOf 79)) := by kernel_rfl
theorem spanKeyed : Maps.Keyed Try.prog 79 := Maps.Keyed.of_law (deep_law_gate (P := Try.prog) (k := 79) (by kernel_rfl) (of_decide_eq_true (by kernel_rfl)) (of_decide_eq_true (by kernel_rfl)) (by kernel_rfl) (by kernel_rfl))
theorem fieldsS : ∃ f0 f1 f2 : Field, Try.prog.fieldsOf 79 = #[f0, f1, f2] ∧ f0.name = "symbol" ∧ f0.type = 3 ∧ f0.offset = 0 ∧ f1.name = "from" ∧ f1.type = 3 ∧ f1.offset = 1 ∧ f2.name = "to" ∧ f2.type = 3 ∧ f2.offset = 2 := by
  refine ⟨(Try.prog.fieldsOf 79)[0]!, (Try.prog.fieldsOf 79)[1]!, (Try.prog.fieldsOf 79)[2]!, by kernel_rfl, by kernel_rfl, by kernel_rfl, by kernel_rfl, by kernel_rfl, by kernel_rfl, by kernel_rfl, by kernel_rfl, by kernel_rfl, by kernel_rfl⟩
theorem cellsS : Try.prog.cellsOf 79 = 3 := by kernel_rfl
theorem keyTS : Try.prog.keyType 79 = true := by kernel_rfl
theorem span_key (x : Sp) (h : spok x) : ∃ l, keyOf Try.prog 79 (spv x) = some l := by
  obtain ⟨d, hd⟩ := sizeTypes
  obtain ⟨f0, f1, f2, hf, n0, t0, o0, n1, t1, o1, n2, t2, o2⟩ := fieldsS
  have w0 := wf_small h.1
  have w1 := wf_small h.2.1
  have w2 := wf_small h.2.2
  have hk : Try.prog.keyLits (Try.prog.types.size + 1) 79 (spv x).cells.toList = some [.int .i64 x.a, .int .i64 x.i, .int .i64 x.j] := by
    rw [hd]
    unfold Program.keyLits; rw [underS, hf]
    simp [spv, Value.cells, cellsS, cellsInt, n0, t0, o0, n1, t1, o1, n2, t2, o2, litsInt, w0, w1, w2]
  have hfo : Value.formed Try.prog 79 (spv x) = true := by
    simp [Value.formed, spv, cellsS]
  unfold keyOf
  rw [underS]
  show ∃ l, (if (Try.prog.keyType 79 && Value.formed Try.prog 79 (spv x)) = true then (Try.prog.keyLits (Try.prog.types.size + 1) 79 (spv x).cells.toList).map (fun ls => Lit.string (keyBytes ls)) else none) = some l
  rw [if_pos (by rw [keyTS, hfo]; rfl), hk]
  exact ⟨_, rfl⟩
def spanKey : KeyEnc Sp where
  K := 79
  enc := spv
  ok := spok
  keyed := spanKeyed
  key := span_key
  inj := fun x y _ _ h => spv_inj h
theorem under76 : Try.prog.underlying 76 = some (.map spanKey.K 4) := by kernel_rfl

/-- what a symbol may take from place m to place j -/
def StepS (K : List Sp) (str : List Int) (s : Int) (m j : Nat) : Prop :=
  (s < 16 ∧ str[m]? = some s ∧ j = m + 1) ∨ (16 ≤ s ∧ m ≤ j ∧ j ≤ str.length ∧ (⟨s, m, j⟩ : Sp) ∈ K)
/-- what a form may take -/
inductive Ek (K : List Sp) (str : List Int) : List Int → Nat → Nat → Prop
  | nil (i : Nat) : Ek K str [] i i
  | cons (s : Int) (f : List Int) (i m j : Nat) (h : StepS K str s i m) (hf : Ek K str f m j) : Ek K str (s :: f) i j
theorem ek_nil {K : List Sp} {str : List Int} {i j : Nat} (h : Ek K str [] i j) : i = j := by cases h; rfl
theorem ek_cons {K : List Sp} {str : List Int} {s : Int} {f : List Int} {i j : Nat} (h : Ek K str (s :: f) i j) : ∃ m, StepS K str s i m ∧ Ek K str f m j := by
  cases h with | cons _ _ _ m _ h hf => exact ⟨m, h, hf⟩
theorem ek_snoc {K : List Sp} {str : List Int} {s : Int} : ∀ {f : List Int} {i j : Nat}, Ek K str (f ++ [s]) i j ↔ ∃ m, Ek K str f i m ∧ StepS K str s m j
  | [], i, j => by
    constructor
    · intro h
      obtain ⟨m, h1, h2⟩ := ek_cons h
      have := ek_nil h2
      subst this
      exact ⟨i, .nil i, h1⟩
    · rintro ⟨m, h1, h2⟩
      have := ek_nil h1
      subst this
      exact .cons s [] i j j h2 (.nil j)
  | a :: f, i, j => by
    constructor
    · intro h
      obtain ⟨m, h1, h2⟩ := ek_cons h
      obtain ⟨q, h3, h4⟩ := (ek_snoc (f := f)).1 h2
      exact ⟨q, .cons a f i m q h1 h3, h4⟩
    · rintro ⟨q, h3, h4⟩
      obtain ⟨m, h1, h2⟩ := ek_cons h3
      exact .cons a (f ++ [s]) i m j h1 ((ek_snoc (f := f)).2 ⟨q, h2, h4⟩)
theorem step_le {K : List Sp} {str : List Int} {s : Int} {m j : Nat} (h : StepS K str s m j) : m ≤ j ∧ j ≤ str.length := by
  rcases h with ⟨_, h, rfl⟩ | ⟨_, h1, h2, _⟩
  · have := (List.getElem?_eq_some_iff.1 h).1; omega
  · exact ⟨h1, h2⟩
theorem ek_le {K : List Sp} {str : List Int} {f : List Int} {i j : Nat} (h : Ek K str f i j) : i ≤ j ∧ (i ≤ str.length → j ≤ str.length) := by
  induction h with
  | nil i => exact ⟨Nat.le_refl _, id⟩
  | cons s f i m j h _ ih =>
    have := step_le h
    exact ⟨by omega, fun _ => ih.2 (by omega)⟩
/-- a part of a string -/
def cutS (str : List Int) (i j : Nat) : List Int := (str.drop i).take (j - i)
theorem cutS_same (str : List Int) (i : Nat) : cutS str i i = [] := by simp [cutS]
theorem cutS_app (str : List Int) {i m j : Nat} (h1 : i ≤ m) (h2 : m ≤ j) : cutS str i j = cutS str i m ++ cutS str m j := by
  unfold cutS
  have e : j - i = (m - i) + (j - m) := by omega
  rw [e, List.take_add, List.drop_drop]
  congr 3
  omega
theorem cutS_one (str : List Int) {m : Nat} {s : Int} (h : str[m]? = some s) : cutS str m (m + 1) = [s] := by
  obtain ⟨h1, rfl⟩ := List.getElem?_eq_some_iff.1 h
  unfold cutS
  rw [List.drop_eq_getElem_cons h1, show m + 1 - m = 1 by omega]
  rfl
theorem cutS_len (str : List Int) {i j : Nat} (h1 : i ≤ j) (h2 : j ≤ str.length) : (cutS str i j).length = j - i := by
  simp [cutS]; omega
theorem cutS_all (str : List Int) : cutS str 0 str.length = str := by simp [cutS]
/-- spans that are right -/
def SndK (ps : List Pr) (str : List Int) (K : List Sp) : Prop := ∀ x ∈ K, ∃ i j : Nat, x.i = i ∧ x.j = j ∧ i ≤ j ∧ j ≤ str.length ∧ Yld ps x.a (cutS str i j)
/-- all spans that the productions make of them -/
def ClsK (ps : List Pr) (str : List Int) (K : List Sp) : Prop := ∀ p ∈ ps, ∀ i j : Nat, i ≤ str.length → Ek K str p.right i j → (⟨p.left, i, j⟩ : Sp) ∈ K
theorem ek_der {ps : List Pr} {str : List Int} {K : List Sp} (hS : SndK ps str K) {f : List Int} {i j : Nat} (h : Ek K str f i j) : Der ps f (cutS str i j) := by
  induction h with
  | nil i => rw [cutS_same]; exact .nil
  | cons s f i m j h hf ih =>
    have h1 := step_le h
    have h2 := (ek_le hf).1
    rw [cutS_app str h1.1 h2]
    rcases h with ⟨h3, h4, rfl⟩ | ⟨h3, h4, h5, h6⟩
    · rw [cutS_one str h4]
      exact .term s f _ h3 ih
    · obtain ⟨i', j', e1, e2, _, _, ⟨p, hp, e3, hd⟩⟩ := hS _ h6
      dsimp only at e1 e2 e3
      have e4 : i' = i := by omega
      have e5 : j' = m := by omega
      rw [e4, e5] at hd
      rw [← e3]
      exact .nont p f _ _ hp (by omega) hd ih
theorem der_ek {ps : List Pr} {str : List Int} {K : List Sp} (hC : ClsK ps str K) {f w : List Int} (h : Der ps f w) : ∀ i j : Nat, i ≤ j → j ≤ str.length → cutS str i j = w → Ek K str f i j := by
  induction h with
  | nil =>
    intro i j h1 h2 e
    have := cutS_len str h1 h2
    rw [e] at this
    have : i = j := by simp at this; omega
    subst this; exact .nil i
  | term s f w h _ ih =>
    intro i j h1 h2 e
    have hl := cutS_len str h1 h2
    rw [e] at hl
    have hij : i < j := by simp at hl; omega
    have hx : str[i]? = some str[i] := List.getElem?_eq_getElem (by omega)
    rw [cutS_app str (show i ≤ i + 1 by omega) (show i + 1 ≤ j by omega), cutS_one str hx] at e
    injection e with e1 e2
    exact .cons s f i (i + 1) j (.inl ⟨h, by rw [hx, e1], rfl⟩) (ih (i + 1) j (by omega) h2 e2)
  | nont p f u w hp h _ _ ihu ihw =>
    intro i j h1 h2 e
    have hl := cutS_len str h1 h2
    rw [e, List.length_append] at hl
    have hm : i + u.length ≤ j := by omega
    rw [cutS_app str (show i ≤ i + u.length by omega) hm] at e
    have hl1 := cutS_len str (show i ≤ i + u.length by omega) (show i + u.length ≤ str.length by omega)
    have e1 := List.append_inj_left e (by omega)
    have e2 := List.append_inj_right e (by omega)
    refine .cons _ f i (i + u.length) j (.inr ⟨h, by omega, by omega, ?_⟩) (ihw _ j hm h2 e2)
    exact hC p hp i (i + u.length) (by omega) (ihu i _ (by omega) (by omega) e1)
theorem ek_iff {ps : List Pr} {str : List Int} {K : List Sp} (hS : SndK ps str K) (hC : ClsK ps str K) (f : List Int) : Ek K str f 0 str.length ↔ Der ps f str := by
  constructor
  · intro h
    have := ek_der hS h
    rwa [cutS_all] at this
  · intro h
    exact der_ek hC h 0 str.length (by omega) (Nat.le_refl _) (cutS_all str)
end Go.Proofs.Ytlngbphchhbpbaa

/- derive.Derives' ends: the walk. -/
namespace Go.Proofs.Ytlngbphchhbpbaa
open Go.ChangeShapes Go.WideShapes Go.ChangeAt Go.RowKit
set_option linter.unusedVariables false

/-- the bits of a mask -/
def Bits (M : Nat) (P : Nat → Prop) : Prop := M < 8192 ∧ ∀ j, M.testBit j = true ↔ P j
theorem wrap2 (i : Nat) (h : i ≤ 13) : IntKind.u16.wrap (2 ^ i) = ((2 ^ i : Nat) : Int) := by
  rw [IntKind.wrap_u16]
  have h1 : 2 ^ i ≤ 2 ^ 13 := Nat.pow_le_pow_right (by omega) h
  have e : ((2 : Int) ^ i) = ((2 ^ i : Nat) : Int) := by simp
  rw [e]
  generalize 2 ^ i = x at *
  omega
theorem and1 (M i : Nat) (h : M < 8192) : bits .and .u16 ((M : Int) / 2 ^ i) 1 = ((M / 2 ^ i % 2 : Nat) : Int) := by
  have e : (M : Int) / 2 ^ i = ((M / 2 ^ i : Nat) : Int) := by simp
  have h1 : M / 2 ^ i ≤ M := Nat.div_le_self _ _
  rw [e, show (1 : Int) = ((1 : Nat) : Int) from rfl, u16_and_nat _ _ (by omega) (by omega), Nat.and_one_is_mod]
theorem or2 (M i : Nat) (h : M < 8192) (hi : i ≤ 12) : bits .or .u16 (M : Int) (IntKind.u16.wrap (2 ^ i)) = ((M ||| 2 ^ i : Nat) : Int) := by
  have h1 : 2 ^ i ≤ 2 ^ 12 := Nat.pow_le_pow_right (by omega) hi
  rw [wrap2 i (by omega), u16_or_nat _ _ (by omega) (by omega)]
theorem or_lt (M i : Nat) (h : M < 8192) (hi : i ≤ 12) : M ||| 2 ^ i < 8192 := by
  have h1 : 2 ^ i ≤ 2 ^ 12 := Nat.pow_le_pow_right (by omega) hi
  exact Nat.or_lt_two_pow (n := 13) h (by omega)
theorem bit_yes {M i : Nat} (h : M < 8192) (hb : M.testBit i = true) : bits .and .u16 ((M : Int) / 2 ^ i) 1 = 1 := by
  rw [and1 M i h]
  rw [Nat.testBit_eq_decide_div_mod_eq, decide_eq_true_iff] at hb
  rw [hb]; rfl
theorem bit_no {M i : Nat} (h : M < 8192) (hb : M.testBit i = false) : bits .and .u16 ((M : Int) / 2 ^ i) 1 = 0 := by
  rw [and1 M i h]
  rw [Nat.testBit_eq_decide_div_mod_eq, decide_eq_false_iff_not] at hb
  have : M / 2 ^ i % 2 = 0 := by omega
  rw [this]; rfl
theorem Bits.one (i : Nat) (h : i ≤ 12) : Bits (2 ^ i) (fun j => i = j) := by
  have h1 : 2 ^ i ≤ 2 ^ 12 := Nat.pow_le_pow_right (by omega) h
  exact ⟨by omega, fun j => by rw [Nat.testBit_two_pow]; simp⟩
theorem Bits.zero : Bits 0 (fun _ => False) := ⟨by omega, fun j => by simp⟩
theorem Bits.imp {M : Nat} {P Q : Nat → Prop} (h : Bits M P) (hq : ∀ j, P j ↔ Q j) : Bits M Q := ⟨h.1, fun j => (h.2 j).trans (hq j)⟩
theorem Bits.or {M i : Nat} {P : Nat → Prop} (h : Bits M P) (hi : i ≤ 12) : Bits (M ||| 2 ^ i) (fun j => P j ∨ i = j) :=
  ⟨or_lt M i h.1 hi, fun j => by rw [Nat.testBit_or, Bool.or_eq_true, h.2 j, Nat.testBit_two_pow]; simp⟩

set_option maxRecDepth 100000 in
set_option maxHeartbeats 2000000 in
theorem ends_any (K : List Sp) (str f : List Int) (A SA : Option Addr) (k c n sc Bq Bk mb fr : Nat) (w : World) (B : Nat) (hf : Rd1 w B A k (ints f)) (hs : Rd1 w B SA n (ints str)) (hq : Blk w Bq 26 #[.slice SA n sc]) (hk : Blk w Bk 76 #[.map (some mb)]) (hM : MapK spanKey w mb K)
    (hk2 : k ≤ 1000) (hn : n ≤ 12) (hfr : fr ≤ n) (hsy : ∀ s ∈ f, s < 16 ∨ (16 ≤ s ∧ s < 1000)) :
    Calls Try.prog 45 #[.slice A k c, .int .i64 fr, .pointer (some ⟨Bq, 0, none⟩), .pointer (some ⟨Bk, 0, none⟩)] w fun e w' => (∃ M : Nat, e = .returned (.int .u16 M) ∧ Bits M (fun j => Ek K str f fr j)) ∧ w = w' := by
  have hfl : f.length = k := by have := hf.1; simpa [ints] using this
  have hsl : str.length = n := by have := hs.1; simpa [ints] using this
  have hsy' := Lib.hid hsy
  replace hfl := Lib.hid hfl
  replace hsl := Lib.hid hsl
  clear hsy
  have q0 : w.cell? ⟨Bq, 0, none⟩ = some (.slice SA n sc) := hq.cell 0
  have q1 : w.cell? ⟨Bk, 0, none⟩ = some (.map (some mb)) := hk.cell 0
  have hz0 : (0 : Int) ≤ fr := by omega
  have hz1 : (fr : Int) ≤ 16 := by omega
  go_enter Try.func45, Try.ntmps45
  go_wp2_with fail
  go_loopg [17, 7] k (fun gk s17 s7 wr => ∃ i M : Nat, s17 = .int .i64 i ∧ s7 = .int .u16 M ∧ i + gk = k ∧ Hid (Bits M (fun j => Ek K str (f.take i) fr j)) ∧ w = wr)
  case atStart => exact ⟨0, 2 ^ fr, rfl, by rw [wrap2 fr (by omega)], by omega, Lib.hid ((Bits.one fr (by omega)).imp fun j => ⟨fun h => by subst h; exact .nil fr, fun h => ek_nil h⟩), rfl⟩
  case round =>
    obtain ⟨i, M, rfl, rfl, hi, hB, rfl⟩ := hrel
    replace hi := Lib.hid hi
    by_cases hin : i < k
    · have hil : i < f.length := by have := hfl.out; omega
      have hx : f[i]? = some f[i] := List.getElem?_eq_getElem hil
      obtain ⟨b, off, rfl, hbt, x0⟩ := hf.get (show (ints f)[i]? = some (.int .i64 f[i]) by rw [ints, List.getElem?_map, hx]; rfl)
      have htk := take_snocG hx
      have hsb := hsy'.out _ (List.getElem_mem hil)
      generalize f[i] = s at *
      replace hx := Lib.hid hx
      replace htk := Lib.hid htk
      have hzi : (0 : Int) ≤ i := by omega
      have hzk : (i : Int) < k := by omega
      go_wp2_with fail
      go_loopg [24, 10] (n + 1) (fun gk s24 s10 wr => ∃ m N : Nat, s24 = .int .i64 m ∧ s10 = .int .u16 N ∧ m + gk = n + 1 ∧ Hid (Bits N (fun j => ∃ q, q < m ∧ M.testBit q = true ∧ StepS K str s q j)) ∧ w = wr)
      case atStart => exact ⟨0, 0, rfl, rfl, by omega, Lib.hid (Bits.zero.imp fun j => ⟨fun h => h.elim, fun ⟨q, h, _⟩ => by omega⟩), rfl⟩
      case round =>
        obtain ⟨m, N, rfl, rfl, hm, hN, rfl⟩ := hrel
        replace hm := Lib.hid hm
        by_cases hmn : m < n + 1
        · have hzm : (0 : Int) ≤ m := by omega
          have hzm2 : (m : Int) < n + 1 := by omega
          have hzm3 : (m : Int) ≤ 16 := by omega
          by_cases hb : M.testBit m = true
          · have hbit := bit_yes hB.out.1 hb
            replace hb := Lib.hid hb
            by_cases h16 : s < 16
            · have hd : decide (16 ≤ s) = false := decide_eq_false (by omega)
              clear hsb
              replace h16 := Lib.hid h16
              have skip : (∀ j, ¬ StepS K str s m j) → Hid (Bits N (fun j => ∃ q, q < m + 1 ∧ M.testBit q = true ∧ StepS K str s q j)) := fun hno => Lib.hid (hN.out.imp fun j => ⟨fun ⟨q, h1, h2⟩ => ⟨q, by omega, h2⟩, fun ⟨q, h1, h2, h3⟩ => by
                by_cases e : q = m
                · subst e; exact absurd h3 (hno j)
                · exact ⟨q, by omega, h2, h3⟩⟩)
              by_cases hmn3 : m < n
              · have hml : m < str.length := by have := hsl.out; omega
                have hy : str[m]? = some str[m] := List.getElem?_eq_getElem hml
                obtain ⟨sb, soff, rfl, hsbt, y0⟩ := hs.get (show (ints str)[m]? = some (.int .i64 str[m]) by rw [ints, List.getElem?_map, hy]; rfl)
                generalize str[m] = u at *
                have hzn : (m : Int) < n := by omega
                by_cases hus : u = s
                · subst hus
                  have hN2 : Hid (Bits (N ||| 2 ^ (m + 1)) (fun j => ∃ q, q < m + 1 ∧ M.testBit q = true ∧ StepS K str u q j)) := Lib.hid ((hN.out.or (i := m + 1) (by omega)).imp fun j => by
                    constructor
                    · rintro (⟨q, h1, h2⟩ | h)
                      · exact ⟨q, by omega, h2⟩
                      · exact ⟨m, by omega, hb.out, .inl ⟨h16.out, hy, h.symm⟩⟩
                    · rintro ⟨q, h1, h2, h3⟩
                      by_cases e : q = m
                      · subst e
                        rcases h3 with ⟨_, _, h4⟩ | ⟨h4, _⟩
                        · exact .inr h4.symm
                        · have := h16.out; omega
                      · exact .inl ⟨q, by omega, h2, h3⟩)
                  replace hy := Lib.hid hy
                  clear skip
                  go_wp2_with (go_at_call 33; refine (isnt_any u _).mono ?_; rintro e w3 ⟨rfl, rfl⟩; rw [hd])
                  go_roundg (n + 1 - (m + 1))
                  case measure => have := hm.out; omega
                  case rel => exact ⟨m + 1, N ||| 2 ^ (m + 1), by go_num, by rw [or2 N (m + 1) hN.out.1 (by omega)], by have := hm.out; omega, hN2, rfl⟩
                · have hN2 := skip fun j h => by
                    rcases h with ⟨_, h4, _⟩ | ⟨h4, _⟩
                    · rw [hy] at h4; injection h4 with h4; exact hus h4
                    · have := h16.out; omega
                  have hus2 : (u == s) = false := by simpa using hus
                  replace hy := Lib.hid hy
                  clear skip hus
                  go_wp2_with (go_at_call 33; refine (isnt_any s _).mono ?_; rintro e w3 ⟨rfl, rfl⟩; rw [hd])
                  go_roundg (n + 1 - (m + 1))
                  case measure => have := hm.out; omega
                  case rel => exact ⟨m + 1, N, by go_num, rfl, by have := hm.out; omega, hN2, rfl⟩
              · have hN2 := skip fun j h => by
                  rcases h with ⟨_, h4, _⟩ | ⟨h4, _⟩
                  · have := (List.getElem?_eq_some_iff.1 h4).1; have := hsl.out; omega
                  · have := h16.out; omega
                have hzn : ¬ (m : Int) < n := by omega
                clear skip
                go_wp2_with (go_at_call 33; refine (isnt_any s _).mono ?_; rintro e w3 ⟨rfl, rfl⟩; rw [hd])
                go_roundg (n + 1 - (m + 1))
                case measure => have := hm.out; omega
                case rel => exact ⟨m + 1, N, by go_num, rfl, by have := hm.out; omega, hN2, rfl⟩
            · have hd : decide (16 ≤ s) = true := decide_eq_true (by omega)
              have hs16 : 16 ≤ s := by omega
              have hs1000 : s < 1000 := by omega
              clear hsb h16
              go_wp2_with (go_at_call 33; refine (isnt_any s _).mono ?_; rintro e w3 ⟨rfl, rfl⟩; rw [hd])
              go_loopg [12, 10] (n + 1) (fun gk s12 s10 wr => ∃ j N2 : Nat, s12 = .int .i64 j ∧ s10 = .int .u16 N2 ∧ m ≤ j ∧ j ≤ n + 1 ∧ gk + j = n + 1 + m ∧ Hid (Bits N2 (fun q => (∃ r, r < m ∧ M.testBit r = true ∧ StepS K str s r q) ∨ (q < j ∧ StepS K str s m q))) ∧ w = wr)
              case atStart => exact ⟨m, N, rfl, rfl, Nat.le_refl _, by omega, by omega, Lib.hid (hN.out.imp fun q => ⟨fun h => .inl h, fun h => h.elim id fun ⟨h1, h2⟩ => by have := (step_le h2).1; omega⟩), rfl⟩
              case round =>
                obtain ⟨j, N2, rfl, rfl, hmj, hjn, hj, hN2, rfl⟩ := hrel
                replace hj := Lib.hid hj
                by_cases hjl : j ≤ n
                · have hzj : (0 : Int) ≤ j := by omega
                  have hzj2 : (j : Int) ≤ n := by omega
                  have hzj3 : (j : Int) ≤ 16 := by omega
                  have hok : spok ⟨s, m, j⟩ := ⟨⟨by simp only; omega, hs1000⟩, ⟨by simp only; omega, by simp only; omega⟩, ⟨by simp only; omega, by simp only; omega⟩⟩
                  replace hok := Lib.hid hok
                  by_cases hmem : (⟨s, m, j⟩ : Sp) ∈ K
                  · have hdm : true = true ↔ (⟨s, m, j⟩ : Sp) ∈ K := ⟨fun _ => hmem, fun _ => rfl⟩
                    have hN3 : Hid (Bits (N2 ||| 2 ^ j) (fun q => (∃ r, r < m ∧ M.testBit r = true ∧ StepS K str s r q) ∨ (q < j + 1 ∧ StepS K str s m q))) := Lib.hid ((hN2.out.or (i := j) (by omega)).imp fun q => by
                      constructor
                      · rintro ((h | ⟨h1, h2⟩) | rfl)
                        · exact .inl h
                        · exact .inr ⟨by omega, h2⟩
                        · exact .inr ⟨by omega, .inr ⟨hs16, hmj, by have := hsl.out; omega, hmem⟩⟩
                      · rintro (h | ⟨h1, h2⟩)
                        · exact .inl (.inl h)
                        · by_cases e : q = j
                          · exact .inr e.symm
                          · exact .inl (.inr ⟨by omega, h2⟩))
                    replace hdm := Lib.hid hdm
                    replace hmem := Lib.hid hmem
                    go_wp2_with (at_lookup; refine wpList_lookK (E := spanKey) _ under76 rfl _ _ rfl mb K ⟨s, m, j⟩ true hdm.out rfl rfl hM hok.out ?_)
                    go_roundg (n + m - j)
                    case measure => have := hj.out; omega
                    case rel => exact ⟨j + 1, N2 ||| 2 ^ j, by go_num, by rw [or2 N2 j hN2.out.1 (by omega)], by omega, by omega, by have := hj.out; omega, hN3, rfl⟩
                  · have hdm : false = true ↔ (⟨s, m, j⟩ : Sp) ∈ K := ⟨fun h => (by cases h), fun h => absurd h hmem⟩
                    have hN3 : Hid (Bits N2 (fun q => (∃ r, r < m ∧ M.testBit r = true ∧ StepS K str s r q) ∨ (q < j + 1 ∧ StepS K str s m q))) := Lib.hid (hN2.out.imp fun q => by
                      constructor
                      · rintro (h | ⟨h1, h2⟩)
                        · exact .inl h
                        · exact .inr ⟨by omega, h2⟩
                      · rintro (h | ⟨h1, h2⟩)
                        · exact .inl h
                        · by_cases e : q = j
                          · subst e
                            rcases h2 with ⟨h3, _⟩ | ⟨_, _, _, h3⟩
                            · omega
                            · exact absurd h3 hmem
                          · exact .inr ⟨by omega, h2⟩)
                    replace hdm := Lib.hid hdm
                    replace hmem := Lib.hid hmem
                    go_wp2_with (at_lookup; refine wpList_lookK (E := spanKey) _ under76 rfl _ _ rfl mb K ⟨s, m, j⟩ false hdm.out rfl rfl hM hok.out ?_)
                    go_roundg (n + m - j)
                    case measure => have := hj.out; omega
                    case rel => exact ⟨j + 1, N2, by go_num, rfl, by omega, by omega, by have := hj.out; omega, hN3, rfl⟩
                · have hzj2 : ¬ (j : Int) ≤ n := by omega
                  have hN3 : Hid (Bits N2 (fun q => ∃ r, r < m + 1 ∧ M.testBit r = true ∧ StepS K str s r q)) := Lib.hid (hN2.out.imp fun q => by
                    constructor
                    · rintro (⟨r, h1, h2⟩ | ⟨h1, h2⟩)
                      · exact ⟨r, by omega, h2⟩
                      · exact ⟨m, by omega, hb.out, h2⟩
                    · rintro ⟨r, h1, h2, h3⟩
                      by_cases e : r = m
                      · subst e
                        exact .inr ⟨by have := (step_le h3).2; have := hsl.out; omega, h3⟩
                      · exact .inl ⟨r, by omega, h2, h3⟩)
                  go_wp2_with fail
                  go_roundg (n + 1 - (m + 1))
                  case measure => have := hm.out; omega
                  case rel => exact ⟨m + 1, N2, by go_num, rfl, by have := hm.out; omega, hN3, rfl⟩
          · have hb2 : M.testBit m = false := by simpa using hb
            have hbit := bit_no hB.out.1 hb2
            clear hb
            have hN2 : Hid (Bits N (fun j => ∃ q, q < m + 1 ∧ M.testBit q = true ∧ StepS K str s q j)) := Lib.hid (hN.out.imp fun j => ⟨fun ⟨q, h1, h2⟩ => ⟨q, by omega, h2⟩, fun ⟨q, h1, h2, h3⟩ => by
              by_cases e : q = m
              · subst e; rw [hb2] at h2; cases h2
              · exact ⟨q, by omega, h2, h3⟩⟩)
            replace hb2 := Lib.hid hb2
            go_wp2_with fail
            go_roundg (n + 1 - (m + 1))
            case measure => have := hm.out; omega
            case rel => exact ⟨m + 1, N, by go_num, rfl, by have := hm.out; omega, hN2, rfl⟩
        · have hB2 : Hid (Bits N (fun j => Ek K str (f.take (i + 1)) fr j)) := Lib.hid (hN.out.imp fun j => by
            rw [htk.out, ek_snoc]
            constructor
            · rintro ⟨q, h1, h2, h3⟩; exact ⟨q, (hB.out.2 q).1 h2, h3⟩
            · rintro ⟨q, h1, h2⟩
              exact ⟨q, by have := (step_le h2); have := hsl.out; omega, (hB.out.2 q).2 h1, h2⟩)
          have hmn2 : ¬ (m : Int) < n + 1 := by omega
          go_wp2_with fail
          go_roundg (k - (i + 1))
          case measure => have := hi.out; omega
          case rel => exact ⟨i + 1, N, by go_num, rfl, by have := hi.out; omega, hB2, rfl⟩
    · have hik : i = k := by have := hi.out; omega
      have hB2 : Hid (Bits M (fun j => Ek K str f fr j)) := Lib.hid (by have := hB.out; rwa [List.take_of_length_le (by have := hfl.out; omega)] at this)
      go_wp2_with fail
      go_ret
      exact ⟨⟨M, rfl, hB2.out⟩, rfl⟩
end Go.Proofs.Ytlngbphchhbpbaa

/- How many spans there are; the rounds of Derives, plainly. -/
namespace Go.Proofs.Ytlngbphchhbpbaa
open Go.ChangeShapes Go.WideShapes Go.ChangeAt Go.RowKit
set_option linter.unusedVariables false

theorem nodup_lenS {α : Type} [DecidableEq α] {out s : List α} (h1 : out.Nodup) (h2 : ∀ x ∈ out, x ∈ s) : out.length ≤ s.length := by
  induction out generalizing s with
  | nil => simp
  | cons x out ih =>
    obtain ⟨hx, hn⟩ := List.nodup_cons.1 h1
    have hm := h2 x List.mem_cons_self
    have := ih (s := s.erase x) hn (fun y hy => (List.mem_erase_of_ne (by rintro rfl; exact hx hy)).2 (h2 y (List.mem_cons_of_mem _ hy)))
    rw [List.length_erase_of_mem hm] at this
    have : 0 < s.length := List.length_pos_of_mem hm
    simp; omega
/-- all spans of a short string -/
def univS : List Sp := (List.range 8).flatMap fun (a : Nat) => (List.range 13).flatMap fun (i : Nat) => (List.range 13).map fun (j : Nat) => (⟨16 + (a : Int), (i : Int), (j : Int)⟩ : Sp)
theorem univS_len : univS.length = 1352 := by
  simp [univS, List.length_flatMap]
  rfl
theorem sndK_len {ps : List Pr} {str : List Int} {K : List Sp} {n : Nat} (hS : SndK ps str K) (hN : K.Nodup) (hn : n ≤ 8) (hl : ∀ p ∈ ps, 16 ≤ p.left ∧ p.left < 16 + (n : Int)) (hs : str.length ≤ 12) : K.length ≤ 1352 := by
  rw [← univS_len]
  refine nodup_lenS hN fun x hx => ?_
  obtain ⟨i, j, e1, e2, h1, h2, p, hp, e3, _⟩ := hS x hx
  have h3 := hl p hp
  obtain ⟨xa, xi, xj⟩ := x
  dsimp only at e1 e2 e3
  subst e1; subst e2; subst e3
  simp only [univS, List.mem_flatMap, List.mem_map, List.mem_range]
  obtain ⟨q, hq⟩ := Int.eq_ofNat_of_zero_le (show 0 ≤ p.left - 16 by omega)
  exact ⟨q, by omega, i, by omega, j, by omega, by congr 1; omega⟩
/-- what may have come of spans K: nothing, and then P holds, or more of them -/
def Gro (K0 K : List Sp) (g0 g : Bool) (P : Prop) : Prop := (g = g0 ∧ K = K0 ∧ P) ∨ (g = true ∧ K0.length < K.length)
theorem Gro.go {K0 K1 K2 : List Sp} {g0 g1 g2 : Bool} {P Q R : Prop} (h : Gro K0 K1 g0 g1 P) (k : Gro K1 K2 g1 g2 Q) (hr : K1 = K0 → P → Q → R) : Gro K0 K2 g0 g2 R := by
  rcases h with ⟨rfl, rfl, hp⟩ | ⟨rfl, h2⟩
  · rcases k with ⟨rfl, rfl, hq⟩ | ⟨rfl, k2⟩
    · exact .inl ⟨rfl, rfl, hr rfl hp hq⟩
    · exact .inr ⟨rfl, k2⟩
  · rcases k with ⟨rfl, rfl, hq⟩ | ⟨rfl, k2⟩
    · exact .inr ⟨rfl, h2⟩
    · exact .inr ⟨rfl, by omega⟩
/-- a span more -/
theorem sndK_more {ps : List Pr} {str : List Int} {K K1 : List Sp} (hS : SndK ps str K) (h1 : SndK ps str K1) {p : Pr} (hp : p ∈ ps) {i j : Nat} (hi : i ≤ str.length) (he : Ek K1 str p.right i j) : SndK ps str (K ++ [⟨p.left, i, j⟩]) := by
  intro x hx
  rcases List.mem_append.1 hx with hx | hx
  · exact hS x hx
  · have : x = ⟨p.left, i, j⟩ := by simpa using hx
    subst this
    have h2 := ek_le he
    exact ⟨i, j, rfl, rfl, h2.1, h2.2 hi, p, hp, rfl, ek_der h1 he⟩
theorem sndK_nil (ps : List Pr) (str : List Int) : SndK ps str [] := fun x hx => by cases hx
/-- one production, up to a first place -/
def PI (str : List Int) (p : Pr) (m : Nat) (K : List Sp) : Prop := ∀ a b : Nat, a < m → Ek K str p.right a b → (⟨p.left, a, b⟩ : Sp) ∈ K
/-- the first productions, at all places -/
def PP (ps : List Pr) (str : List Int) (i : Nat) (K : List Sp) : Prop := ∀ p ∈ ps.take i, PI str p (str.length + 1) K
theorem PI.start (str : List Int) (p : Pr) (K : List Sp) : PI str p 0 K := fun a b h => by omega
theorem PP.start (ps : List Pr) (str : List Int) (K : List Sp) : PP ps str 0 K := fun p hp => by simp at hp
theorem PI.more {str : List Int} {p : Pr} {m : Nat} {K : List Sp} (h : PI str p m K) (k : ∀ b : Nat, b < str.length + 1 → Ek K str p.right m b → (⟨p.left, m, b⟩ : Sp) ∈ K) (hm : m ≤ str.length) : PI str p (m + 1) K := by
  intro a b ha he
  by_cases h1 : a = m
  · subst h1
    exact k b (by have := (ek_le he).2 hm; omega) he
  · exact h a b (by omega) he
theorem PP.more {ps : List Pr} {str : List Int} {i : Nat} {p : Pr} {K : List Sp} (h : PP ps str i K) (ht : ps.take (i + 1) = ps.take i ++ [p]) (k : PI str p (str.length + 1) K) : PP ps str (i + 1) K := by
  intro q hq
  rw [ht] at hq
  rcases List.mem_append.1 hq with hq | hq
  · exact h q hq
  · have : q = p := by simpa using hq
    subst this; exact k
theorem PP.cls {ps : List Pr} {str : List Int} {i : Nat} {K : List Sp} (h : PP ps str i K) (hi : ps.length ≤ i) : ClsK ps str K := by
  intro p hp a b ha he
  rw [PP, List.take_of_length_le hi] at h
  exact h p hp a b (by omega) he
end Go.Proofs.Ytlngbphchhbpbaa

/- derive.Derives: the walk. -/
namespace Go.Proofs.Ytlngbphchhbpbaa
open Go.ChangeShapes Go.WideShapes Go.ChangeAt Go.RowKit
set_option linter.unusedVariables false

/-- what Derives hands back -/
def RetDv (g : Gr) (f str : List Int) (w : World) (e : Ending) (w' : World) : Prop := ∃ b : Bool, e = .returned (.tuple #[.bool b, .int .i64 0]) ∧ (b = true ↔ Der g.prods f str) ∧ Below w.heap.size w w'
theorem turned_below {B : Nat} {w w' : World} {b : Nat} (h : w.mapTurned w' b) (hb : B ≤ b) (hB : B ≤ w.heap.size) : Below B w w' :=
  (Below.refl _ _).grown (turned_grown h) hB (fun j hj => by cases hj; exact hb)
/-- the state of Derives -/
def DS (w : World) (g : Gr) (a : GA) (Bq Bk mb : Nat) (SA : Option Addr) (n sc : Nat) (K : List Sp) (W : World) : Prop :=
  GB w g a W ∧ Blk W Bq 26 #[.slice SA n sc] ∧ Blk W Bk 76 #[.map (some mb)] ∧ MapK spanKey W mb K ∧ w.heap.size < mb
section
variable {w W W' : World} {g : Gr} {a : GA} {Bq Bk mb : Nat} {SA : Option Addr} {n sc : Nat} {K K' : List Sp}
theorem DS.step (h : DS w g a Bq Bk mb SA n sc K W) (hb : Below W.heap.size W W') : DS w g a Bq Bk mb SA n sc K W' :=
  ⟨h.1.step hb, h.2.1.step hb, h.2.2.1.step hb, h.2.2.2.1.step hb, h.2.2.2.2⟩
theorem DS.turn (h : DS w g a Bq Bk mb SA n sc K W) (ht : W.mapTurned W' mb) (hM : MapK spanKey W' mb K') : DS w g a Bq Bk mb SA n sc K' W' := by
  have hg := turned_grown ht
  obtain ⟨h1, h2, h3, h4, h5⟩ := h
  refine ⟨h1.grown hg (fun k hk => by injection hk with hk; omega), h2.grown hg ?_, h3.grown hg ?_, hM, h5⟩
  · intro e; injection e with e; exact mapk_blk h4 h2 e.symm
  · intro e; injection e with e; exact mapk_blk h4 h3 e.symm
end
theorem Bits.uniq {M M' : Nat} {P : Nat → Prop} (h : Bits M P) (k : Bits M' P) : M = M' := by
  apply Nat.eq_of_testBit_eq
  intro j
  rw [Bool.eq_iff_iff, h.2 j, k.2 j]
theorem shr_fact {M : Nat} (j : Nat) : ((M : Int) / 2 ^ j) = ((M / 2 ^ j : Nat) : Int) := by simp

set_option maxRecDepth 100000 in
set_option maxHeartbeats 4000000 in
theorem derives_any (g : Gr) (a : GA) (A SA : Option Addr) (k c n sc : Nat) (f str : List Int) (w : World) (hg : GrAt w w.heap.size g a) (hok : gchk g = 0) (hf : Rd1 w w.heap.size A k (ints f)) (hs : Rd1 w w.heap.size SA n (ints str))
    (hk : k ≤ 200) (hn12 : n ≤ 12) (hfs : ∀ s ∈ f, syB g s = true) (hss : ∀ x ∈ str, 0 ≤ x ∧ x < (g.toks.length : Int)) :
    Calls Try.prog 22 #[gval g a, .slice A k c, .slice SA n sc] w (RetDv g f str w) := by
  obtain ⟨ta, tc, na, nc, pa, pc⟩ := a
  have hfl : f.length = k := by have := hf.1; simpa [ints] using this
  have hsl : str.length = n := by have := hs.1; simpa [ints] using this
  have hG0 := GB.start hg
  have hC := Lib.hid (fun (W : World) (h : GrAt W W.heap.size g ⟨ta, tc, na, nc, pa, pc⟩) (h2 : Rd1 W W.heap.size A k (ints f)) => fcheck_any g ⟨ta, tc, na, nc, pa, pc⟩ A k c f W h (small_of hok) h2 (by unfold maxLen; omega))
  rw [fchk_ok hok (by omega) hfs] at hC
  have hR := Lib.hid (fun (b : Bool) (w' : World) (h1 : b = true ↔ Der g.prods f str) (h2 : Below w.heap.size w w') => (show RetDv g f str w (.returned (.tuple #[.bool b, .int .i64 0])) w' from ⟨b, rfl, h1, h2⟩))
  have hkk := gok_of hok
  obtain ⟨t, ht⟩ : ∃ t, t = g.toks.length := ⟨_, rfl⟩
  obtain ⟨m, hm⟩ : ∃ m, m = g.prods.length := ⟨_, rfl⟩
  have ht8 : t ≤ 8 := by rw [ht]; exact hkk.tk.2
  have hm24 : m ≤ 24 := by rw [hm]; exact hkk.pl
  have hfsy := Lib.hid (show ∀ s ∈ f, s < 16 ∨ (16 ≤ s ∧ s < 1000) from fun s h => by
    have := hfs s h
    unfold syB tmB ntB at this
    rw [Bool.or_eq_true, decide_eq_true_iff, decide_eq_true_iff] at this
    have := hkk.tk.2; have := hkk.nm.2
    omega)
  rw [← ht] at hss
  replace hss := Lib.hid hss
  replace hkk := Lib.hid hkk
  replace hfl := Lib.hid hfl
  replace hsl := Lib.hid hsl
  clear hg hok hfs
  unfold gval at *
  unfold gcells at *
  dsimp only at *
  rw [← ht, ← hm] at hG0 hC ⊢
  replace ht := Lib.hid ht
  replace hm := Lib.hid hm
  have hzk : (0 : Int) ≤ k := by omega
  have hzn : (0 : Int) ≤ n := by omega
  generalize hRd : RetDv g f str w = R at *
  replace hRd := Lib.hid hRd
  go_enter Try.func22, Try.ntmps22
  go_upto_region 1 with (fail)
  have qs0 : Blk ((w.alloc (.cells #[.int .i64 g.k, .slice ta t tc, .string g.sep, .slice na g.names.length nc, .int .i64 g.start, .slice pa m pc] 25)).alloc (.cells #[.slice SA n sc] 26)) (w.heap.size + 1) 26 #[.slice SA n sc] := Blk.newAt _ _ _ _ (by simp)
  have hG1 := hG0.alloc (.cells #[.slice SA n sc] 26)
  clear hG0
  generalize (w.alloc (.cells #[.int .i64 g.k, .slice ta t tc, .string g.sep, .slice na g.names.length nc, .int .i64 g.start, .slice pa m pc] 25)).alloc (.cells #[.slice SA n sc] 26) = w1 at *
  obtain ⟨c0, c1, c2, c3, c4, c5⟩ := hG1.cells
  dsimp only at c1 c3 c5
  rw [← ht.out] at c1
  rw [← hm.out] at c5
  go_upto_region 2 with (go_at_call 14; refine (hC.out _ (hG1.2.1.mono hG1.2.2.size) ((hf.below hG1.2.2).mono hG1.2.2.size)).mono ?_; rintro e w2 ⟨rfl, hb2⟩)
  have hG2 := hG1.step hb2
  have qs2 := qs0.step hb2
  clear hG1 qs0 c0 c1 c2 c3 c4 c5 hb2 hC
  obtain ⟨c0, c1, c2, c3, c4, c5⟩ := hG2.cells
  dsimp only at c1 c3 c5
  rw [← ht.out] at c1
  clear c0 c2 c3 c4 c5
  have d0 : w2.cell? ⟨w.heap.size + 1, 0, none⟩ = some (.slice SA n sc) := qs2.cell 0
  have hz1 : ¬ (12 : Int) < n := by omega
  go_wp2_with fail
  have hs2 := hs.below hG2.2.2
  go_loopg [31] n (fun gk s31 wr => ∃ i : Nat, s31 = .int .i64 i ∧ i + gk = n ∧ wr = w2)
  case atStart => exact ⟨0, rfl, by omega, rfl⟩
  case round =>
    obtain ⟨i, rfl, hi, rfl⟩ := hrel
    replace hi := Lib.hid hi
    by_cases hin : i < n
    · have hil : i < str.length := by have := hsl.out; omega
      have hx : str[i]? = some str[i] := List.getElem?_eq_getElem hil
      obtain ⟨b, off, rfl, hbt, x0⟩ := hs2.get (show (ints str)[i]? = some (.int .i64 str[i]) by rw [ints, List.getElem?_map, hx]; rfl)
      have hxb := hss.out _ (List.getElem_mem hil)
      generalize str[i] = x at *
      replace hx := Lib.hid hx
      obtain ⟨hx0, hx1⟩ := hxb
      have hzi : (0 : Int) ≤ i := by omega
      have hzin : (i : Int) < n := by omega
      go_wp2_with fail
      go_roundg (n - (i + 1))
      case measure => have := hi.out; omega
      case rel => exact ⟨i + 1, by go_num, by have := hi.out; omega, rfl⟩
    · clear hs2 hi
      have hmm := @run_makeMap Try.prog
      have hin' : ¬ (i : Int) < n := by omega
      go_upto_region 13 with (fail)
      have qs3 := (qs2.alloc (.map #[] 0)).alloc (.cells #[.map (some wr.heap.size)] 76)
      have hG3 := (hG2.alloc (.map #[] 0)).alloc (.cells #[.map (some wr.heap.size)] 76)
      have qk3 : Blk ((wr.alloc (.map #[] 0)).alloc (.cells #[.map (some wr.heap.size)] 76)) (wr.heap.size + 1) 76 #[.map (some wr.heap.size)] := Blk.newAt _ _ _ _ (by simp)
      have hM3 : MapK spanKey ((wr.alloc (.map #[] 0)).alloc (.cells #[.map (some wr.heap.size)] 76)) wr.heap.size [] := (mapk_new spanKey wr wr.heap.size rfl).step (bAlc (Below.refl _ _) _)
      have hD : DS w g ⟨ta, tc, na, nc, pa, pc⟩ (w.heap.size + 1) (wr.heap.size + 1) wr.heap.size SA n sc [] ((wr.alloc (.map #[] 0)).alloc (.cells #[.map (some wr.heap.size)] 76)) := ⟨hG3, qs3, qk3, hM3, hG2.lt⟩
      clear qs3 hG3 qk3 hM3 hG2 qs2 d0 c1 hmm hin' hin hz1
      generalize (wr.alloc (.map #[] 0)).alloc (.cells #[.map (some wr.heap.size)] 76) = w3 at *
      generalize wr.heap.size = mb at *
      go_wp2_with fail
      go_loopg [13] 1353 (fun gk s13 wr => ∃ (K : List Sp) (gr : Bool), s13 = .bool gr ∧ Hid (gk = if gr = true then 1353 - K.length else 0) ∧ DS w g ⟨ta, tc, na, nc, pa, pc⟩ (w.heap.size + 1) (mb + 1) mb SA n sc K wr ∧ Hid (SndK g.prods str K) ∧ Hid (gr = false → ClsK g.prods str K))
      case atStart => exact ⟨[], true, rfl, Lib.hid (by simp), hD, Lib.hid (sndK_nil _ _), Lib.hid (fun h => by cases h)⟩
      case round =>
        clear hD
        obtain ⟨K, gr, rfl, hgk, hD, hS, hCl⟩ := hrel
        cases gr with
        | false =>
          have hcls := hCl.out rfl
          have hiff := ek_iff hS.out hcls f
          clear hCl hgk
          obtain ⟨M, hB, hE⟩ : ∃ M : Nat, Bits M (fun j => Ek K str f 0 j) ∧ ∀ q : KeptBy wr, Calls Try.prog 45 #[.slice A k c, .int .i64 0, .pointer (some ⟨w.heap.size + 1, 0, none⟩), .pointer (some ⟨mb + 1, 0, none⟩)] q.world fun e w' => e = .returned (.int .u16 M) ∧ q.world = w' := by
            have h0 := fun (q : KeptBy wr) => ends_any K str f A SA k c n sc (w.heap.size + 1) (mb + 1) mb 0 q.world w.heap.size ((hf.below hD.1.2.2).below (q.kept.mono hD.1.2.2.size)) ((hs.below hD.1.2.2).below (q.kept.mono hD.1.2.2.size)) (hD.step q.kept).2.1 (hD.step q.kept).2.2.1 (hD.step q.kept).2.2.2.1 (by omega) hn12 (by omega) hfsy.out
            obtain ⟨e, w', fr, ⟨⟨M, _, hB⟩, _⟩, _⟩ := h0 (KeptBy.self wr) []
            refine ⟨M, hB, fun q => (h0 q).mono ?_⟩
            rintro e w' ⟨⟨M', rfl, hB'⟩, hw⟩
            rw [hB.uniq hB']; exact ⟨rfl, hw⟩
          have hbi := hB.2 n
          rw [← hsl.out] at hbi
          replace hbi := Lib.hid (hbi.trans hiff)
          rw [hsl.out] at hbi
          have hq := hD.2.1.cell 0
          simp only [List.getElem?_toArray, List.getElem?_cons_zero] at hq
          have k1 := cell_kept hq
          have hbw := Lib.hid hD.1.2.2
          have hM8 := hB.1
          clear hD hS hcls hiff hB
          replace hE := Lib.hid hE
          by_cases hb : M.testBit n = true
          · have hbit := bit_yes hM8 hb
            have hfin := Lib.hid (show true = true ↔ Der g.prods f str from ⟨fun _ => hbi.out.1 hb, fun _ => rfl⟩)
            replace hb := Lib.hid hb
            go_upto_region 32 with (fail)
            refine wp_region_kept (by kernel_rfl) (by kernel_rfl) ?_
            repeat (go_big_quiet_step ((go_at_call 45; exact Calls.kept_same (hE.out _))))
            refine wpQuiet_nil ?_
            rintro _ ⟨q, rfl⟩
            have hqk := q.kept
            clear hE k1 hq
            go_wp2_with fail
            exact hR.out _ _ (by simpa using hfin.out) (bStep hbw.out hqk)
          · have hb2 : M.testBit n = false := by simpa using hb
            have hbit := bit_no hM8 hb2
            have hfin := Lib.hid (show false = true ↔ Der g.prods f str from ⟨fun h => (by cases h), fun h => absurd (hbi.out.2 h) hb⟩)
            replace hb2 := Lib.hid hb2
            clear hb
            go_upto_region 32 with (fail)
            refine wp_region_kept (by kernel_rfl) (by kernel_rfl) ?_
            repeat (go_big_quiet_step ((go_at_call 45; exact Calls.kept_same (hE.out _))))
            refine wpQuiet_nil ?_
            rintro _ ⟨q, rfl⟩
            have hqk := q.kept
            clear hE k1 hq
            go_wp2_with fail
            exact hR.out _ _ (by simpa using hfin.out) (bStep hbw.out hqk)
        | true =>
          clear hCl
          obtain ⟨c0, c1, c2, c3, c4, c5⟩ := hD.1.cells
          dsimp only at c5
          rw [← hm.out] at c5
          clear c0 c1 c2 c3 c4
          have hKl : K.length ≤ 1352 := sndK_len hS.out hD.2.2.2.1.nodup hkk.out.nm.2 (fun p hp => (hkk.out.pr p hp).1) (by rw [hsl.out]; exact hn12)
          replace hKl := Lib.hid hKl
          go_wp2_with fail
          clear c5
          have hD' := hD
          go_loopg [51, 13] m (fun gk2 s51 s13 wr => ∃ (i : Nat) (K1 : List Sp) (gr1 : Bool), s51 = .int .i64 i ∧ s13 = .bool gr1 ∧ i + gk2 = m ∧ DS w g ⟨ta, tc, na, nc, pa, pc⟩ (w.heap.size + 1) (mb + 1) mb SA n sc K1 wr ∧ Hid (SndK g.prods str K1) ∧ Hid (Gro K K1 false gr1 (PP g.prods str i K)))
          case atStart => exact ⟨0, K, false, rfl, rfl, by omega, hD', hS, Lib.hid (.inl ⟨rfl, rfl, PP.start _ _ _⟩)⟩
          case round =>
            clear hD hD'
            obtain ⟨i, K1, gr1, rfl, rfl, hi, hD, hS1, hG1⟩ := hrel
            replace hi := Lib.hid hi
            by_cases hin : i < m
            · have hil : i < g.prods.length := by have := hm.out; omega
              have hxi : g.prods[i]? = some g.prods[i] := List.getElem?_eq_getElem hil
              obtain ⟨b, off, rfl, hbt, y0, RA, rc, y1, hRd, hrl, hrm⟩ := hD.1.2.1.prods.get hxi
              have hpm := List.getElem_mem hil
              have htk : g.prods.take (i + 1) = g.prods.take i ++ [g.prods[i]] := List.take_succ_eq_append_getElem hil
              have hok := hkk.out.pr _ hpm
              generalize g.prods[i] = p at *
              obtain ⟨pl, pr⟩ := p
              dsimp only at y0 y1 hRd hrl hok
              have hl16 := hok.1.1
              have hl24 : pl < 24 := by have := hok.1.2; have := hkk.out.nm.2; omega
              have hpsy := Lib.hid (show ∀ s ∈ pr, s < 16 ∨ (16 ≤ s ∧ s < 1000) from fun s h => by
                have := hok.2.2 s h
                have := hkk.out.tk.2; have := hkk.out.nm.2
                omega)
              have hpr6 := hok.2.1
              clear hok
              replace hxi := Lib.hid hxi
              replace htk := Lib.hid htk
              replace hpm := Lib.hid hpm
              have hzi : (0 : Int) ≤ i := by omega
              have hzim : (i : Int) < m := by omega
              have hmul : (i : Int) * 2 ≤ 100 := by omega
              go_upto_region 20 with (fail)
              have hD3 := hD.step (bAlc (Below.refl _ _) (.cells #[.int .i64 pl, .slice RA pr.length rc] 49))
              have qp3 : Blk (wr.alloc (.cells #[.int .i64 pl, .slice RA pr.length rc] 49)) wr.heap.size 49 #[.int .i64 pl, .slice RA pr.length rc] := Blk.new _ _ _
              have hRd3 : Rd1 (wr.alloc (.cells #[.int .i64 pl, .slice RA pr.length rc] 49)) w.heap.size RA pr.length (ints pr) := hRd.below ((bAlc (Below.refl _ _) (.cells #[.int .i64 pl, .slice RA pr.length rc] 49)).mono hD.1.2.2.size)
              have hBp := hD.2.2.1.lt
              have hBp2 : mb < wr.heap.size := hD.2.2.2.1.lt
              clear hD hRd y0 y1
              generalize wr.alloc (.cells #[.int .i64 pl, .slice RA pr.length rc] 49) = W3 at *
              generalize wr.heap.size = Bp at *
              have d0 := hD3.2.1.cell 0
              simp only [List.getElem?_toArray, List.getElem?_cons_zero] at d0
              go_wp2_with fail
              clear d0
              go_loopg [58, 13] (n + 1) (fun gk3 s58 s13 wr => ∃ (v : Nat) (K2 : List Sp) (gr2 : Bool), s58 = .int .i64 v ∧ s13 = .bool gr2 ∧ v + gk3 = n + 1 ∧ DS w g ⟨ta, tc, na, nc, some ⟨b, off, none⟩, pc⟩ (w.heap.size + 1) (mb + 1) mb SA n sc K2 wr ∧ Blk wr Bp 49 #[.int .i64 pl, .slice RA pr.length rc] ∧ Rd1 wr w.heap.size RA pr.length (ints pr) ∧ Hid (SndK g.prods str K2) ∧ Hid (Gro K1 K2 gr1 gr2 (PI str ⟨pl, pr⟩ v K1)))
              case atStart => exact ⟨0, K1, gr1, rfl, rfl, by omega, hD3, qp3, hRd3, hS1, Lib.hid (.inl ⟨rfl, rfl, PI.start _ _ _⟩)⟩
              case round =>
                clear hD3 qp3 hRd3
                obtain ⟨v, K2, gr2, rfl, rfl, hv, hD, qp, hRd, hS2, hG2⟩ := hrel
                replace hv := Lib.hid hv
                by_cases hvn : v < n + 1
                · have hzv : (0 : Int) ≤ v := by omega
                  have hzv2 : (v : Int) < n + 1 := by omega
                  have p0 := qp.cell 0
                  have p1 := qp.cell 1
                  have d0 := hD.2.1.cell 0
                  simp only [List.getElem?_toArray, List.getElem?_cons_zero, List.getElem?_cons_succ] at p0 p1 d0
                  have hE := Lib.hid (ends_any K2 str pr RA SA pr.length rc n sc (w.heap.size + 1) (mb + 1) mb v wr w.heap.size hRd (hs.below hD.1.2.2) hD.2.1 hD.2.2.1 hD.2.2.2.1 (by omega) hn12 (by omega) hpsy.out)
                  go_wp2_with (go_at_call 45; refine hE.out.mono ?_; rintro e w5 ⟨⟨M, rfl, hB⟩, rfl⟩)
                  clear p0 p1 d0 hE
                  have hM8 := hB.1
                  replace hB := Lib.hid hB
                  go_loopg [18, 13] (n + 1 - v) (fun gk4 s18 s13 wr => ∃ (j : Nat) (K3 : List Sp) (gr3 : Bool), s18 = .int .i64 j ∧ s13 = .bool gr3 ∧ v ≤ j ∧ j + gk4 = n + 1 ∧ DS w g ⟨ta, tc, na, nc, some ⟨b, off, none⟩, pc⟩ (w.heap.size + 1) (mb + 1) mb SA n sc K3 wr ∧ Blk wr Bp 49 #[.int .i64 pl, .slice RA pr.length rc] ∧ Rd1 wr w.heap.size RA pr.length (ints pr) ∧ Hid (SndK g.prods str K3) ∧ Hid (Gro K2 K3 gr2 gr3 (∀ b : Nat, b < j → Ek K2 str pr v b → (⟨pl, v, b⟩ : Sp) ∈ K2)))
                  case atStart => exact ⟨v, K2, gr2, rfl, rfl, Nat.le_refl _, by omega, hD, qp, hRd, hS2, Lib.hid (.inl ⟨rfl, rfl, fun b h1 h2 => by have := (ek_le h2).1; omega⟩)⟩
                  case round =>
                    clear hD qp hRd
                    obtain ⟨j, K3, gr3, rfl, rfl, hvj, hj, hD, qp, hRd, hS3, hG3⟩ := hrel
                    replace hj := Lib.hid hj
                    by_cases hjn : j ≤ n
                    · have hzj : (0 : Int) ≤ j := by omega
                      have hzj2 : (j : Int) ≤ n := by omega
                      have p0 := qp.cell 0
                      have d0 := hD.2.1.cell 0
                      simp only [List.getElem?_toArray, List.getElem?_cons_zero, List.getElem?_cons_succ] at p0 d0
                      have hok : spok ⟨pl, v, j⟩ := ⟨⟨by simp only; omega, by simp only; omega⟩, ⟨by simp only; omega, by simp only; omega⟩, ⟨by simp only; omega, by simp only; omega⟩⟩
                      replace hok := Lib.hid hok
                      go_upto_region 28 with (fail)
                      have hD5 := hD.step (bAlc (Below.refl _ _) (.cells #[.int .i64 pl, .int .i64 v, .int .i64 j] 79))
                      have qp5 := qp.step (bAlc (Below.refl _ _) (.cells #[.int .i64 pl, .int .i64 v, .int .i64 j] 79))
                      have hRd5 : Rd1 (wr.alloc (.cells #[.int .i64 pl, .int .i64 v, .int .i64 j] 79)) w.heap.size RA pr.length (ints pr) := hRd.below ((bAlc (Below.refl _ _) _).mono hD.1.2.2.size)
                      have qj : Blk (wr.alloc (.cells #[.int .i64 pl, .int .i64 v, .int .i64 j] 79)) wr.heap.size 79 #[.int .i64 pl, .int .i64 v, .int .i64 j] := Blk.new _ _ _
                      have hBl : Bp < wr.heap.size := qp.lt
                      have hwl : w.heap.size < wr.heap.size := hD.1.lt
                      clear hD qp hRd p0 d0
                      generalize wr.alloc (.cells #[.int .i64 pl, .int .i64 v, .int .i64 j] 79) = W5 at *
                      generalize wr.heap.size = Bj at *
                      have k0 := hD5.2.2.1.cell 0
                      have j0 := qj.cell 0
                      have j1 := qj.cell 1
                      have j2 := qj.cell 2
                      simp only [List.getElem?_toArray, List.getElem?_cons_zero, List.getElem?_cons_succ] at k0 j0 j1 j2
                      have skip : (∀ (hb : M.testBit j = true), (⟨pl, v, j⟩ : Sp) ∈ K3) → Hid (Gro K2 K3 gr2 gr3 (∀ b : Nat, b < j + 1 → Ek K2 str pr v b → (⟨pl, v, b⟩ : Sp) ∈ K2)) := fun hno => Lib.hid (by
                        rcases hG3.out with ⟨a1, a2, a3⟩ | a
                        · refine .inl ⟨a1, a2, fun b h1 h2 => ?_⟩
                          by_cases e : b = j
                          · subst e
                            rw [← a2]
                            exact hno ((hB.out.2 b).2 h2)
                          · exact a3 b (by omega) h2
                        · exact .inr a)
                      by_cases hb : M.testBit j = true
                      · have hbit := bit_yes hM8 hb
                        by_cases hmem : (⟨pl, v, j⟩ : Sp) ∈ K3
                        · have hG4 := skip fun _ => hmem
                          have hl := hD5.2.2.2.1.look under76 ⟨pl, v, j⟩ hok.out
                          rw [decide_eq_true hmem] at hl
                          replace hl : (Instr.lookup 76 (.map (some mb)) (.agg #[.int .i64 pl, .int .i64 v, .int .i64 j]) false).run Try.prog W5 = .ok (.bool true) W5 := hl
                          replace hmem := Lib.hid hmem
                          replace hb := Lib.hid hb
                          clear skip
                          go_wp2_with fail
                          go_roundg (n + 1 - (j + 1))
                          case measure => have := hj.out; omega
                          case rel => exact ⟨j + 1, K3, gr3, by go_num, rfl, by omega, by have := hj.out; omega, hD5, qp5, hRd5, hS3, hG4⟩
                        · have hl := hD5.2.2.2.1.look under76 ⟨pl, v, j⟩ hok.out
                          rw [decide_eq_false hmem] at hl
                          replace hl : (Instr.lookup 76 (.map (some mb)) (.agg #[.int .i64 pl, .int .i64 v, .int .i64 j]) false).run Try.prog W5 = .ok (.bool false) W5 := hl
                          have hek := (hB.out.2 j).1 hb
                          have hS4 := Lib.hid (sndK_more hS3.out hS2.out hpm.out (by have := hsl.out; omega : v ≤ str.length) hek)
                          have hG4 : Hid (Gro K2 (K3 ++ [(⟨pl, v, j⟩ : Sp)]) gr2 true (∀ b : Nat, b < j + 1 → Ek K2 str pr v b → (⟨pl, v, b⟩ : Sp) ∈ K2)) := Lib.hid (by
                            right
                            refine ⟨rfl, ?_⟩
                            rw [List.length_append]
                            rcases hG3.out with ⟨_, a2, _⟩ | ⟨_, a2⟩
                            · rw [a2]; simp
                            · simp; omega)
                          have hor : Hid (((⟨pl, v, j⟩ : Sp) ∈ K3 ∧ K3 ++ [(⟨pl, v, j⟩ : Sp)] = K3) ∨ ((⟨pl, v, j⟩ : Sp) ∉ K3 ∧ K3 ++ [(⟨pl, v, j⟩ : Sp)] = K3 ++ [(⟨pl, v, j⟩ : Sp)])) := Lib.hid (.inr ⟨hmem, rfl⟩)
                          replace hmem := Lib.hid hmem
                          replace hb := Lib.hid hb
                          replace hek := Lib.hid hek
                          clear skip
                          have hM5 := hD5.2.2.2.1
                          go_wp2_with (at_mapUpdate; refine wpList_layK (E := spanKey) _ under76 rfl _ _ _ rfl mb K3 (K3 ++ [(⟨pl, v, j⟩ : Sp)]) ⟨pl, v, j⟩ hor.out rfl rfl rfl hM5 hok.out ?_; intro W6 hM6 ht6)
                          have hbe := turned_below (B := w.heap.size) ht6 (Nat.le_of_lt hD5.2.2.2.2) hD5.1.2.2.size
                          have qp6 : Blk W6 Bp 49 #[.int .i64 pl, .slice RA pr.length rc] := qp5.grown (turned_grown ht6) (fun e => by injection e with e; exact mapk_blk hM5 qp5 e.symm)
                          go_roundg (n + 1 - (j + 1))
                          case measure => have := hj.out; omega
                          case rel => exact ⟨j + 1, K3 ++ [⟨pl, v, j⟩], true, by go_num, rfl, by omega, by have := hj.out; omega, hD5.turn ht6 hM6, qp6, hRd5.below hbe, hS4, hG4⟩
                      · have hb2 : M.testBit j = false := by simpa using hb
                        have hbit := bit_no hM8 hb2
                        have hG4 := skip fun h => absurd h hb
                        replace hb2 := Lib.hid hb2
                        clear skip hb
                        go_wp2_with fail
                        go_roundg (n + 1 - (j + 1))
                        case measure => have := hj.out; omega
                        case rel => exact ⟨j + 1, K3, gr3, by go_num, rfl, by omega, by have := hj.out; omega, hD5, qp5, hRd5, hS3, hG4⟩
                    · have hzj2 : ¬ (j : Int) ≤ n := by omega
                      have d0 := hD.2.1.cell 0
                      simp only [List.getElem?_toArray, List.getElem?_cons_zero, List.getElem?_cons_succ] at d0
                      have hG4 : Hid (Gro K1 K3 gr1 gr3 (PI str ⟨pl, pr⟩ (v + 1) K1)) := Lib.hid (hG2.out.go hG3.out fun e h1 h2 => h1.more (fun b h3 h4 => by rw [e] at h2; exact h2 b (by have := hsl.out; omega) h4) (by have := hsl.out; omega))
                      go_wp2_with fail
                      go_roundg (n + 1 - (v + 1))
                      case measure => have := hv.out; omega
                      case rel => exact ⟨v + 1, K3, gr3, by go_num, rfl, by have := hv.out; omega, hD, qp, hRd, hS3, hG4⟩
                · have hzv2 : ¬ (v : Int) < n + 1 := by omega
                  have hvv : v = str.length + 1 := by have := hsl.out; have := hv.out; omega
                  have hG4 : Hid (Gro K K2 false gr2 (PP g.prods str (i + 1) K)) := Lib.hid (hG1.out.go hG2.out fun e h1 h2 => h1.more htk.out (by rw [← e, ← hvv]; exact h2))
                  replace hvv := Lib.hid hvv
                  go_wp2_with fail
                  go_roundg (m - (i + 1))
                  case measure => have := hi.out; omega
                  case rel => exact ⟨i + 1, K2, gr2, by go_num, rfl, by have := hi.out; omega, hD, hS2, hG4⟩
            · have him : i = m := by have := hi.out; omega
              have hzi : ¬ (i : Int) < m := by omega
              replace him := Lib.hid him
              go_wp2_with fail
              go_roundg (if gr1 = true then 1353 - K1.length else 0)
              case measure =>
                have h1 := hgk.out
                have h2 := hKl.out
                simp at h1
                rcases hG1.out with ⟨a1, a2, _⟩ | ⟨a1, a2⟩
                · rw [a1, if_neg (by simp)]; omega
                · rw [a1, if_pos rfl]; omega
              case rel => exact ⟨K1, gr1, rfl, Lib.hid rfl, hD, hS1, Lib.hid (fun e => by
                rcases hG1.out with ⟨_, a2, a3⟩ | ⟨a1, _⟩
                · rw [a2]; exact a3.cls (by have := hm.out; have := him.out; omega)
                · rw [a1] at e; cases e)⟩
end Go.Proofs.Ytlngbphchhbpbaa

/- less, ends of the law; what ends in terminals derives itself. -/
namespace Go.Proofs.Ytlngbphchhbpbaa
open Go.ChangeShapes Go.WideShapes Go.ChangeAt Go.RowKit
set_option linter.unusedVariables false

theorem drop_consG {l : List Int} {i : Nat} {x : Int} (h : l[i]? = some x) : l.drop i = x :: l.drop (i + 1) := by
  obtain ⟨h1, rfl⟩ := List.getElem?_eq_some_iff.1 h
  exact List.drop_eq_getElem_cons h1
theorem lex_same {a b : List Int} {i : Nat} {x : Int} (h1 : a[i]? = some x) (h2 : b[i]? = some x) : lex (a.drop i) (b.drop i) = lex (a.drop (i + 1)) (b.drop (i + 1)) := by
  rw [drop_consG h1, drop_consG h2]
  conv => lhs; unfold lex
  rw [if_neg (by omega), if_neg (by omega)]
theorem lex_diff {a b : List Int} {i : Nat} {x y : Int} (h1 : a[i]? = some x) (h2 : b[i]? = some y) (h : x ≠ y) : decide (lex (a.drop i) (b.drop i) = -1) = decide (x < y) := by
  rw [drop_consG h1, drop_consG h2]
  unfold lex
  by_cases hlt : x < y
  · rw [if_pos hlt]; simp [hlt]
  · rw [if_neg hlt, if_pos (by omega)]; simp [hlt]
set_option maxHeartbeats 1000000 in
theorem less_any (A A2 : Option Addr) (n n2 c c2 : Nat) (l m : List Int) (w : World) (B : Nat) (ha : Rd1 w B A n (ints l)) (hb : Rd1 w B A2 n2 (ints m)) (hn : n ≤ 1000000) (hn2 : n2 ≤ 1000000) :
    Calls Try.prog 23 #[.slice A n c, .slice A2 n2 c2] w fun e w' => e = .returned (.bool (decide (tcmp l m = -1))) ∧ Below w.heap.size w w' := by
  have hl1 : l.length = n := by have := ha.1; simpa [ints] using this
  have hl2 : m.length = n2 := by have := hb.1; simpa [ints] using this
  by_cases hnn : n = n2
  · subst hnn
    obtain ⟨R, hR⟩ : ∃ R, R = decide (tcmp l m = -1) := ⟨_, rfl⟩
    have hR2 : R = decide (lex l m = -1) := by
      rw [hR]; unfold tcmp; rw [if_neg (by omega), if_neg (by omega)]
    rw [← hR]
    clear hR
    replace hR2 := Lib.hid hR2
    replace hl1 := Lib.hid hl1
    replace hl2 := Lib.hid hl2
    go_enter Try.func23, Try.ntmps23
    go_wp2_with fail
    go_loopg [5] n (fun gk s5 wr => ∃ i : Nat, s5 = .int .i64 i ∧ i + gk = n ∧ Hid (R = decide (lex (l.drop i) (m.drop i) = -1)) ∧ Below w.heap.size w wr ∧ Rd1 wr B A n (ints l) ∧ Rd1 wr B A2 n (ints m))
    case atStart => exact ⟨0, rfl, by omega, hR2, Below.refl _ _, ha, hb⟩
    case round =>
      obtain ⟨i, rfl, hi, ht, hbw, ha', hb'⟩ := hrel
      clear ha hb hR2
      have ha := ha'
      have hb := hb'
      clear ha' hb'
      replace hi := Lib.hid hi
      by_cases hin : i < n
      · have hil : i < l.length := by have := hl1.out; omega
        have him : i < m.length := by have := hl2.out; omega
        have hx : l[i]? = some l[i] := List.getElem?_eq_getElem hil
        have hy : m[i]? = some m[i] := List.getElem?_eq_getElem him
        obtain ⟨b1, off1, rfl, hbt1, x0⟩ := ha.get (show (ints l)[i]? = some (.int .i64 l[i]) by rw [ints, List.getElem?_map, hx]; rfl)
        obtain ⟨b2, off2, rfl, hbt2, y0⟩ := hb.get (show (ints m)[i]? = some (.int .i64 m[i]) by rw [ints, List.getElem?_map, hy]; rfl)
        generalize l[i] = x at *
        generalize m[i] = y at *
        have hz0 : (0 : Int) ≤ i := by omega
        have hz1 : (i : Int) < n := by omega
        by_cases hxy : x = y
        · subst hxy
          have ht2 : Hid (R = decide (lex (l.drop (i + 1)) (m.drop (i + 1)) = -1)) := Lib.hid (by rw [← lex_same hx hy]; exact ht.out)
          replace hx := Lib.hid hx
          replace hy := Lib.hid hy
          go_upto_region 6 with (fail)
          go_quiet (fail)
          have hbw2 := bDrwN hbw nq
          have ha2 : Rd1 (wr.drewN nq) B _ n (ints l) := ha.below (bDrwN' wr nq)
          have hb2 : Rd1 (wr.drewN nq) B _ n (ints m) := hb.below (bDrwN' wr nq)
          clear ha hb x0 y0
          generalize wr.drewN nq = W2 at *
          go_wp2_with fail
          go_roundg (n - (i + 1))
          case measure => have := hi.out; omega
          case rel => exact ⟨i + 1, by go_num, by have := hi.out; omega, ht2, hbw2, ha2, hb2⟩
        · have hRf : R = decide (x < y) := by rw [ht.out, lex_diff hx hy hxy]
          subst hRf
          have h1 : (x == y) = false := by simpa using hxy
          have h2 : (x != y) = true := by simpa using hxy
          replace hx := Lib.hid hx
          replace hy := Lib.hid hy
          replace ht := Lib.hid ht
          clear hxy
          go_upto_region 6 with (fail)
          go_quiet (fail)
          have hbw2 := bDrwN hbw nq
          have x1 : (wr.drewN nq).cell? ⟨b1, off1 + i, none⟩ = some (.int .i64 x) := x0
          have y1 : (wr.drewN nq).cell? ⟨b2, off2 + i, none⟩ = some (.int .i64 y) := y0
          clear ha hb x0 y0
          generalize wr.drewN nq = W2 at *
          go_upto_region 7 with (fail)
          go_quiet (fail)
          have hbw3 := bDrwN hbw2 nq
          clear x1 y1
          generalize W2.drewN nq = W3 at *
          go_wp2_with fail
          go_ret
          exact ⟨rfl, hbw3⟩
      · have hRt : R = false := by
          rw [ht.out, List.drop_eq_nil_of_le (by have := hl1.out; omega), List.drop_eq_nil_of_le (by have := hl2.out; omega)]
          rfl
        subst hRt
        replace ht := Lib.hid ht
        go_wp2_with fail
        go_ret
        exact ⟨rfl, hbw⟩
  · have hR : decide (tcmp l m = -1) = decide ((n : Int) < n2) := by
      unfold tcmp
      by_cases h : n < n2
      · rw [if_pos (by omega)]; simp [h]
      · rw [if_neg (by omega), if_pos (by omega)]; simp [h]
    rw [hR]
    have h1 : ((n : Int) == n2) = false := beq_eq_false_iff_ne.2 (by omega)
    have h2 : ((n : Int) != n2) = true := bne_iff_ne.2 (by omega)
    clear hR hnn
    go_enter Try.func23, Try.ntmps23
    go_wp2_with fail
    go_ret
    exact ⟨by simp, Below.refl _ _⟩
theorem ends2_any (A : Option Addr) (n c : Nat) (l : List Int) (w : World) (B : Nat) (ha : Rd1 w B A n (ints l)) (hn : n ≤ 1000000) :
    Calls Try.prog 25 #[.slice A n c] w fun e w' => e = .returned (.bool (l.all fun s => decide (s < 16))) ∧ w = w' := by
  have hl1 : l.length = n := by have := ha.1; simpa [ints] using this
  obtain ⟨R, hR⟩ : ∃ R, R = l.all fun s => decide (s < 16) := ⟨_, rfl⟩
  rw [← hR]
  replace hR := Lib.hid hR
  replace hl1 := Lib.hid hl1
  go_enter Try.func25, Try.ntmps25
  go_wp2_with fail
  go_loopg [3] n (fun gk s3 wr => ∃ i : Nat, s3 = .int .i64 i ∧ i + gk = n ∧ Hid ((l.take i).all (fun s => decide (s < 16)) = true) ∧ w = wr)
  case atStart => exact ⟨0, rfl, by omega, Lib.hid rfl, rfl⟩
  case round =>
    obtain ⟨i, rfl, hi, ht, rfl⟩ := hrel
    replace hi := Lib.hid hi
    by_cases hin : i < n
    · have hil : i < l.length := by have := hl1.out; omega
      have hx : l[i]? = some l[i] := List.getElem?_eq_getElem hil
      obtain ⟨b1, off1, rfl, hbt1, x0⟩ := ha.get (show (ints l)[i]? = some (.int .i64 l[i]) by rw [ints, List.getElem?_map, hx]; rfl)
      have htk : l.take (i + 1) = l.take i ++ [l[i]] := List.take_succ_eq_append_getElem hil
      have hmem := List.getElem_mem hil
      generalize l[i] = x at *
      have hz0 : (0 : Int) ≤ i := by omega
      have hz1 : (i : Int) < n := by omega
      replace hx := Lib.hid hx
      by_cases h16 : x < 16
      · have ht2 : Hid ((l.take (i + 1)).all (fun s => decide (s < 16)) = true) := Lib.hid (by rw [htk, List.all_append, ht.out]; simp [h16])
        have h17 : ¬ 16 ≤ x := by omega
        replace htk := Lib.hid htk
        go_wp2_with fail
        go_roundg (n - (i + 1))
        case measure => have := hi.out; omega
        case rel => exact ⟨i + 1, by go_num, by have := hi.out; omega, ht2, rfl⟩
      · have hRf : R = false := by
          rw [hR.out, List.all_eq_false]
          exact ⟨x, hmem, by simpa using h16⟩
        subst hRf
        have h17 : 16 ≤ x := by omega
        replace htk := Lib.hid htk
        replace hR := Lib.hid hR
        go_wp2_with fail
        go_ret
        exact ⟨rfl, rfl⟩
    · have hRt : R = true := by
        have := ht.out
        rw [List.take_of_length_le (by have := hl1.out; omega)] at this
        rw [hR.out, this]
      subst hRt
      go_wp2_with fail
      go_ret
      exact ⟨rfl, rfl⟩
end Go.Proofs.Ytlngbphchhbpbaa

/- Productions of the call's own. -/
namespace Go.Proofs.Ytlngbphchhbpbaa
open Go.ChangeShapes Go.WideShapes Go.ChangeAt Go.RowKit
set_option linter.unusedVariables false

/-- the slice at RA, with the capacity c, reads as l, in a block of numbers not below base -/
def RtAt (W : World) (base : Nat) (RA : Option Addr) (c : Nat) (l : List Int) : Prop :=
  l.length ≤ c ∧ c ≤ maxLen ∧ (l = [] ∨ ∃ b off cs, RA = some ⟨b, off, none⟩ ∧ base ≤ b ∧ Blk W b 3 cs ∧ ∀ (i : Nat) (v : Value), (ints l)[i]? = some v → cs[off + i]? = some v)
theorem RtAt.of {W : World} {base : Nat} {v : Value} {l : List Int} (h : Own1 W base 3 v (ints l)) : ∃ RA c, v = .slice RA l.length c ∧ RtAt W base RA c l := by
  have hl : (ints l).length = l.length := by simp [ints]
  rcases h.2 with ⟨rfl, h0⟩ | ⟨g, cap, cur, rfl, hb, hg, hnc, hcm, hcs, ht⟩
  · have : l = [] := List.eq_nil_of_length_eq_zero (by omega)
    subst this
    exact ⟨none, 0, rfl, Nat.le_refl _, by simp [maxLen], .inl rfl⟩
  · rw [hl] at hnc ⊢
    refine ⟨some ⟨g, 0, none⟩, cap, rfl, hnc, hcm, .inr ⟨g, 0, cur, rfl, hb, hg, fun i x hx => ?_⟩⟩
    have hlt := (List.getElem?_eq_some_iff.1 hx).1
    rw [← ht, List.getElem?_take, if_pos (by omega)] at hx
    rw [Nat.zero_add]
    simpa using hx
theorem RtAt.step {W W' : World} {base : Nat} {RA : Option Addr} {c : Nat} {l : List Int} (h : RtAt W base RA c l) (hb : Below W.heap.size W W') : RtAt W' base RA c l := by
  obtain ⟨h1, h2, h3⟩ := h
  refine ⟨h1, h2, h3.imp id ?_⟩
  rintro ⟨b, off, cs, e, e1, e2, e3⟩
  exact ⟨b, off, cs, e, e1, e2.step hb, e3⟩
theorem RtAt.grown {W W' : World} {base : Nat} {RA : Option Addr} {c : Nat} {l : List Int} {row : Option Nat} (h : RtAt W base RA c l) (hg : W.grownBy W' row) (hne : ∀ g cs, row = some g → ¬ Blk W g 3 cs) : RtAt W' base RA c l := by
  obtain ⟨h1, h2, h3⟩ := h
  refine ⟨h1, h2, h3.imp id ?_⟩
  rintro ⟨b, off, cs, e, e1, e2, e3⟩
  exact ⟨b, off, cs, e, e1, e2.grown hg (fun e' => hne b cs e'.symm e2), e3⟩
theorem RtAt.reads {W : World} {base : Nat} {RA : Option Addr} {c : Nat} {l : List Int} (h : RtAt W base RA c l) : Rd1 W W.heap.size RA l.length (ints l) := by
  refine ⟨by simp [ints], ?_⟩
  rcases h.2.2 with rfl | ⟨b, off, cs, rfl, e1, e2, e3⟩
  · exact .inl rfl
  · exact .inr ⟨b, off, rfl, e2.lt, fun i v hv => by rw [e2.cell]; exact e3 i v hv⟩

/-- the cells of productions -/
def cellsP : List Pr → List (Option Addr × Nat) → List Value
  | p :: ps, r :: rs => .int .i64 p.left :: .slice r.1 p.right.length r.2 :: cellsP ps rs
  | _, _ => []
theorem cellsP_len : ∀ (ps : List Pr) (rs : List (Option Addr × Nat)), ps.length = rs.length → (cellsP ps rs).length = ps.length * 2
  | [], [], _ => rfl
  | [], _ :: _, h => by simp at h
  | _ :: _, [], h => by simp at h
  | p :: ps, r :: rs, h => by
    have := cellsP_len ps rs (by simpa using h)
    simp only [cellsP, List.length_cons, this]; omega
theorem cellsP_get : ∀ (ps : List Pr) (rs : List (Option Addr × Nat)) (i : Nat) (p : Pr) (r : Option Addr × Nat), ps[i]? = some p → rs[i]? = some r → (cellsP ps rs)[i * 2]? = some (.int .i64 p.left) ∧ (cellsP ps rs)[i * 2 + 1]? = some (.slice r.1 p.right.length r.2)
  | [], _, i, p, r, h, _ => by simp at h
  | _ :: _, [], i, p, r, _, h => by simp at h
  | p0 :: ps, r0 :: rs, 0, p, r, h, h' => by simp at h h'; subst h; subst h'; exact ⟨rfl, rfl⟩
  | p0 :: ps, r0 :: rs, i + 1, p, r, h, h' => by
    have := cellsP_get ps rs i p r (by simpa using h) (by simpa using h')
    rw [show (i + 1) * 2 = i * 2 + 1 + 1 by omega]
    exact this
theorem cellsP_app : ∀ (ps : List Pr) (rs : List (Option Addr × Nat)) (p : Pr) (r : Option Addr × Nat), ps.length = rs.length → cellsP (ps ++ [p]) (rs ++ [r]) = cellsP ps rs ++ [.int .i64 p.left, .slice r.1 p.right.length r.2]
  | [], [], p, r, _ => rfl
  | [], _ :: _, _, _, h => by simp at h
  | _ :: _, [], _, _, h => by simp at h
  | p0 :: ps, r0 :: rs, p, r, h => by
    have := cellsP_app ps rs p r (by simpa using h)
    simp only [List.cons_append, cellsP, this]
/-- v is a slice of the call's own of the productions ps, with right sides of its own -/
def PsR (W : World) (base : Nat) (v : Value) (ps : List Pr) (rs : List (Option Addr × Nat)) : Prop :=
  ps.length = rs.length ∧ W.ownsRow base 49 2 v ps.length (cellsP ps rs) ∧ ∀ (i : Nat) (p : Pr) (r : Option Addr × Nat), ps[i]? = some p → rs[i]? = some r → RtAt W base r.1 r.2 p.right
def PsO (W : World) (base : Nat) (v : Value) (ps : List Pr) : Prop := ∃ rs, PsR W base v ps rs
theorem PsO.nil (W : World) (base : Nat) : PsO W base (.slice none 0 0) [] := ⟨[], rfl, World.ownsRow_nil W base 49 2, by simp⟩
theorem row_step {W W' : World} {base : Nat} {e : TypeId} {size : Nat} {v : Value} {n : Nat} {xs : List Value} (h : W.ownsRow base e size v n xs) (hb : Below W.heap.size W W') : W'.ownsRow base e size v n xs := by
  refine ⟨h.1, ?_⟩
  rcases h.2 with hn | ⟨g, cap, cur, rfl, hg0, hg, rest⟩
  · exact .inl hn
  · exact .inr ⟨g, cap, cur, rfl, hg0, (hb.block g (Array.getElem?_eq_some_iff.1 hg).1).trans hg, rest⟩
theorem row_grown {W W' : World} {base : Nat} {e : TypeId} {size : Nat} {v : Value} {n : Nat} {xs : List Value} {row : Option Nat} (h : W.ownsRow base e size v n xs) (hg : W.grownBy W' row) (hne : ∀ g cs, row = some g → ¬ Blk W g e cs) : W'.ownsRow base e size v n xs := by
  refine ⟨h.1, ?_⟩
  rcases h.2 with hn | ⟨g, cap, cur, rfl, hg0, hg', rest⟩
  · exact .inl hn
  · exact .inr ⟨g, cap, cur, rfl, hg0, (hg.block g (Array.getElem?_eq_some_iff.1 hg').1 (fun e' => hne g cur e'.symm hg')).trans hg', rest⟩
theorem PsO.step {W W' : World} {base : Nat} {v : Value} {ps : List Pr} (h : PsO W base v ps) (hb : Below W.heap.size W W') : PsO W' base v ps := by
  obtain ⟨rs, h1, h2, h3⟩ := h
  exact ⟨rs, h1, row_step h2 hb, fun i p r a b => (h3 i p r a b).step hb⟩
theorem PsO.grown {W W' : World} {base : Nat} {v : Value} {ps : List Pr} {row : Option Nat} (h : PsO W base v ps) (hg : W.grownBy W' row) (h3' : ∀ g cs, row = some g → ¬ Blk W g 3 cs) (h59 : ∀ g cs, row = some g → ¬ Blk W g 49 cs) : PsO W' base v ps := by
  obtain ⟨rs, h1, h2, h3⟩ := h
  exact ⟨rs, h1, row_grown h2 hg h59, fun i p r a b => (h3 i p r a b).grown hg h3'⟩
theorem PsO.mono {W : World} {base b' : Nat} {v : Value} {ps : List Pr} (h : PsO W base v ps) (hb : b' ≤ base) : PsO W b' v ps := by
  obtain ⟨rs, h1, h2, h3⟩ := h
  refine ⟨rs, h1, ⟨h2.1, ?_⟩, fun i p r a b => ?_⟩
  · rcases h2.2 with hn | ⟨g, cap, cur, rfl, hg0, rest⟩
    · exact .inl hn
    · exact .inr ⟨g, cap, cur, rfl, by omega, rest⟩
  · obtain ⟨c1, c2, c3⟩ := h3 i p r a b
    refine ⟨c1, c2, c3.imp id ?_⟩
    rintro ⟨b, off, cs, e, e1, e2, e3⟩
    exact ⟨b, off, cs, e, by omega, e2, e3⟩
theorem own_blk {W : World} {base : Nat} {e : TypeId} {size : Nat} {v : Value} {n : Nat} {xs : List Value} (h : W.ownsRow base e size v n xs) {g : Nat} (hg : v.ownBlock = some g) : ∃ cs, Blk W g e cs := by
  rcases h.2 with ⟨rfl, _⟩ | ⟨g', cap, cur, rfl, _, hb, _⟩
  · simp [Value.ownBlock] at hg
  · simp [Value.ownBlock] at hg; subst hg; exact ⟨cur, hb⟩
theorem blk_type {W : World} {g : Nat} {t t' : TypeId} {cs cs' : Array Value} (h : Blk W g t cs) (h' : Blk W g t' cs') : t = t' := by
  unfold Blk at h h'; rw [h] at h'; injection h' with h'; injection h'
theorem PsO.pushed {W W' : World} {base : Nat} {v v' : Value} {ps : List Pr} {rs : List (Option Addr × Nat)} {p : Pr} {RA : Option Addr} {c : Nat} (h : PsR W base v ps rs) (hr : RtAt W base RA c p.right)
    (h1 : W'.ownsRow base 49 2 v' (ps.length + 1) (cellsP ps rs ++ [.int .i64 p.left, .slice RA p.right.length c])) (h2 : W.grownBy W' v.ownBlock) : PsO W' base v' (ps ++ [p]) := by
  obtain ⟨g1, g2, g3⟩ := h
  have hne : ∀ g cs, v.ownBlock = some g → ¬ Blk W g 3 cs := fun g cs e hb => by
    obtain ⟨cs', hb'⟩ := own_blk g2 e
    have := blk_type hb hb'
    cases this
  refine ⟨rs ++ [(RA, c)], by simp [g1], ?_, ?_⟩
  · rw [cellsP_app ps rs p (RA, c) g1, List.length_append]; exact h1
  · intro i q r hq hr'
    by_cases hi : i < ps.length
    · rw [List.getElem?_append_left hi] at hq
      rw [List.getElem?_append_left (by omega)] at hr'
      exact (g3 i q r hq hr').grown h2 hne
    · have hie : i = ps.length := by have := (List.getElem?_eq_some_iff.1 hq).1; simp at this; omega
      subst hie
      simp at hq
      rw [g1] at hr'
      simp at hr'
      subst hq; subst hr'
      exact hr.grown h2 hne
theorem PsO.reads {W : World} {base : Nat} {v : Value} {ps : List Pr} (h : PsO W base v ps) : ∃ A c, v = .slice A ps.length c ∧ RdP W W.heap.size A ps.length ps ∧ ps.length ≤ c ∧ c ≤ maxLen := by
  obtain ⟨rs, h1, h2, h3⟩ := h
  rcases h2.2 with ⟨rfl, h0⟩ | ⟨g, cap, cur, rfl, hb, hg, hnc, hcm, hcs, ht⟩
  · exact ⟨none, 0, by rw [h0], ⟨rfl, .inl h0⟩, by omega, by simp [maxLen]⟩
  · refine ⟨some ⟨g, 0, none⟩, cap, rfl, ⟨rfl, .inr ⟨g, 0, rfl, (Array.getElem?_eq_some_iff.1 hg).1, fun i p hp => ?_⟩⟩, hnc, hcm⟩
    have hi := (List.getElem?_eq_some_iff.1 hp).1
    have hri : rs[i]? = some rs[i] := List.getElem?_eq_getElem (by omega)
    obtain ⟨d1, d2⟩ := cellsP_get ps rs i p _ hp hri
    rw [← ht, List.getElem?_take, if_pos (by omega)] at d1 d2
    have hr := h3 i p _ hp hri
    refine ⟨?_, _, _, ?_, hr.reads, hr.1, hr.2.1⟩
    · rw [cell_of_row W g _ cur 49 (0, 0) hg, Nat.zero_add]; simpa using d1
    · rw [cell_of_row W g _ cur 49 (0, 0) hg, Nat.zero_add]; simpa using d2
theorem info59 : (Try.prog.info? 49).map (fun i => (i.zero, i.size, i.bytes)) = some (some (.agg #[.int .i64 0, .slice none 0 0]), 2, 32) := by kernel_rfl
theorem under24 : Try.prog.underlying 23 = some (.slice 49) := by kernel_rfl
end Go.Proofs.Ytlngbphchhbpbaa

/- The kit's OwnGrammar. -/
namespace Go.Proofs.Ytlngbphchhbpbaa
open Go.ChangeShapes Go.WideShapes Go.ChangeAt Go.RowKit
set_option linter.unusedVariables false

section
variable (w : World) {ops : Array Oper} {rest : List Oper} {o : Oper} {a : Act} {K : Act → World → Prop} {Q : Exit → Act → World → Prop}
/-- 'append(s, p)', one production, in a block known whole -/
theorem wp_pushP (s x : Operand) (ho : o.op = .call { callee := .builtin .append, args := #[s, x], argTypes := #[23, 23] })
    (base : Nat) (v : Value) (ps : List Pr) (rs : List (Option Addr × Nat)) (hs : a.eval s = v) (hown : PsR w base v ps rs) (g : Nat) (p : Pr) (RA : Option Addr) (c : Nat) (hx : a.eval x = .slice (some ⟨g, 0, none⟩) 1 1) (hb : Blk w g 49 #[.int .i64 p.left, .slice RA p.right.length c])
    (hr : RtAt w base RA c p.right) (hn : ps.length < 1000000) (hbase : base ≤ w.heap.size)
    (h : ∀ v' w', PsO w' base v' (ps ++ [p]) → w.grownBy w' v.ownBlock → K (a.put o.dst v') w') : Oper.wp Try.prog o a w K Q := by
  obtain ⟨i0, hi0, hz0, hz1, hz2⟩ := info_parts info59
  have hnews : ∀ j u, [Value.int .i64 p.left, .slice RA p.right.length c][j]? = some u → w.cell? ((⟨g, 0, none⟩ : Addr).add j) = some u := by
    intro j u hu
    have : (⟨g, 0, none⟩ : Addr).add j = ⟨g, j, none⟩ := by unfold Addr.add; split <;> simp_all
    rw [this, hb.cell]
    simpa using hu
  obtain ⟨v', w', hrun, h2, h3, h4, h5⟩ := run_append_own_at (P := Try.prog) w base 23 o.type 49 i0 _ 2 32 under24 hi0 hz0 hz1 hz2 rfl (by omega) v ps.length _ hown.2.1 ⟨g, 0, none⟩ 1 1 [.int .i64 p.left, .slice RA p.right.length c] rfl hnews (by simp [Value.oneCell']) (by unfold maxLen; omega) (by omega) hbase
  unfold Oper.wp execOp
  simp only [ho, resolve, invoke, builtin, Sem.run_bind, Sem.run_pure, Result.andThen_ok, List.map_toArray, List.map_cons, List.map_nil, hs, hx, hrun]
  exact h v' w' (PsO.pushed hown hr h2 h3) h3
end
theorem own_strs {w : World} {base : Nat} {v : Value} {l : List ByteArray} (h : Own1 w base 9 v (strs l)) : ∃ A c, v = .slice A l.length c ∧ Rd1 w w.heap.size A l.length (strs l) ∧ l.length ≤ c ∧ c ≤ maxLen := by
  obtain ⟨A, c, e, h1, h2, h3, _⟩ := h.reads
  have hl : (strs l).length = l.length := by simp [strs]
  rw [hl] at e h1 h2
  exact ⟨A, c, e, h1, h2, h3⟩
theorem grownBy_setC' (w : World) (b i : Nat) (v : Value) : w.grownBy (w.setCell ⟨b, i, none⟩ v) (some b) :=
  ⟨rfl, rfl, rfl, by simp, fun k hk hne => Below.heap_setCell w ⟨b, i, none⟩ v k (fun e => hne (by rw [e]))⟩
/-- the grammar's box under way -/
def ogc (g : Gr) (tv nv pv : Value) : Array Value := #[.int .i64 g.k, tv, .string g.sep, nv, .int .i64 g.start, pv]
def OG (w : World) (g : Gr) (a : GA) (tv nv pv : Value) (W : World) : Prop :=
  GrAt W w.heap.size g a ∧ Blk W w.heap.size 25 (ogc g tv nv pv) ∧ Blk W (w.heap.size + 1) 25 #[.int .i64 0, .slice none 0 0, .string ByteArray.empty, .slice none 0 0, .int .i64 0, .slice none 0 0] ∧ Own1 W (w.heap.size + 2) 9 tv (strs g.toks) ∧ Own1 W (w.heap.size + 2) 9 nv (strs g.names) ∧ Below w.heap.size w W
theorem OG.step {w : World} {g : Gr} {a : GA} {tv nv pv : Value} {W W' : World} (h : OG w g a tv nv pv W) (hb : Below W.heap.size W W') : OG w g a tv nv pv W' := by
  obtain ⟨h1, h2, h3, h4, h5, h6⟩ := h
  exact ⟨h1.below (hb.mono h6.size), h2.step hb, h3.step hb, h4.step hb, h5.step hb, bStep h6 hb⟩
theorem OG.grown {w : World} {g : Gr} {a : GA} {tv nv pv : Value} {W W' : World} {row : Option Nat} (h : OG w g a tv nv pv W) (hg : W.grownBy W' row) (hr : ∀ r, row = some r → w.heap.size + 2 ≤ r ∧ ∃ cs, Blk W r 49 cs) : OG w g a tv nv pv W' := by
  obtain ⟨h1, h2, h3, h4, h5, h6⟩ := h
  have hb : Below w.heap.size W W' := ⟨hg.os, hg.tape, hg.output, hg.size, fun k hk => hg.block k (by have := h6.size; omega) (fun e => by have := (hr k e.symm).1; omega)⟩
  have h9 : ∀ b cs, row = some b → ¬ Blk W b 9 cs := fun b cs e hq => by obtain ⟨_, cs', hq'⟩ := hr b e; cases blk_type hq hq'
  exact ⟨h1.below hb, h2.grown hg (fun e => by have := (hr _ e.symm).1; omega), h3.grown hg (fun e => by have := (hr _ e.symm).1; omega), row_grown h4 hg h9, row_grown h5 hg h9, h6.trans hb⟩
theorem OG.own {w : World} {g : Gr} {a : GA} {tv nv pv : Value} {W W' : World} (h : OG w g a tv nv pv W) {v : Value} {n : Nat} {xs : List Value} (hr : W.ownsRow (w.heap.size + 2) 49 2 v n xs) (hg : W.grownBy W' v.ownBlock) : OG w g a tv nv pv W' :=
  h.grown hg fun r e => ⟨(own_in hr r e).1, own_blk hr e⟩

def KO (w : World) (g : Gr) (a : GA) (tv nv pv : Value) (wr W : World) : Prop := OG w g a tv nv pv W ∧ Below w.heap.size wr W
theorem RtAt.mono {W : World} {base b' : Nat} {RA : Option Addr} {c : Nat} {l : List Int} (h : RtAt W base RA c l) (hb : b' ≤ base) : RtAt W b' RA c l := by
  obtain ⟨c1, c2, c3⟩ := h
  refine ⟨c1, c2, c3.imp id ?_⟩
  rintro ⟨b, off, cs, e, e1, e2, e3⟩
  exact ⟨b, off, cs, e, by omega, e2, e3⟩
theorem put6 {w : World} {g : Nat} {x0 x1 x2 x3 x4 x5 : Value} (h : Blk w g 25 #[x0, x1, x2, x3, x4, x5]) (a b c d e f : Value) :
    Blk ((((((w.setCell ⟨g, 0, none⟩ a).setCell ⟨g, 1, none⟩ b).setCell ⟨g, 2, none⟩ c).setCell ⟨g, 3, none⟩ d).setCell ⟨g, 4, none⟩ e).setCell ⟨g, 5, none⟩ f) g 25 #[a, b, c, d, e, f] :=
  (((((h.put 0 a).put 1 b).put 2 c).put 3 d).put 4 e).put 5 f
theorem bSet6 {W0 W : World} {g : Nat} (h : Below W0.heap.size W0 W) (hg : W0.heap.size ≤ g) (a b c d e f : Value) :
    Below W0.heap.size W0 ((((((W.setCell ⟨g, 0, none⟩ a).setCell ⟨g, 1, none⟩ b).setCell ⟨g, 2, none⟩ c).setCell ⟨g, 3, none⟩ d).setCell ⟨g, 4, none⟩ e).setCell ⟨g, 5, none⟩ f) :=
  bSet (bSet (bSet (bSet (bSet (bSet h _ _ hg) _ _ hg) _ _ hg) _ _ hg) _ _ hg) _ _ hg
theorem far6 {w : World} {g : Nat} {x0 x1 x2 x3 x4 x5 : Value} (h : Blk w g 25 #[x0, x1, x2, x3, x4, x5]) (a b c d e f : Value) :
    w.grownBy ((((((w.setCell ⟨g, 0, none⟩ a).setCell ⟨g, 1, none⟩ b).setCell ⟨g, 2, none⟩ c).setCell ⟨g, 3, none⟩ d).setCell ⟨g, 4, none⟩ e).setCell ⟨g, 5, none⟩ f) (some g) := by
  have key : ∀ {X Y : World} (i : Nat) (v : Value), X.grownBy Y (some g) → X.grownBy (Y.setCell ⟨g, i, none⟩ v) (some g) := fun i v hg => World.grownBy.andThen hg (grownBy_setC' _ g i v) (fun j hj => .inr hj)
  exact key 5 f (key 4 e (key 3 d (key 2 c (key 1 b (grownBy_setC' w g 0 a)))))
theorem under26' : Try.prog.underlying 25 = some (.struct (Try.prog.fieldsOf 25)) := by kernel_rfl
theorem size26' : (Try.prog.info? 25).map (·.size) = some 6 := by kernel_rfl
/-- what OwnGrammar hands back -/
def RetGO (w : World) (g : Gr) (e : Ending) (w' : World) : Prop := ∃ a, e = .returned (gval g a) ∧ GrAt w' w'.heap.size g a ∧ PsO w' w.heap.size (.slice a.pa g.prods.length a.pc) g.prods ∧ (Own1 w' w.heap.size 9 (.slice a.ta g.toks.length a.tc) (strs g.toks) ∧ Own1 w' w.heap.size 9 (.slice a.na g.names.length a.nc) (strs g.names)) ∧ Below w.heap.size w w'

end Go.Proofs.Ytlngbphchhbpbaa

/- The kit's Any. -/
namespace Go.Proofs.Ytlngbphchhbpbaa
open Go.ChangeShapes Go.WideShapes Go.ChangeAt Go.RowKit
set_option linter.unusedVariables false

theorem foldA_stuck (l : List Int) (t m : Int) (i : Nat) {ps : List Pr} (h : 7 ≤ ps.length) : ∀ js : List Nat, js.foldl (addA l t m i) ps = ps
  | [] => rfl
  | j :: js => by
    have : addA l t m i ps j = ps := by unfold addA; rw [if_neg (by omega)]
    rw [List.foldl_cons, this]; exact foldA_stuck l t m i h js
theorem foldA_part (l : List Int) (t m : Int) (i : Nat) (ps : List Pr) (j J : Nat) (hj : j ≤ J) (h : 7 ≤ ((List.range j).foldl (addA l t m i) ps).length) : (List.range J).foldl (addA l t m i) ps = (List.range j).foldl (addA l t m i) ps := by
  have e : List.range J = List.range j ++ (List.range J).drop j := by
    have := List.take_append_drop j (List.range J)
    rw [List.take_range, Nat.min_eq_left hj] at this
    exact this.symm
  rw [e, List.foldl_append]
  exact foldA_stuck l t m i h _
theorem run_push1 (W : World) (base : Nat) (RA : Option Addr) (rk : Nat) (xs : List Int) (hown : Own1 W base 3 (.slice RA xs.length rk) (ints xs)) (x : Int) (g : Nat) (hb : Blk W g 3 #[.int .i64 x]) (hn : xs.length < 1000) (hbase : base ≤ W.heap.size) :
    ∃ RA' rk' W', (Builtin.append_ #[26, 26] 26 #[.slice RA xs.length rk, .slice (some ⟨g, 0, none⟩) 1 1]).run Try.prog W = .ok (.slice RA' (xs.length + 1) rk') W' ∧ Own1 W' base 3 (.slice RA' (xs.length + 1) rk') (ints (xs ++ [x])) ∧ W.grownBy W' (Value.slice RA xs.length rk).ownBlock := by
  obtain ⟨i0, hi0, hz0, hz1, hz2⟩ := info_parts info3
  have hnews : ∀ j u, [Value.int .i64 x][j]? = some u → W.cell? ((⟨g, 0, none⟩ : Addr).add j) = some u := by
    intro j u hu
    have : (⟨g, 0, none⟩ : Addr).add j = ⟨g, j, none⟩ := by unfold Addr.add; split <;> simp_all
    rw [this, hb.cell]
    simpa using hu
  have hxl : (ints xs).length = xs.length := by simp [ints]
  unfold Own1 at hown
  rw [hxl] at hown
  obtain ⟨v', w', hrun, h2, h3, h4, h5⟩ := run_append_own_at (P := Try.prog) W base 26 26 3 i0 _ 1 8 under22 hi0 hz0 hz1 hz2 rfl (by omega) _ xs.length _ hown ⟨g, 0, none⟩ 1 1 [.int .i64 x] rfl hnews (by simp [Value.oneCell']) (by unfold maxLen; omega) (by omega) hbase
  have he : ints xs ++ [Value.int .i64 x] = ints (xs ++ [x]) := by simp [ints]
  rw [he] at h2
  have hlast : (xs ++ [x]).length = xs.length + 1 := by simp
  have ho : Own1 w' base 3 v' (ints (xs ++ [x])) := by
    unfold Own1
    rw [show (ints (xs ++ [x])).length = xs.length + 1 by simp [ints]]
    exact h2
  obtain ⟨A2, c2, e2, _, _, _, _⟩ := ho.reads
  rw [show (ints (xs ++ [x])).length = xs.length + 1 by simp [ints]] at e2
  subst e2
  exact ⟨A2, c2, w', hrun, ho, h3⟩
theorem wp_of_append {o : Oper} {a : Act} {w : World} {K : Act → World → Prop} {Q : Exit → Act → World → Prop} (s x : Operand) (t : TypeId) (ho : o.op = .call { callee := .builtin .append, args := #[s, x], argTypes := #[t, t] })
    (v u : Value) (hs : a.eval s = v) (hx : a.eval x = u) (r : Value) (w' : World) (hrun : (Builtin.append_ #[t, t] o.type #[v, u]).run Try.prog w = .ok r w') (h : K (a.put o.dst r) w') : Oper.wp Try.prog o a w K Q := by
  unfold Oper.wp execOp
  simp only [ho, resolve, invoke, builtin, Sem.run_bind, Sem.run_pure, Result.andThen_ok, List.map_toArray, List.map_cons, List.map_nil, hs, hx, hrun]
  exact h
theorem rightA_take (t m y : Int) (s : Nat) (h : s < (y % 4).toNat) : (rightA t m y).take (s + 1) = (rightA t m y).take s ++ [symA t m (digA y s)] := by
  have hl : s < (rightA t m y).length := by simpa [rightA] using h
  rw [List.take_succ_eq_append_getElem hl]
  simp [rightA]
theorem conv1 (W : World) (b : UInt8) (nb : Int) (hb : nb = (b.toNat : Int)) : (convert 63 9 (.slice (some ⟨W.heap.size, 0, none⟩) 1 1)).run Try.prog (W.alloc (.cells #[.int .u8 nb] 5)) = .ok (.string ⟨#[b]⟩) (W.alloc (.cells #[.int .u8 nb] 5)) := by
  subst hb
  refine run_convert_bytes_back (W.alloc (.cells #[.int .u8 (b.toNat : Int)] 5)) 63 9 5 ⟨W.heap.size, 0, none⟩ 1 [b] (by kernel_rfl) (by kernel_rfl) (by kernel_rfl) ?_
  intro i hi
  have : i = 0 := by simp at hi; omega
  subst this
  have e : (⟨W.heap.size, 0, none⟩ : Addr).add 0 = ⟨W.heap.size, 0, none⟩ := by simp [Addr.add]
  rw [e, (Blk.new W 5 #[.int .u8 (b.toNat : Int)]).cell 0]
  rfl
def RetG (w : World) (g : Gr) (e : Ending) (w' : World) : Prop := ∃ a, e = .returned (gval g a) ∧ GrAt w' w'.heap.size g a ∧ Below w.heap.size w w'
/-- the grammar under way -/
def YI (w : World) (K : Int) (t : Nat) (NA : Option Addr) (nk : Nat) (PA : Option Addr) (pk : Nat) (ns : List ByteArray) (ps : List Pr) (W : World) : Prop :=
  Blk W w.heap.size 25 #[.int .i64 0, .slice none 0 0, .string ByteArray.empty, .slice none 0 0, .int .i64 0, .slice none 0 0] ∧ Blk W (w.heap.size + 1) 9 #[.string { data := #[97] }, .string { data := #[98] }] ∧
    Blk W (w.heap.size + 2) 25 #[.int .i64 K, .slice (some ⟨w.heap.size + 1, 0, none⟩) t 2, .string { data := #[122] }, .slice NA ns.length nk, .int .i64 16, .slice PA ps.length pk] ∧
    Own1 W (w.heap.size + 3) 9 (.slice NA ns.length nk) (strs ns) ∧ PsO W (w.heap.size + 3) (.slice PA ps.length pk) ps ∧ Below w.heap.size w W
theorem YI.step {w : World} {K : Int} {t : Nat} {NA : Option Addr} {nk : Nat} {PA : Option Addr} {pk : Nat} {ns : List ByteArray} {ps : List Pr} {W W' : World} (h : YI w K t NA nk PA pk ns ps W) (hb : Below W.heap.size W W') : YI w K t NA nk PA pk ns ps W' := by
  obtain ⟨h1, h2, h3, h4, h5, h6⟩ := h
  exact ⟨h1.step hb, h2.step hb, h3.step hb, h4.step hb, h5.step hb, bStep h6 hb⟩

theorem YI.box {w : World} {K : Int} {t : Nat} {NA : Option Addr} {nk : Nat} {PA : Option Addr} {pk : Nat} {ns : List ByteArray} {ps : List Pr} {W W1 : World} {row : Option Nat} (h : YI w K t NA nk PA pk ns ps W) (hg : W.grownBy W1 row) (hr : ∀ r, row = some r → w.heap.size + 3 ≤ r) (j : Nat) :
    W1.cell? ⟨w.heap.size + 2, j, none⟩ = W.cell? ⟨w.heap.size + 2, j, none⟩ ∧ W1.frozen? ⟨w.heap.size + 2, j, none⟩ = false := by
  have h3 := h.2.2.1.grown hg (fun e => by have := hr _ e.symm; omega)
  exact ⟨by rw [h3.cell, h.2.2.1.cell], h3.frozen j⟩
theorem YI.names {w : World} {K : Int} {t : Nat} {NA NA2 : Option Addr} {nk nk2 : Nat} {PA : Option Addr} {pk : Nat} {ns : List ByteArray} {s : ByteArray} {ps : List Pr} {W W1 : World} (h : YI w K t NA nk PA pk ns ps W) (hg : W.grownBy W1 (Value.slice NA ns.length nk).ownBlock) (ho : Own1 W1 (w.heap.size + 3) 9 (.slice NA2 (ns ++ [s]).length nk2) (strs (ns ++ [s]))) :
    YI w K t NA2 nk2 PA pk (ns ++ [s]) ps (W1.setCell ⟨w.heap.size + 2, 3, none⟩ (.slice NA2 (ns ++ [s]).length nk2)) := by
  obtain ⟨h1, h2, h3, h4, h5, h6⟩ := h
  have hlo : ∀ r, (Value.slice NA ns.length nk).ownBlock = some r → w.heap.size + 3 ≤ r := fun r e => (own_in h4 r e).1
  have h3' := h3.grown hg (fun e => by have := hlo _ e.symm; omega)
  have hty : ∀ (e : TypeId), e ≠ 9 → ∀ (b : Nat) (cs : Array Value), (Value.slice NA ns.length nk).ownBlock = some b → ¬ Blk W b e cs := fun e he b cs e1 hq => by obtain ⟨cs', hq'⟩ := own_blk h4 e1; exact he (blk_type hq hq')
  have hst := grownBy_setC' W1 (w.heap.size + 2) 3 (.slice NA2 (ns ++ [s]).length nk2)
  have hty2 : ∀ (e : TypeId), e ≠ 25 → ∀ (b : Nat) (cs : Array Value), some (w.heap.size + 2) = some b → ¬ Blk W1 b e cs := fun e he b cs e1 hq => by injection e1 with e1; subst e1; exact he (blk_type hq h3')
  have hb : Below w.heap.size W W1 := ⟨hg.os, hg.tape, hg.output, hg.size, fun k hk => hg.block k (by have := h6.size; omega) (fun e => by have := hlo _ e.symm; omega)⟩
  exact ⟨(h1.grown hg (fun e => by have := hlo _ e.symm; omega)).far (by simp) _, (h2.grown hg (fun e => by have := hlo _ e.symm; omega)).far (by simp) _, h3'.put 3 _, row_grown ho hst (hty2 9 (by decide)), (h5.grown hg (hty 3 (by decide)) (hty 49 (by decide))).grown hst (hty2 3 (by decide)) (hty2 49 (by decide)), bSet (h6.trans hb) _ _ (by simp)⟩
theorem YI.prods {w : World} {K : Int} {t : Nat} {NA PA2 : Option Addr} {nk pk2 : Nat} {PA : Option Addr} {pk : Nat} {ns : List ByteArray} {ps qs : List Pr} {W W1 : World} (h : YI w K t NA nk PA pk ns ps W) (hg : W.grownBy W1 (Value.slice PA ps.length pk).ownBlock) (ho : PsO W1 (w.heap.size + 3) (.slice PA2 qs.length pk2) qs) :
    YI w K t NA nk PA2 pk2 ns qs (W1.setCell ⟨w.heap.size + 2, 5, none⟩ (.slice PA2 qs.length pk2)) := by
  obtain ⟨h1, h2, h3, h4, h5, h6⟩ := h
  obtain ⟨rs, hpr⟩ := h5
  have hlo : ∀ r, (Value.slice PA ps.length pk).ownBlock = some r → w.heap.size + 3 ≤ r := fun r e => (own_in hpr.2.1 r e).1
  have h3' := h3.grown hg (fun e => by have := hlo _ e.symm; omega)
  have hty : ∀ (e : TypeId), e ≠ 49 → ∀ (b : Nat) (cs : Array Value), (Value.slice PA ps.length pk).ownBlock = some b → ¬ Blk W b e cs := fun e he b cs e1 hq => by obtain ⟨cs', hq'⟩ := own_blk hpr.2.1 e1; exact he (blk_type hq hq')
  have hst := grownBy_setC' W1 (w.heap.size + 2) 5 (.slice PA2 qs.length pk2)
  have hty2 : ∀ (e : TypeId), e ≠ 25 → ∀ (b : Nat) (cs : Array Value), some (w.heap.size + 2) = some b → ¬ Blk W1 b e cs := fun e he b cs e1 hq => by injection e1 with e1; subst e1; exact he (blk_type hq h3')
  have hb : Below w.heap.size W W1 := ⟨hg.os, hg.tape, hg.output, hg.size, fun k hk => hg.block k (by have := h6.size; omega) (fun e => by have := hlo _ e.symm; omega)⟩
  exact ⟨(h1.grown hg (fun e => by have := hlo _ e.symm; omega)).far (by simp) _, (h2.grown hg (fun e => by have := hlo _ e.symm; omega)).far (by simp) _, h3'.put 5 _, row_grown (row_grown h4 hg (hty 9 (by decide))) hst (hty2 9 (by decide)), ho.grown hst (hty2 3 (by decide)) (hty2 49 (by decide)), bSet (h6.trans hb) _ _ (by simp)⟩

end Go.Proofs.Ytlngbphchhbpbaa
