/- count, Short, the argument of strings, the plain laws of the sorted list. -/
import Derived.Test.YtgfnajpmaaomnaaSg
namespace Go.Proofs.Ytgfnajpmaaomnaa
open Go.ChangeShapes Go.WideShapes Go.ChangeAt Go.RowKit
set_option linter.unusedVariables false

def cntL (s : ByteArray) (l : List ByteArray) : Nat := l.countP fun x => decide (x = s)
theorem cnt_step (s : ByteArray) (l : List ByteArray) (k : Nat) (h : k < l.length) : cntL s (l.take (k + 1)) = cntL s (l.take k) + if l.getD k ByteArray.empty = s then 1 else 0 := by
  rw [take_drop_snoc l k h]
  unfold cntL
  rw [List.countP_append]
  generalize l.getD k ByteArray.empty = x
  by_cases hx : x = s
  · rw [if_pos hx]; simp [hx]
  · rw [if_neg hx]; simp [hx]
theorem cnt_le (s : ByteArray) (l : List ByteArray) : cntL s l ≤ l.length := List.countP_le_length

theorem count_any (a : Option Addr) (n cap : Nat) (l : List ByteArray) (s : ByteArray) (w : World) (hr : Reads w a n l) (hn : n ≤ 1000000) :
    Calls Try.prog 37 #[.slice a n cap, .string s] w fun e w' => e = .returned (.int .i64 (cntL s l)) ∧ w = w' := by
  obtain ⟨rfl, hc⟩ := hr
  replace hc := Lib.hid hc
  go_enter Try.func37, Try.ntmps37
  go_wp2_with fail
  go_loopg [5, 6] l.length (fun k v5 v6 wr => ∃ i c : Nat, wr = w ∧ v6 = .int .i64 i ∧ v5 = .int .i64 c ∧ i + k = l.length ∧ cntL s (l.take i) = c)
  case atStart => exact ⟨0, 0, rfl, rfl, rfl, by omega, rfl⟩
  case round =>
    obtain ⟨i, c, rfl, rfl, rfl, hk, hg⟩ := hrel
    have hci := cnt_le s (l.take i)
    rw [hg, List.length_take] at hci
    replace hg := Lib.hid hg
    have hc0 : (0 : Int) ≤ c := by omega
    have hc1 : (c : Int) ≤ 1000000 := by omega
    clear hci
    by_cases hp : i < l.length
    · rcases hc.out with hz | ⟨b, off, rfl, hst⟩
      · omega
      have hcell := hst i hp
      have hs := cnt_step s l i hp
      generalize l.getD i ByteArray.empty = x at hcell hs
      have hpz : 0 ≤ (i : Int) := by omega
      have hpl : (i : Int) < l.length := by omega
      have hpd : decide ((i : Int) < l.length) = true := decide_eq_true hpl
      by_cases hx : x = s
      · have hxb := eqT x s hx
        have hS : cntL s (l.take (i + 1)) = c + 1 := by rw [hs, hg.out, if_pos hx]
        replace hS := Lib.hid hS
        clear hs hst hx
        go_wp2_with fail
        go_roundg (l.length - (i + 1))
        case measure => omega
        case rel => exact ⟨i + 1, c + 1, rfl, by go_num, by go_num, by omega, hS.out⟩
      · have hxb := eqF x s hx
        have hS : cntL s (l.take (i + 1)) = c := by rw [hs, hg.out, if_neg hx]; rfl
        replace hS := Lib.hid hS
        clear hs hst hx
        go_wp2_with fail
        go_roundg (l.length - (i + 1))
        case measure => omega
        case rel => exact ⟨i + 1, c, rfl, by go_num, rfl, by omega, hS.out⟩
    · have hps : ¬ i < l.length := hp
      have hpd : decide (i < l.length) = false := decide_eq_false hp
      have hS : cntL s l = c := by rw [← hg.out, List.take_of_length_le (by omega)]
      replace hS := Lib.hid hS
      go_wp2_with fail
      go_ret
      exact ⟨by rw [hS.out]; rfl, rfl⟩

def shortB (k : Nat) (l : List ByteArray) : Bool := l.all fun x => decide (x.size ≤ k)
theorem short_step (k : Nat) (l : List ByteArray) (i : Nat) (h : i < l.length) : shortB k (l.drop i) = (decide ((l.getD i ByteArray.empty).size ≤ k) && shortB k (l.drop (i + 1))) := by
  rw [drop_cons l i h]; simp [shortB]

theorem short_any (a : Option Addr) (n cap : Nat) (l : List ByteArray) (k : Nat) (w : World) (hr : Reads w a n l) (hn : n ≤ 1000000) (hk1 : k ≤ 1000) (hsz : ∀ x ∈ l, x.size ≤ maxLen) :
    Calls Try.prog 33 #[.slice a n cap, .int .i64 k] w fun e w' => e = .returned (.bool (shortB k l)) ∧ w = w' := by
  obtain ⟨rfl, hc⟩ := hr
  replace hc := Lib.hid hc
  replace hsz := Lib.hid hsz
  generalize hT : shortB k l = T
  have hT : shortB k (l.drop 0) = T := hT
  replace hT := Lib.hid hT
  go_enter Try.func33, Try.ntmps33
  go_wp2_with fail
  go_loopg [5] l.length (fun m v5 wr => ∃ i : Nat, wr = w ∧ v5 = .int .i64 i ∧ i + m = l.length ∧ shortB k (l.drop i) = T)
  case atStart => exact ⟨0, rfl, rfl, by omega, hT.out⟩
  case round =>
    obtain ⟨i, rfl, rfl, hk, hg⟩ := hrel
    replace hg := Lib.hid hg
    by_cases hp : i < l.length
    · rcases hc.out with hz | ⟨b, off, rfl, hst⟩
      · omega
      have hcell := hst i hp
      have hs := short_step k l i hp
      have hxs : (l.getD i ByteArray.empty).size ≤ maxLen := hsz.out _ (by rw [List.getD_eq_getElem?_getD, List.getElem?_eq_getElem hp]; simp)
      unfold maxLen at hxs
      generalize l.getD i ByteArray.empty = x at hcell hs hxs
      have hpz : 0 ≤ (i : Int) := by omega
      have hpl : (i : Int) < l.length := by omega
      have hpd : decide ((i : Int) < l.length) = true := decide_eq_true hpl
      have hg2 := hg.out
      rw [hs] at hg2
      by_cases hx : x.size ≤ k
      · have hxb : decide (k < x.size) = false := decide_eq_false (by omega)
        have hS : shortB k (l.drop (i + 1)) = T := by rw [← hg2]; simp [hx]
        replace hS := Lib.hid hS
        clear hs hst hx hg2
        go_wp2_with fail
        go_roundg (l.length - (i + 1))
        case measure => omega
        case rel => exact ⟨i + 1, rfl, by go_num, by omega, hS.out⟩
      · have hxb : decide (k < x.size) = true := decide_eq_true (by omega)
        have hS : T = false := by rw [← hg2]; simp [hx]
        subst hS
        clear hs hst hx hg2
        go_wp2_with fail
        go_ret
        exact ⟨rfl, rfl⟩
    · have hps : ¬ i < l.length := hp
      have hpd : decide (i < l.length) = false := decide_eq_false hp
      have hS : T = true := by rw [← hg.out, List.drop_of_length_le (by omega)]; rfl
      subst hS
      go_wp2_with fail
      go_ret
      exact ⟨rfl, rfl⟩

/-- an argument that is a list of strings -/
def IsStrs (w : World) (a : Option Addr) (len cap : Nat) (zs : List ByteArray) : Prop :=
  (a = none ∧ len = 0 ∧ cap = 0 ∧ zs = []) ∨
  ∃ x, a = some x ∧ len ≤ cap ∧ cap ≤ maxLen ∧ zs.length = cap ∧ ∀ i, i < cap → w.cell? (x.add i) = some (.string (zs.getD i ByteArray.empty)) ∧ (zs.getD i ByteArray.empty).size ≤ maxLen

theorem strs_reads {w : World} {a : Option Addr} {len cap : Nat} {zs : List ByteArray} (h : IsStrs w a len cap zs) :
    Reads w a len (zs.take len) ∧ (∀ x ∈ zs.take len, x.size ≤ maxLen) ∧ len ≤ cap ∧ cap ≤ maxLen ∧ (a = none → cap = 0) := by
  rcases h with ⟨rfl, rfl, rfl, rfl⟩ | ⟨⟨b, off, spot⟩, rfl, h1, h2, h3, h4⟩
  · exact ⟨⟨rfl, .inl rfl⟩, by simp, Nat.le_refl _, by simp [maxLen], fun _ => rfl⟩
  · have hll : (zs.take len).length = len := by rw [List.length_take]; omega
    refine ⟨⟨hll.symm, ?_⟩, ?_, h1, h2, by simp⟩
    · by_cases h0 : len = 0
      · exact .inl h0
      · have hc0 := (h4 0 (by omega)).1
        have hs : spot = none := by simpa [Addr.add] using World.cell?_spot hc0
        subst hs
        refine .inr ⟨b, off, rfl, fun i hi => ?_⟩
        have hg : (zs.take len).getD i ByteArray.empty = zs.getD i ByteArray.empty := by
          rw [List.getD_eq_getElem?_getD, List.getD_eq_getElem?_getD, List.getElem?_take, if_pos (by omega)]
        rw [hg]
        have hc := (h4 i (by omega)).1
        cases i with
        | zero => simpa [Addr.add] using hc
        | succ i => simpa [Addr.add] using hc
    · intro x hx
      obtain ⟨i, hi, rfl⟩ := List.mem_iff_getElem.mp hx
      have := (h4 i (by omega)).2
      rw [List.getElem_take]
      rwa [List.getD_eq_getElem?_getD, List.getElem?_eq_getElem (by omega)] at this
end Go.Proofs.Ytgfnajpmaaomnaa
