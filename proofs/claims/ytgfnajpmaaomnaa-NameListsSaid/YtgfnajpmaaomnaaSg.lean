/- The copies of a list of strings, and Sorted. -/
import Derived.Test.YtgfnajpmaaomnaaSf
import Derived.Test.YtgfnajpmaaomnaaFw
import Derived.WalkSpells
namespace Go.Proofs.Ytgfnajpmaaomnaa
open Go.ChangeShapes Go.WideShapes Go.ChangeAt Go.RowKit
open Go.Sort (swp PermIn SortedIn permIn_refl permIn_trans permIn_mono permIn_all)
set_option linter.unusedVariables false

/-- what a copy of a list hands back -/
def OwnP (w : World) (n : Nat) (l : List ByteArray) (e : Ending) (w' : World) : Prop :=
  ∃ v, e = .returned v ∧ w'.ownsRow w.heap.size 9 1 v n (l.map Value.string) ∧ Below w.heap.size w w'

theorem reads_news {w : World} {ad : Addr} {n : Nat} {l : List ByteArray} (h : Reads w (some ad) n l) (o : Obj) :
    (l.map Value.string).length = n * 1 ∧ ∀ j u, (l.map Value.string)[j]? = some u → (w.alloc o).cell? (ad.add j) = some u := by
  obtain ⟨h1, h2⟩ := reads_alloc h o
  refine ⟨by simp [h1], ?_⟩
  intro j u hu
  rcases h2 with h2 | ⟨b, off, h2, h3⟩
  · have : l = [] := List.eq_nil_of_length_eq_zero (by omega)
    subst this; simp at hu
  · cases h2
    have hj : j < l.length := by
      rcases Nat.lt_or_ge j l.length with h | h
      · exact h
      · rw [List.getElem?_eq_none (by simpa using h)] at hu; cases hu
    have hx : (l.map Value.string)[j]? = some (.string (l.getD j ByteArray.empty)) := by
      rw [List.getElem?_map, List.getElem?_eq_getElem hj, List.getD_eq_getElem?_getD, List.getElem?_eq_getElem hj]; rfl
    rw [hx] at hu
    cases hu
    have := h3 j hj
    unfold Addr.add
    by_cases h0 : j = 0
    · subst h0; simpa using this
    · simpa [h0] using this

theorem own_empty (w : World) : (w.alloc (.cells #[] 9)).ownsRow w.heap.size 9 1 (.slice (some ⟨w.heap.size, 0, none⟩) 0 0) 0 (([] : List ByteArray).map Value.string) :=
  ⟨rfl, .inr ⟨w.heap.size, 0, #[], rfl, Nat.le_refl _, heap_alloc_new w _, Nat.le_refl _, by simp [maxLen], rfl, rfl⟩⟩

theorem own_any (a : Option Addr) (n cap : Nat) (l : List ByteArray) (w : World) (hr : Reads w a n l) (hn : n ≤ 1000000) : Calls Try.prog 38 #[.slice a n cap] w (OwnP w n l) := by
  obtain ⟨i0, hi, hz0, hz1, hz2⟩ := info_parts Try.info9
  cases a with
  | none =>
    have h0 : n = 0 := by
      rcases hr.2 with h | ⟨b, off, h, _⟩
      · exact h
      · cases h
    have hl : l = [] := List.eq_nil_of_length_eq_zero (by have := hr.1; omega)
    subst h0; subst hl
    clear hr
    go_enter Try.func38, Try.ntmps38
    go_wp2_with fail
    go_ret
    exact ⟨_, rfl, own_empty w, (Below.refl _ _).alloc (Nat.le_refl _) _⟩
  | some ad =>
    have hR := Lib.hid (reads_news hr (.cells #[] 9))
    clear hr
    have hoe := own_empty w
    go_enter Try.func38, Try.ntmps38
    go_wp2_with (at_builtin; refine wpList_append_own _ rfl _ _ 37 rfl w.heap.size 9 i0 (.string ByteArray.empty) 1 16 Try.underlying37 hi hz0 hz1 hz2 rfl (by decide) _ _ _ rfl hoe ad n cap (l.map Value.string) rfl hR.out.1 ?c1 ?c2 ?c3 ?c4 ?c5 ?_)
    case c1 => exact hR.out.2
    case c2 => simp [Value.oneCell']
    case c3 => unfold maxLen; omega
    case c4 => omega
    case c5 => simp
    intro v' w' hown' hgrow hne
    have hk : Below w.heap.size w w' := Below.grown ((Below.refl _ _).alloc (Nat.le_refl _) _) hgrow (by simp) (own_block hoe)
    have hown2 : w'.ownsRow w.heap.size 9 1 v' n (l.map Value.string) := by simpa using hown'
    have hP := Lib.hid (show OwnP w n l (.returned v') w' from ⟨v', rfl, hown2, hk⟩)
    clear hown' hgrow hne hown2 hoe hk
    go_wp2_with fail
    go_ret
    exact hP.out

theorem clone_any (a : Option Addr) (n cap : Nat) (l : List ByteArray) (w : World) (hr : Reads w a n l) (hn : n ≤ 1000000) (hcap : a = none → cap = 0) : Calls Try.prog 55 #[.slice a n cap] w (OwnP w n l) := by
  obtain ⟨i0, hi, hz0, hz1, hz2⟩ := info_parts Try.info9
  cases a with
  | none =>
    have h0 : n = 0 := by
      rcases hr.2 with h | ⟨b, off, h, _⟩
      · exact h
      · cases h
    have hl : l = [] := List.eq_nil_of_length_eq_zero (by have := hr.1; omega)
    have hc := hcap rfl
    subst h0; subst hl; subst hc
    clear hr hcap
    have hnn := fun (w : World) (a : Option Addr) (n c : Nat) => Lib.run_eql_slice_nil (P := Try.prog) w 37 9 a n c 0 0 Try.underlying37
    go_enter Try.func55, Try.ntmps55
    go_wp2_with fail
    go_ret
    exact ⟨_, rfl, ⟨rfl, .inl ⟨rfl, rfl⟩⟩, Below.refl _ _⟩
  | some ad =>
    have hR := Lib.hid (reads_news hr (.cells #[] 9))
    clear hr hcap
    have hoe := own_empty w
    have hnn := fun (w : World) (a : Option Addr) (n c : Nat) => Lib.run_eql_slice_nil (P := Try.prog) w 37 9 a n c 0 0 Try.underlying37
    go_enter Try.func55, Try.ntmps55
    go_wp2_with (at_builtin; refine wpList_append_own _ rfl _ _ 37 rfl w.heap.size 9 i0 (.string ByteArray.empty) 1 16 Try.underlying37 hi hz0 hz1 hz2 rfl (by decide) _ _ _ rfl hoe ad n cap (l.map Value.string) rfl hR.out.1 ?c1 ?c2 ?c3 ?c4 ?c5 ?_)
    case c1 => exact hR.out.2
    case c2 => simp [Value.oneCell']
    case c3 => unfold maxLen; omega
    case c4 => omega
    case c5 => simp
    intro v' w' hown' hgrow hne
    have hk : Below w.heap.size w w' := Below.grown ((Below.refl _ _).alloc (Nat.le_refl _) _) hgrow (by simp) (own_block hoe)
    have hown2 : w'.ownsRow w.heap.size 9 1 v' n (l.map Value.string) := by simpa using hown'
    have hP := Lib.hid (show OwnP w n l (.returned v') w' from ⟨v', rfl, hown2, hk⟩)
    clear hown' hgrow hne hown2 hoe hk
    go_wp2_with fail
    go_ret
    exact hP.out

/-- the list sorted -/
def srt (l : List ByteArray) : List ByteArray := l.mergeSort fun x y => !ltB y x
def srtL (l : List ByteArray) : List ByteArray := if 100 < l.length then [] else srt l
def srtE (l : List ByteArray) : Int := if 100 < l.length then 6 else 0
theorem ltB_total (x y : ByteArray) (h1 : ltB x y = false) (h2 : ltB y x = false) : x = y := by
  rw [ltB_false] at h1 h2
  have h3 := cmpB_anti x y
  have h4 := cmpL_eq x.data.toList y.data.toList (show cmpB x y = 0 by omega)
  have h5 : x.data = y.data := Array.ext' h4
  cases x; cases y; simp_all

theorem row_own {w0 w : World} {g cap : Nat} {l : List ByteArray} {d : Array ByteArray} (h : w.ownsRow w0.heap.size 9 1 (.slice (some ⟨g, 0, none⟩) l.length cap) l.length (l.map Value.string)) (hk : Kept w0 w) (hd : d = l.toArray) : RowS w0 w g d ∧ l.length ≤ cap := by
  subst hd
  obtain ⟨hl, h⟩ := h
  rcases h with ⟨h, _⟩ | ⟨g', cap', cur, h, hb, hg, hc, hm, hsz, ht⟩
  · cases h
  · cases h
    refine ⟨⟨hk, hb, cur, hg, by simp; omega, ?_⟩, hc⟩
    intro i hi
    have hi' : i < l.length := by simpa using hi
    have hgi : (cur.toList.take (l.length * 1))[i]? = (l.map Value.string)[i]? := by rw [ht]
    rw [List.getElem?_take, if_pos (by omega), Array.getElem?_toList] at hgi
    rw [hgi, List.getElem?_map, List.getElem?_eq_getElem hi']
    simp [hi']

theorem row_reads {w0 w : World} {g : Nat} {d : Array ByteArray} (h : RowS w0 w g d) : Reads w (some ⟨g, 0, none⟩) d.toList.length d.toList := by
  refine ⟨rfl, .inr ⟨g, 0, rfl, fun i hi => ?_⟩⟩
  have hi' : i < d.size := by simpa using hi
  have := h.cell i hi'
  rw [Nat.zero_add, this]
  simp [hi']

def SortedP (w : World) (l : List ByteArray) (e : Ending) (w' : World) : Prop :=
  ∃ a cap, e = .returned (.tuple #[.slice a (srtL l).length cap, .int .i64 (srtE l)]) ∧ Reads w' a (srtL l).length (srtL l) ∧ (srtL l).length ≤ cap ∧ (a = none → cap = 0) ∧ Below w.heap.size w w'

theorem sorted_done {w w' : World} {g cap n : Nat} {l : List ByteArray} (hn : n = l.length) (hn2 : n ≤ 49) (hc : n ≤ cap) (h : PdqPost w g l.toArray 0 n (.returned (.tuple #[])) w') :
    SortedP w l (.returned (.tuple #[.slice (some ⟨g, 0, none⟩) n cap, .int .i64 0])) w' := by
  obtain ⟨_, d', S, hp, hs⟩ := h
  subst hn
  have h1 := Go.Sort.sorted_unique_holds swoB ltB_total l.toArray d' (by simpa using hp) (by simpa using hs)
  have hd : d'.toList = srt l := by simpa [srt] using h1
  have hlen : d'.size = l.length := by simpa using hp.1
  have hL : srtL l = srt l := by unfold srtL; rw [if_neg (by omega)]
  have hE : srtE l = 0 := by unfold srtE; rw [if_neg (by omega)]
  have hll : (srt l).length = l.length := by rw [← hd]; simpa using hlen
  unfold SortedP
  rw [hL, hE, hll]
  refine ⟨_, cap, rfl, ?_, hc, by simp, S.1⟩
  have := row_reads S
  rw [hd, hll] at this
  exact this

theorem sorted_nil {w w' : World} (hk : Below w.heap.size w w') : SortedP w [] (.returned (.tuple #[.slice none 0 0, .int .i64 0])) w' := by
  have hL : srtL [] = [] := by simp [srtL, srt]
  have hE : srtE [] = 0 := by simp [srtE]
  unfold SortedP
  rw [hL, hE]
  exact ⟨none, 0, rfl, ⟨rfl, .inl rfl⟩, Nat.le_refl _, fun _ => rfl, hk⟩

theorem sorted_many {w : World} {l : List ByteArray} (h : 100 < l.length) : SortedP w l (.returned (.tuple #[.slice none 0 0, .int .i64 6])) w := by
  have hL : srtL l = [] := by unfold srtL; rw [if_pos h]
  have hE : srtE l = 6 := by unfold srtE; rw [if_pos h]
  unfold SortedP
  rw [hL, hE]
  exact ⟨none, 0, rfl, ⟨rfl, .inl rfl⟩, Nat.le_refl _, fun _ => rfl, Below.refl _ _⟩

theorem sorted_any (a : Option Addr) (n cap : Nat) (l : List ByteArray) (w : World) (hr : Reads w a n l) (hn : n ≤ 49 ∨ 100 < n ∧ n ≤ 1000000) (hcap : a = none → cap = 0) : Calls Try.prog 34 #[.slice a n cap] w (SortedP w l) := by
  have hl := hr.1
  by_cases h1 : 100 < n
  · have hP := Lib.hid (sorted_many (w := w) (l := l) (by omega))
    clear hl hr hcap
    go_enter Try.func34, Try.ntmps34
    go_wp2_with fail
    refine (few_any a n cap w (by omega)).mono ?_
    rintro e w' ⟨rfl, rfl⟩
    rw [if_pos h1]
    go_wp2_with fail
    go_ret2
    exact hP.out
  · have hn49 : n ≤ 49 := by omega
    replace hl := Lib.hid hl
    replace hr := Lib.hid hr
    replace hcap := Lib.hid hcap
    go_enter Try.func34, Try.ntmps34
    go_wp2_with fail
    refine (few_any a n cap w (by omega)).mono ?_
    rintro e w' ⟨rfl, rfl⟩
    rw [if_neg h1]
    go_wp2_with fail
    refine (clone_any a n cap l w hr.out (by omega) hcap.out).mono ?_
    rintro e w1 ⟨v, rfl, hown, hk⟩
    rcases hown.2 with ⟨rfl, h0⟩ | ⟨g, c1, cur, rfl, _⟩
    · have hl0 : l = [] := List.eq_nil_of_length_eq_zero (by have := hl.out; omega)
      subst hl0; subst h0
      have hP := Lib.hid (sorted_nil hk)
      clear hown hk hl hr hcap
      go_wp2_with fail
      refine (sortf_zero none 0 _ w1).mono ?_
      rintro e w2 ⟨rfl, rfl⟩
      go_wp2_with fail
      go_ret2
      exact hP.out
    · have hR := row_own (by rw [hl.out] at hown; exact hown) hk rfl
      have hS := Lib.hid hR.1
      have hc1 := hR.2
      have hc2 : n ≤ c1 := by have := hl.out; omega
      clear hown hk hr hcap hR hc1
      go_wp2_with fail
      refine (sortf_any g c1 n l.toArray w w1 (by simpa using hl.out.symm) hn49 hS.out).mono ?_
      rintro e w2 hP
      have he := hP.1
      subst he
      replace hP := Lib.hid (sorted_done hl.out hn49 hc2 hP)
      go_wp2_with fail
      go_ret2
      exact hP.out
end Go.Proofs.Ytgfnajpmaaomnaa
