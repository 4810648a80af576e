/- Walks and plain laws, part 4 of 10: The looks there are; what tail computes; The reference 14: both, Union of two sets, Sum; The reference 14: Sum; follow.tail; Own sets; FIRST as a predicate; One round of begins, plainly; FOLLOW as a predicate; its laws; One round of all, plainly; The kit: Mod, At, OwnTexts, OwnInts; Grammars out of numbers, plainly; what a right grammar gives; Sets of looks in a slice of slices; the rounds of the reference 16, plainly. Conditions: none beyond those that each theorem states. -/
import Derived.Test.YtnnkfgekiaaehaaGreatC3
/- The looks there are; what tail computes. -/
namespace Go.Proofs.YtnnkfgekiaaehaaGreat
open Go.ChangeShapes Go.WideShapes Go.ChangeAt Go.RowKit
set_option linter.unusedVariables false
def digs8 : List Int := [0, 1, 2, 3, 4, 5, 6, 7]
def wordsOf : Nat → List (List Int)
  | 0 => [[]]
  | n + 1 => digs8.flatMap fun a => (wordsOf n).map (a :: ·)
def univ : List Lk := ((List.range 5).flatMap wordsOf).map Lk.of
theorem univ_len : univ.length = 4681 := by decide +kernel
theorem digs8_mem {v : Int} (h1 : 0 ≤ v) (h2 : v < 8) : v ∈ digs8 := by
  have : v = 0 ∨ v = 1 ∨ v = 2 ∨ v = 3 ∨ v = 4 ∨ v = 5 ∨ v = 6 ∨ v = 7 := by omega
  simpa [digs8] using this
theorem words_mem : ∀ t : List Int, (∀ v ∈ t, 0 ≤ v ∧ v < 8) → t ∈ wordsOf t.length
  | [], _ => by simp [wordsOf]
  | a :: t, h => by
    simp only [List.length_cons, wordsOf, List.mem_flatMap]
    exact ⟨a, digs8_mem (h a List.mem_cons_self).1 (h a List.mem_cons_self).2, List.mem_map.2 ⟨t, words_mem t (fun v hv => h v (List.mem_cons_of_mem _ hv)), rfl⟩⟩
theorem univ_mem {x : Lk} (h : x.right 8) : x ∈ univ := by
  obtain ⟨_, h4, ho, hv⟩ := right_l h
  rw [← ho]
  exact List.mem_map_of_mem (List.mem_flatMap.2 ⟨x.l.length, List.mem_range.2 (by omega), words_mem _ hv⟩)
theorem right_len {s : List Lk} (hn : s.Nodup) (hr : ∀ x ∈ s, x.right 8) : s.length ≤ 4681 := by
  rw [← univ_len]; exact nodup_len hn fun x hx => univ_mem (hr x hx)
theorem addL_nodup {s : List Lk} (h : s.Nodup) (z : Lk) : (addL s z).Nodup := by
  unfold addL; split
  · exact h
  · rename_i hz
    rw [List.nodup_append]
    exact ⟨h, by simp, fun a ha b hb => by simp at hb; subst hb; rintro rfl; exact hz ha⟩
theorem addAll_nodup {s : List Lk} (h : s.Nodup) (l : List Lk) : (addAll s l).Nodup := by
  induction l generalizing s with
  | nil => exact h
  | cons z l ih => exact ih (addL_nodup h z)
theorem sums_mem (k : Nat) (la lb : List Lk) (z : Lk) : z ∈ sumsJ k la lb ↔ ∃ x ∈ la, ∃ y ∈ lb, z = lplus k x y := by
  simp only [sumsJ, rowJ, List.mem_flatMap, List.mem_map]
  constructor
  · rintro ⟨x, hx, y, hy, rfl⟩; exact ⟨x, hx, y, hy, rfl⟩
  · rintro ⟨x, hx, y, hy, rfl⟩; exact ⟨x, hx, y, hy, rfl⟩
def Fit (k : Nat) (x : Lk) : Prop := x.right 8 ∧ x.l.length ≤ k
theorem sums_fit {k : Nat} (hk : k ≤ 4) {la lb : List Lk} (ha : ∀ x ∈ la, Fit k x) (hb : ∀ x ∈ lb, Fit k x) : ∀ z ∈ sumsJ k la lb, Fit k z := by
  intro z hz
  obtain ⟨x, hx, y, hy, rfl⟩ := (sums_mem k la lb z).1 hz
  exact ⟨lplus_right hk (ha x hx).1 (hb y hy).1, by rw [lplus_l hk, List.length_take]; omega⟩
theorem all_fit {k : Nat} {s l : List Lk} (ha : ∀ x ∈ s, Fit k x) (hb : ∀ x ∈ l, Fit k x) : ∀ z ∈ addAll s l, Fit k z := fun z hz =>
  ((addAll_mem s l z).1 hz).elim (ha z) (hb z)
def oneL (ss : List (List Lk)) (s : Int) : List Lk := if 16 ≤ s then lset (ss.getD (s - 16).toNat []) else [Lk.of [s]]
def stepL (k : Nat) (ss : List (List Lk)) (out : List Lk) (s : Int) : List Lk := lset (addAll [] (sumsJ k out (oneL ss s)))
def tailL (k : Nat) (ss : List (List Lk)) (l : List Int) : List Lk := l.foldl (stepL k ss) [Lk.of []]
theorem tailL_snoc (k : Nat) (ss : List (List Lk)) (l : List Int) (s : Int) : tailL k ss (l ++ [s]) = stepL k ss (tailL k ss l) s := by simp [tailL]
def SymOk (n : Nat) (s : Int) : Prop := (0 ≤ s ∧ s < 8) ∨ (16 ≤ s ∧ s < 16 + (n : Int))
def SetsFit (k : Nat) (ss : List (List Lk)) : Prop := ∀ s ∈ ss, ∀ x ∈ s, Fit k x
theorem setsFit_get {k : Nat} {ss : List (List Lk)} (h : SetsFit k ss) (i : Nat) : ∀ x ∈ ss.getD i [], Fit k x := by
  intro x hx
  rw [List.getD_eq_getElem?_getD] at hx
  cases hi : ss[i]? with
  | none => rw [hi] at hx; simp at hx
  | some s => rw [hi] at hx; exact h s (List.mem_of_getElem? hi) x hx
theorem lset_fit {k : Nat} {l : List Lk} (h : ∀ x ∈ l, Fit k x) : ∀ x ∈ lset l, Fit k x := fun x hx => h x ((lset_mem (fun y hy => (h y hy).1) x).1 hx)
theorem one_fit {k n : Nat} (hk : 1 ≤ k) {ss : List (List Lk)} (h : SetsFit k ss) {s : Int} (hs : SymOk n s) : ∀ x ∈ oneL ss s, Fit k x := by
  unfold oneL
  split
  · exact lset_fit (setsFit_get h _)
  · intro x hx
    simp at hx
    subst hx
    have hv : 0 ≤ s ∧ s < 8 := by unfold SymOk at hs; omega
    refine ⟨of_right (by omega) (by simp) (by simpa using hv), ?_⟩
    rw [l_of _ (by simp)]; simpa using hk
theorem step_fit {k n : Nat} (hk : 1 ≤ k) (hk4 : k ≤ 4) {ss : List (List Lk)} (h : SetsFit k ss) {out : List Lk} (ho : ∀ x ∈ out, Fit k x) {s : Int} (hs : SymOk n s) : ∀ x ∈ stepL k ss out s, Fit k x :=
  lset_fit (all_fit (by simp) (sums_fit hk4 ho (one_fit hk h hs)))
theorem nil_fit (k : Nat) : Fit k (Lk.of []) := ⟨nil_right 8 (by omega), by rw [l_of _ (by simp)]; simp⟩
theorem tail_fit {k n : Nat} (hk : 1 ≤ k) (hk4 : k ≤ 4) {ss : List (List Lk)} (h : SetsFit k ss) (l : List Int) (hl : ∀ s ∈ l, SymOk n s) : ∀ x ∈ tailL k ss l, Fit k x := by
  unfold tailL
  have : ∀ (l : List Int) (out : List Lk), (∀ s ∈ l, SymOk n s) → (∀ x ∈ out, Fit k x) → ∀ x ∈ l.foldl (stepL k ss) out, Fit k x := by
    intro l
    induction l with
    | nil => intro out _ ho; exact ho
    | cons s l ih => intro out hl ho; exact ih _ (fun y hy => hl y (List.mem_cons_of_mem _ hy)) (step_fit hk hk4 h ho (hl s List.mem_cons_self))
  exact this l _ hl (by intro x hx; simp at hx; subst hx; exact nil_fit k)
theorem lset_nodup {k : Nat} {l : List Lk} (h : ∀ x ∈ l, Fit k x) : (lset l).Nodup := asc_nodup (lset_asc fun x hx => (h x hx).1)
theorem fit_len {k : Nat} {s : List Lk} (hn : s.Nodup) (hr : ∀ x ∈ s, Fit k x) : s.length ≤ 4681 := right_len hn fun x hx => (hr x hx).1
theorem tail_nodup {k n : Nat} (hk : 1 ≤ k) (hk4 : k ≤ 4) {ss : List (List Lk)} (h : SetsFit k ss) (l : List Int) (hl : ∀ s ∈ l, SymOk n s) : (tailL k ss l).Nodup := by
  rcases List.eq_nil_or_concat l with rfl | ⟨l', s, rfl⟩
  · simp [tailL]
  · rw [List.concat_eq_append] at hl ⊢
    rw [tailL_snoc]
    unfold stepL
    exact lset_nodup (all_fit (by simp) (sums_fit hk4 (tail_fit hk hk4 h l' (fun y hy => hl y (List.mem_append_left _ hy))) (one_fit hk h (hl s (by simp)))))
def SetsR (W : World) (B : Nat) (A : Option Addr) (n : Nat) (ss : List (List Lk)) : Prop :=
  ss.length = n ∧ (n = 0 ∨ ∃ b off, A = some ⟨b, off, none⟩ ∧ b < B ∧ ∀ (i : Nat) (s : List Lk), ss[i]? = some s → ∃ mb, mb < B ∧ W.cell? ⟨b, off + i, none⟩ = some (.map (some mb)) ∧ MapK lookKey W mb s)
theorem MapK.below {α : Type} {E : KeyEnc α} {w w' : World} {B b : Nat} {s : List α} (h : MapK E w b s) (hb : Below B w w') (hlt : b < B) : MapK E w' b s := by
  obtain ⟨es, clock, h1, h2⟩ := h
  exact ⟨es, clock, (hb.block b hlt).trans h1, h2⟩
theorem SetsR.below {W W' : World} {B : Nat} {A : Option Addr} {n : Nat} {ss : List (List Lk)} (h : SetsR W B A n ss) (hb : Below B W W') : SetsR W' B A n ss := by
  refine ⟨h.1, ?_⟩
  rcases h.2 with h0 | ⟨b, off, rfl, hlt, hc⟩
  · exact .inl h0
  · refine .inr ⟨b, off, rfl, hlt, fun i s hs => ?_⟩
    obtain ⟨mb, h1, h2, h3⟩ := hc i s hs
    exact ⟨mb, h1, (hb.cell (p := ⟨b, off + i, none⟩) hlt).trans h2, h3.below hb h1⟩
theorem rdL_one {W : World} {g : Nat} {x : Lk} (h : Blk W g 41 x.cells) : RdL W (g + 1) (some ⟨g, 0, none⟩) 1 [x] := by
  refine ⟨rfl, .inr ⟨g, 0, rfl, by omega, fun i y hy j hj => ?_⟩⟩
  have hi : i = 0 := by have := (List.getElem?_eq_some_iff.1 hy).1; simp at this; omega
  subst hi
  simp at hy
  subst hy
  rw [h.cell]; simp
theorem ownL_one {W : World} {g base : Nat} {x : Lk} (h : Blk W g 41 x.cells) (hb : base ≤ g) : OwnL W base (.slice (some ⟨g, 0, none⟩) 1 1) [x] :=
  ⟨by simp [cellsL, Lk.cells], .inr ⟨g, 1, x.cells, rfl, hb, h, Nat.le_refl _, by simp [maxLen], rfl, by simp [cellsL, Lk.cells]⟩⟩
end Go.Proofs.YtnnkfgekiaaehaaGreat

/- The reference 14: both, Union of two sets, Sum. -/
namespace Go.Proofs.YtnnkfgekiaaehaaGreat
open Go.ChangeShapes Go.WideShapes Go.ChangeAt Go.RowKit
set_option linter.unusedVariables false
structure SetAt (w : World) (m : Int) (A : Option Addr) (n c : Nat) (l : List Lk) : Prop where
  rd : RdL w w.heap.size A n l
  right : ∀ x ∈ l, x.right m
  asc : Asc l
  n4 : n ≤ 4681
  nc : n ≤ c
  cm : c ≤ maxLen
theorem SetAt.step {w w' : World} {m : Int} {A : Option Addr} {n c : Nat} {l : List Lk} (h : SetAt w m A n c l) (hb : Below w.heap.size w w') : SetAt w' m A n c l :=
  ⟨(h.rd.below hb).mono hb.size, h.right, h.asc, h.n4, h.nc, h.cm⟩
theorem SetAt.of_own {w : World} {m : Int} {base : Nat} {v : Value} {l : List Lk} (h : OwnL w base v l) (hr : ∀ x ∈ l, x.right m) (hm8 : m ≤ 8) (ha : Asc l) : ∃ A c, v = .slice A l.length c ∧ SetAt w m A l.length c l := by
  obtain ⟨A, c, e, h1, h2, h3, _⟩ := h.reads
  refine ⟨A, c, e, h1, hr, ha, right_len (asc_nodup ha) fun x hx => ?_, h2, h3⟩
  exact right_mono (hr x hx) hm8 (by omega)
theorem both14_ok (m : Int) (A A2 : Option Addr) (n n2 c c2 : Nat) (la lb : List Lk) (w : World) (hm1 : 1 ≤ m) (hm8 : m ≤ 8) (ha : SetAt w m A n c la) (hb : SetAt w m A2 n2 c2 lb) :
    Calls Tryz.prog 80 #[.int .i64 m, .slice A n c, .slice A2 n2 c2] w fun e w' => e = .returned (.int .i64 0) ∧ Below w.heap.size w w' := by
  have hC := Lib.hid (fun (W : World) (A : Option Addr) (n c : Nat) (l : List Lk) (h : SetAt W m A n c l) => check14_ok m A n c l W hm1 hm8 h.n4 h.rd h.right h.asc)
  go_enter Tryz.func80, Tryz.ntmps80
  go_wp2_with fail
  refine (hC.out _ A n c la ha).mono ?_
  rintro e w1 ⟨rfl, hb1⟩
  go_wp2_with fail
  refine (hC.out _ A2 n2 c2 lb (hb.step hb1)).mono ?_
  rintro e w2 ⟨rfl, hb2⟩
  go_wp2_with fail
  go_ret
  exact ⟨rfl, bStep hb1 hb2⟩
def uniL (la lb : List Lk) (i : Nat) : List Lk := if i = 0 then [] else if i = 1 then la else lmerge la lb
set_option maxHeartbeats 1000000 in
theorem union_ok (m : Int) (g : Nat) (A A2 : Option Addr) (n n2 c c2 : Nat) (la lb : List Lk) (w : World) (hm1 : 1 ≤ m) (hm8 : m ≤ 8) (ha : SetAt w m A n c la) (hb : SetAt w m A2 n2 c2 lb) (q : Blk w g 28 #[.slice A n c, .slice A2 n2 c2]) :
    Calls Tryz.prog 85 #[.int .i64 m, .slice (some ⟨g, 0, none⟩) 2 2] w (RetL0 w (lmerge la lb)) := by
  have hP := Lib.hid (fun (v : Value) (w' : World) (h1 : OwnL w' w.heap.size v (lmerge la lb)) (h2 : Below w.heap.size w w') => (show RetL0 w (lmerge la lb) (.returned (.tuple #[v, .int .i64 0])) w' from ⟨v, rfl, h1, h2⟩))
  have hC := Lib.hid (fun (W : World) (A : Option Addr) (n c : Nat) (l : List Lk) (h : SetAt W m A n c l) => check14_ok m A n c l W hm1 hm8 h.n4 h.rd h.right h.asc)
  have r8 : ∀ {l : List Lk}, (∀ x ∈ l, x.right m) → ∀ x ∈ l, x.right 8 := fun h x hx => right_mono (h x hx) hm8 (by omega)
  have hE : Hid (∀ i, i < 2 → ∃ X xn xc l, w.cell? ⟨g, i, none⟩ = some (.slice X xn xc) ∧ SetAt w m X xn xc l ∧ lmerge (uniL la lb i) l = uniL la lb (i + 1) ∧ (∀ x ∈ uniL la lb i, x.right 8) ∧ (uniL la lb i).length ≤ 4681 ∧ (∀ x ∈ l, x.right 8)) := Lib.hid fun i hi => by
    obtain rfl | rfl : i = 0 ∨ i = 1 := by omega
    · exact ⟨A, n, c, la, q.cell 0, ha, by simp [uniL, lmerge], by simp [uniL], by simp [uniL], r8 ha.right⟩
    · exact ⟨A2, n2, c2, lb, q.cell 1, hb, by simp [uniL], by simpa [uniL] using r8 ha.right, by simpa [uniL, ha.rd.1] using ha.n4, r8 hb.right⟩
  have hend : Hid (uniL la lb 2 = lmerge la lb) := Lib.hid (by simp [uniL])
  have hlt := q.lt
  clear q ha hb
  go_enter Tryz.func85, Tryz.ntmps85
  go_wp2_with fail
  refine (range8_any m _).mono ?_
  rintro e w1 ⟨rfl, rfl⟩
  rw [if_neg (by omega)]
  go_wp2_with fail
  go_loopg [6, 7] 2 (fun gk s6 s7 wr => ∃ i : Nat, s6 = .int .i64 0 ∧ s7 = .int .i64 i ∧ i + gk = 2 ∧ Below w.heap.size w wr)
  case atStart => exact ⟨0, rfl, rfl, by omega, Below.refl _ _⟩
  case round =>
    obtain ⟨i, rfl, rfl, hi, hb⟩ := hrel
    replace hi := Lib.hid hi
    by_cases hin : i < 2
    · obtain ⟨X, xn, xc, l, hcell, hS, _⟩ := hE.out i hin
      have hcell' := (hb.cell (p := ⟨g, i, none⟩) hlt).trans hcell
      have z1 : (0 : Int) ≤ i := by omega
      have z2 : (i : Int) < 2 := by omega
      go_wp2_with fail
      refine (hC.out _ X xn xc l (hS.step hb)).mono ?_
      rintro e w2 ⟨rfl, hb2⟩
      go_wp2_with fail
      go_roundg (2 - (i + 1))
      case measure => have := hi.out; omega
      case rel => exact ⟨i + 1, rfl, by go_num, by have := hi.out; omega, bStep hb hb2⟩
    · go_wp2_with fail
      go_loopg [9, 8] 2 (fun gk s9 s8 wr => ∃ i : Nat, s9 = .int .i64 i ∧ i + gk = 2 ∧ OwnL wr w.heap.size s8 (uniL la lb i) ∧ Below w.heap.size w wr)
      case atStart => exact ⟨0, rfl, by omega, by simpa [uniL] using OwnL.nil _ _, hb⟩
      case round =>
        clear hb hi hin
        obtain ⟨i, rfl, hi, ho, hb⟩ := hrel
        replace hi := Lib.hid hi
        by_cases hin : i < 2
        · obtain ⟨X, xn, xc, l, hcell, hS, hmg, hr1, hl1, hr2⟩ := hE.out i hin
          have hcell' := (hb.cell (p := ⟨g, i, none⟩) hlt).trans hcell
          have z1 : (0 : Int) ≤ i := by omega
          have z2 : (i : Int) < 2 := by omega
          generalize uniL la lb i = U at *
          obtain ⟨A1, c1, rfl, hd1, hk1, hm1', hg1⟩ := ho.reads
          replace hmg := Lib.hid hmg
          have hS' := hS.step hb
          have hn4 := hS.n4
          go_wp2_with fail
          refine (merge_any A1 X U.length xn c1 xc U l _ hd1 hS'.rd hr1 hr2 hk1 hS.nc hm1' hS.cm (by omega)).mono ?_
          rintro e w2 ⟨v, rfl, ho2, hb2⟩
          rw [hmg.out] at ho2
          go_wp2_with fail
          go_roundg (2 - (i + 1))
          case measure => have := hi.out; omega
          case rel => exact ⟨i + 1, by go_num, by have := hi.out; omega, ho2.mono hb.size, bStep hb hb2⟩
        · have he : i = 2 := by have := hi.out; omega
          subst he
          rw [hend.out] at ho
          go_wp2_with fail
          go_ret2
          exact hP.out _ _ ho hb
section
variable {w : World} {ops : Array Oper} {o : Oper} {a : Act} {K : Act → World → Prop} {Q : Exit → Act → World → Prop}
theorem wp_pushL (s x : Operand) (ho : o.op = .call { callee := .builtin .append, args := #[s, x], argTypes := #[28, 28] })
    (base : Nat) (v : Value) (l : List Lk) (hs : a.eval s = v) (hown : OwnL w base v l) (g : Nat) (k : Lk) (hx : a.eval x = .slice (some ⟨g, 0, none⟩) 1 1) (hb : Blk w g 41 k.cells) (h63 : l.length < 1000000) (hbase : base ≤ w.heap.size)
    (h : ∀ v' w', OwnL w' base v' (l ++ [k]) → w.grownBy w' v.ownBlock → (∀ W0, Below base W0 w → Below base W0 w') → K (a.put o.dst v') w') : Oper.wp Tryz.prog o a w K Q := by
  obtain ⟨i0, hi0, hz0, hz1, hz2⟩ := info_parts info42
  have ht : Tryz.prog.underlying 28 = some (.slice 41) := by kernel_rfl
  have hnews : ∀ j u, k.cells.toList[j]? = some u → w.cell? ((⟨g, 0, none⟩ : Addr).add j) = some u := by
    intro j u hu
    have hadd : (⟨g, 0, none⟩ : Addr).add j = ⟨g, j, none⟩ := by unfold Addr.add; split <;> simp_all
    rw [hadd, hb.cell]
    simpa using hu
  obtain ⟨v', w', hrun, h2, h3, h4, h5⟩ := run_append_own_at (P := Tryz.prog) w base 28 o.type 41 i0 _ 5 40 ht hi0 hz0 hz1 hz2 rfl (by omega) v l.length (cellsL l) hown ⟨g, 0, none⟩ 1 1 k.cells.toList (by simp [Lk.cells]) hnews (by simp [Lk.cells, Value.oneCell']) (by unfold maxLen; omega) (by omega) hbase
  unfold Oper.wp execOp
  simp only [ho, resolve, invoke, builtin, Sem.run_bind, Sem.run_pure, Result.andThen_ok, List.map_toArray, List.map_cons, List.map_nil, hs, hx, hrun]
  refine h v' w' ?_ h3 fun W0 hB => hB.grown h3 hbase (fun k hk => (own_in hown k hk).1)
  unfold OwnL
  rw [cellsL_append, List.length_append]
  have : cellsL [k] = k.cells.toList := by simp [cellsL]
  rw [this]
  exact h2
end
end Go.Proofs.YtnnkfgekiaaehaaGreat

/- The reference 14: Sum. -/
namespace Go.Proofs.YtnnkfgekiaaehaaGreat
open Go.ChangeShapes Go.WideShapes Go.ChangeAt Go.RowKit
set_option linter.unusedVariables false
theorem fit_plus_nil {k : Nat} (hk : k ≤ 4) {x : Lk} (h : Fit k x) : lplus k x (Lk.of []) = x := by
  refine right_ext (m := 8) (k := 8) (lplus_right hk h.1 (nil_right 8 (by omega))) h.1 ?_
  rw [lplus_l hk, l_of _ (by simp), List.append_nil, List.take_of_length_le h.2]
theorem full_plus {k : Nat} (hk : k ≤ 4) {x y : Lk} (h : Fit k x) (hy : y.right 8) (hn : x.l.length = k) : lplus k x y = x := by
  refine right_ext (m := 8) (k := 8) (lplus_right hk h.1 hy) h.1 ?_
  rw [lplus_l hk, List.take_append_of_le_length (by omega), List.take_of_length_le (by omega)]
theorem lcut_same {k : Nat} (hk : k ≤ 4) {l : List Lk} (h : ∀ x ∈ l, Fit k x) (ha : Asc l) : lcut k l = l := by
  unfold lcut
  have : l.map (fun x => lplus k x (Lk.of [])) = l := by
    conv => rhs; rw [← List.map_id l]
    exact List.map_congr_left fun x hx => fit_plus_nil hk (h x hx)
  rw [this]
  exact (lset_of (k := 8) (fun x hx => (h x hx).1) ha fun z => Iff.rfl).symm
def sumR (k : Nat) (la lb : List Lk) : List Lk := lset (sumsJ k la lb)
theorem sumR_fit {k : Nat} (hk : k ≤ 4) {la lb : List Lk} (ha : ∀ x ∈ la, Fit k x) (hb : ∀ x ∈ lb, Fit k x) : ∀ x ∈ sumR k la lb, Fit k x := fun x hx =>
  sums_fit hk ha hb x ((lset_mem (k := 8) (fun z hz => (sums_fit hk ha hb z hz).1) x).1 hx)
theorem sumR_mem {k : Nat} (hk : k ≤ 4) {la lb : List Lk} (ha : ∀ x ∈ la, Fit k x) (hb : ∀ x ∈ lb, Fit k x) (z : Lk) : z ∈ sumR k la lb ↔ ∃ x ∈ la, ∃ y ∈ lb, z = lplus k x y := by
  unfold sumR
  rw [lset_mem (k := 8) (fun z hz => (sums_fit hk ha hb z hz).1), sums_mem]
theorem sumR_asc {k : Nat} (hk : k ≤ 4) {la lb : List Lk} (ha : ∀ x ∈ la, Fit k x) (hb : ∀ x ∈ lb, Fit k x) : Asc (sumR k la lb) := lset_asc (k := 8) fun z hz => (sums_fit hk ha hb z hz).1
theorem sumR_next {k : Nat} (hk : k ≤ 4) {la lb m : List Lk} {i : Nat} {x : Lk} (ha : ∀ x ∈ la, Fit k x) (hb : ∀ x ∈ lb, Fit k x) (hx : la[i]? = some x) (hm : ∀ z ∈ m, z.right 8) (has : Asc m) (hmm : ∀ z, z ∈ m ↔ ∃ y ∈ lb, z = lplus k x y) :
    lmerge (sumR k (la.take i) lb) m = sumR k (la.take (i + 1)) lb := by
  have ht : ∀ {j : Nat}, ∀ x ∈ la.take j, Fit k x := fun x h => ha x (List.mem_of_mem_take h)
  have hil := (List.getElem?_eq_some_iff.1 hx).1
  have htk : la.take (i + 1) = la.take i ++ [x] := by
    rw [List.take_succ_eq_append_getElem hil, (List.getElem?_eq_some_iff.1 hx).2]
  have h8 : ∀ z ∈ sumR k (la.take i) lb, z.right 8 := fun z hz => (sumR_fit hk ht hb z hz).1
  rw [merge_set h8 hm (sumR_asc hk ht hb) has]
  refine (lset_of (k := 8) (fun z hz => (List.mem_append.1 hz).elim (h8 z) (hm z)) (sumR_asc hk ht hb) fun z => ?_).symm
  rw [sumR_mem hk ht hb, List.mem_append, sumR_mem hk ht hb, hmm, htk]
  constructor
  · rintro ⟨x', hx', y, hy, rfl⟩
    rcases List.mem_append.1 hx' with h | h
    · exact .inl ⟨x', h, y, hy, rfl⟩
    · simp at h; subst h; exact .inr ⟨y, hy, rfl⟩
  · rintro (⟨x', hx', y, hy, rfl⟩ | ⟨y, hy, rfl⟩)
    · exact ⟨x', List.mem_append_left _ hx', y, hy, rfl⟩
    · exact ⟨x, by simp, y, hy, rfl⟩
set_option maxRecDepth 100000 in
set_option maxHeartbeats 2000000 in
theorem sum_ok (m : Int) (k : Nat) (A A2 : Option Addr) (n n2 c c2 : Nat) (la lb : List Lk) (w : World) (hm1 : 1 ≤ m) (hm8 : m ≤ 8) (h1 : 1 ≤ k) (hk : k ≤ 4) (ha : SetAt w m A n c la) (hb : SetAt w m A2 n2 c2 lb) (hfa : ∀ x ∈ la, Fit k x) (hfb : ∀ x ∈ lb, Fit k x) :
    Calls Tryz.prog 40 #[.int .i64 m, .int .i64 k, .slice A n c, .slice A2 n2 c2] w (RetL0 w (sumR k la lb)) := by
  have hP := Lib.hid (fun (v : Value) (w' : World) (h1 : OwnL w' w.heap.size v (sumR k la lb)) (h2 : Below w.heap.size w w') => (show RetL0 w (sumR k la lb) (.returned (.tuple #[v, .int .i64 0])) w' from ⟨v, rfl, h1, h2⟩))
  have hfa' := Lib.hid hfa
  have hfb' := Lib.hid hfb
  have hasa := Lib.hid ha.asc
  have hasb := Lib.hid hb.asc
  have hJ := Lib.hid (fun (x y : Lk) (hx : Fit k x) (hy : Fit k y) (W : World) => join14_right k x y W h1 hk hx.1 hy.1)
  have hna := ha.n4
  have hnb := hb.n4
  have hla := ha.rd.1
  have hlb := hb.rd.1
  go_enter Tryz.func40, Tryz.ntmps40
  go_wp2_with fail
  refine (both14_ok m A A2 n n2 c c2 la lb _ hm1 hm8 ha hb).mono ?_
  rintro e w1 ⟨rfl, hb1⟩
  have ha1 := ha.step hb1
  have hb1' := hb.step hb1
  go_wp2_with fail
  refine (ranged_ok k _ h1 hk).mono ?_
  rintro e w2 ⟨rfl, rfl⟩
  go_wp2_with fail
  refine (cut14_any k A n c la _ h1 hk (by omega) ha1.rd (fun x hx => (hfa x hx).1) ha1.nc ha1.cm).mono ?_
  rintro e w3 ⟨v3, rfl, ho3, hb3⟩
  rw [lcut_same hk hfa ha.asc] at ho3
  obtain ⟨A3, c3, rfl, hd3, hk3, hm3, hg3⟩ := ho3.reads
  go_wp2_with fail
  refine (cut14_any k A2 n2 c2 lb _ h1 hk (by omega) (hb1'.step hb3).rd (fun x hx => (hfb x hx).1) hb.nc hb.cm).mono ?_
  rintro e w4 ⟨v4, rfl, ho4, hb4⟩
  rw [lcut_same hk hfb hb.asc] at ho4
  obtain ⟨A4, c4, rfl, hd4, hk4, hm4, hg4⟩ := ho4.reads
  have hd3' := (hd3.below hb4).mono hb4.size
  have hbw : Below w.heap.size w w4 := bStep (bStep hb1 hb3) hb4
  clear ha hb ha1 hb1' hb1 hb3 hb4 ho3 ho4 hd3 hg3 hg4 hfa hfb
  go_wp2_with fail
  go_loopg [11, 12] n (fun gk s11 s12 wr => ∃ i : Nat, s12 = .int .i64 i ∧ i + gk = n ∧ OwnL wr w4.heap.size s11 (sumR k (la.take i) lb) ∧ Below w4.heap.size w4 wr)
  case atStart => exact ⟨0, rfl, by omega, by simpa [sumR, sumsJ, lset] using OwnL.nil _ _, Below.refl _ _⟩
  case round =>
    obtain ⟨i, rfl, hi, ho, hb⟩ := hrel
    replace hi := Lib.hid hi
    by_cases hin : i < n
    · have hil : i < la.length := by omega
      have hx : la[i]? = some la[i] := List.getElem?_eq_getElem hil
      have hdr := hd3'.below hb
      obtain ⟨b, off, hA3, hbt, x0, x1, x2, x3, x4⟩ := hdr.get hx
      have hxf := hfa'.out _ (List.getElem_mem hil)
      have hU8 : ∀ z ∈ sumR k (la.take i) lb, z.right 8 := fun z hz => (sumR_fit hk (fun x h => hfa'.out x (List.mem_of_mem_take h)) hfb'.out z hz).1
      have hUl : (sumR k (la.take i) lb).length ≤ 4681 := right_len (asc_nodup (sumR_asc hk (fun x h => hfa'.out x (List.mem_of_mem_take h)) hfb'.out)) hU8
      have hNx := Lib.hid (fun (m : List Lk) h1 h2 h3 => sumR_next hk hfa'.out hfb'.out hx (m := m) h1 h2 h3)
      generalize la[i] = x at *
      generalize sumR k (la.take i) lb = U at *
      replace hx := Lib.hid hx
      have hz0 : (0 : Int) ≤ i := by omega
      have hz1 : (i : Int) < la.length := by omega
      obtain ⟨A1, c1, rfl, hd1, hk1, hm1', hg1⟩ := ho.reads
      have hnr := (right_l hxf.1).1
      have hone : RdL wr wr.heap.size (some ⟨b, off + i * 5, none⟩) 1 [x] := by
        refine ⟨rfl, .inr ⟨b, off + i * 5, rfl, Nat.lt_of_lt_of_le hbt hb.size, fun j y hy j' hj' => ?_⟩⟩
        have hj0 : j = 0 := by have := (List.getElem?_eq_some_iff.1 hy).1; simp at this; omega
        subst hj0
        simp at hy
        subst hy
        rcases j' with _ | _ | _ | _ | _ | j' <;> first | (simp [Lk.cells, x0, x1, x2, x3, x4]; done) | omega
      unfold maxLen at hm3
      subst hA3
      by_cases hfull : x.n = (k : Int)
      · have hfl : x.l.length = k := by omega
        by_cases hemp : lb.length = 0
        · have hfb : (x.n == (k : Int)) = true := by simpa using hfull
          replace hfull := Lib.hid hfull
          replace hfl := Lib.hid hfl
          replace hnr := Lib.hid hnr
          have hbn : ¬ (0 : Int) < lb.length := by omega
          replace hemp := Lib.hid hemp
          have hbn2 : ¬ (0 : Int) < n2 := by omega
          go_wp2_with fail
          generalize wr = wE at *
          go_loopg [13, 14] n2 (fun gk2 s13 s14 wr => ∃ j : Nat, s14 = .int .i64 j ∧ j + gk2 = n2 ∧ OwnL wr wE.heap.size s13 ((lb.take j).map (lplus k x)) ∧ Below wE.heap.size wE wr)
          case atStart => exact ⟨0, rfl, by omega, by simpa using OwnL.nil _ _, Below.refl _ _⟩
          case round =>
            obtain ⟨j, rfl, hj, ho2, hbE⟩ := hrel
            replace hj := Lib.hid hj
            have hbF : Below w4.heap.size w4 wr := bStep hb hbE
            by_cases hjn : j < n2
            · have hjl : j < lb.length := by omega
              have hy : lb[j]? = some lb[j] := List.getElem?_eq_getElem hjl
              obtain ⟨b', off', hA4, hbt', y0, y1, y2, y3, y4⟩ := (hd4.below hbF).get hy
              have hyf := hfb'.out _ (List.getElem_mem hjl)
              have htk : lb.take (j + 1) = lb.take j ++ [lb[j]] := List.take_succ_eq_append_getElem hjl
              have hjj := Lib.hid (hJ.out x lb[j] hxf hyf)
              have hG : (lb.take (j + 1)).map (lplus k x) = (lb.take j).map (lplus k x) ++ [lplus k x lb[j]] := by rw [htk, List.map_append, List.map_cons, List.map_nil]
              have hl9 : ((lb.take j).map (lplus k x)).length < 1000000 := by rw [List.length_map, List.length_take]; omega
              clear htk
              generalize lb[j] = y at *
              generalize lplus k x y = z at *
              replace hy := Lib.hid hy
              replace hG := Lib.hid hG
              have x0' := cell_later hbE x0
              have x1' := cell_later hbE x1
              have x2' := cell_later hbE x2
              have x3' := cell_later hbE x3
              have x4' := cell_later hbE x4
              have hszE := hbE.size
              have hszq : ∀ (W : World), Below wr.heap.size wr W → wE.heap.size ≤ W.heap.size := fun W h => Nat.le_trans hszE h.size
              replace hszq := Lib.hid hszq
              have hzj : (0 : Int) ≤ j := by omega
              have hzj2 : (j : Int) < n2 := by omega
              have hzj3 : (j : Int) < lb.length := by omega
              subst hA4
              unfold Lk.v at hjj
              go_upto_region 15 with (fail)
              refine wp_region_held_drew (S := (fun _ => True)) (by kernel_rfl) trivial (fun hHeld => ?_)
              refine wpAnyH_take (i := 0) (oi := ⟨some 61, _, _, _, _, _⟩) (v := ?vp1) rfl (by kernel_rfl) (by kernel_rfl) (by kernel_rfl) (fun _ _ _ h => h) (Or.inl ⟨by rfl, ?hyp1⟩) (by assumption) ?restp1
              case hyp1 => (intro w hSw; (try dsimp only at hSw); go_simp <;> with_reducible rfl)
              try simp only [Act.put, List.setIfInBounds_toArray, List.set_cons_zero, List.set_cons_succ]
              refine wpAnyH_take (i := 1) (oi := ⟨some 62, _, _, _, _, _⟩) (v := ?vp2) rfl (by kernel_rfl) (by kernel_rfl) (by kernel_rfl) (fun _ _ _ h => h) (Or.inl ⟨by rfl, ?hyp2⟩) (by assumption) ?restp2
              case hyp2 => (intro w hSw; (try dsimp only at hSw); go_simp <;> with_reducible rfl)
              try simp only [Act.put, List.setIfInBounds_toArray, List.set_cons_zero, List.set_cons_succ]
              refine wpAnyH_take (i := 2) (oi := ⟨some 63, _, _, _, _, _⟩) (v := ?vp3) rfl (by kernel_rfl) (by kernel_rfl) (by kernel_rfl) (fun _ _ _ h => h) (Or.inl ⟨by rfl, ?hyp3⟩) (by assumption) ?restp3
              case hyp3 => (intro w hSw; (try dsimp only at hSw); go_simp <;> with_reducible rfl)
              try simp only [Act.put, List.setIfInBounds_toArray, List.set_cons_zero, List.set_cons_succ]
              refine wpAnyH_take (i := 3) (oi := ⟨some 64, _, _, _, _, _⟩) (v := ?vp4) rfl (by kernel_rfl) (by kernel_rfl) (by kernel_rfl) (fun _ _ _ h => h) (Or.inl ⟨by rfl, ?hyp4⟩) (by assumption) ?restp4
              case hyp4 => (intro w hSw; (try dsimp only at hSw); go_simp <;> with_reducible rfl)
              try simp only [Act.put, List.setIfInBounds_toArray, List.set_cons_zero, List.set_cons_succ]
              refine wpAnyH_take (i := 4) (oi := ⟨some 65, _, _, _, _, _⟩) (v := ?vp5) rfl (by kernel_rfl) (by kernel_rfl) (by kernel_rfl) (fun _ _ _ h => h) (Or.inl ⟨by rfl, ?hyp5⟩) (by assumption) ?restp5
              case hyp5 => (intro w hSw; (try dsimp only at hSw); go_simp <;> with_reducible rfl)
              try simp only [Act.put, List.setIfInBounds_toArray, List.set_cons_zero, List.set_cons_succ]
              refine wpAnyH_take (i := 6) (oi := ⟨some 67, _, _, _, _, _⟩) (v := ?vp6) rfl (by kernel_rfl) (by kernel_rfl) (by kernel_rfl) (fun _ _ _ h => h) (Or.inl ⟨by rfl, ?hyp6⟩) (by assumption) ?restp6
              case hyp6 => (intro w hSw; (try dsimp only at hSw); go_simp <;> with_reducible rfl)
              try simp only [Act.put, List.setIfInBounds_toArray, List.set_cons_zero, List.set_cons_succ]
              refine wpAnyH_take (i := 7) (oi := ⟨some 68, _, _, _, _, _⟩) (v := ?vp7) rfl (by kernel_rfl) (by kernel_rfl) (by kernel_rfl) (fun _ _ _ h => h) (Or.inl ⟨by rfl, ?hyp7⟩) (by assumption) ?restp7
              case hyp7 => (intro w hSw; (try dsimp only at hSw); go_simp <;> with_reducible rfl)
              try simp only [Act.put, List.setIfInBounds_toArray, List.set_cons_zero, List.set_cons_succ]
              refine wpAnyH_take (i := 8) (oi := ⟨some 69, _, _, _, _, _⟩) (v := ?vp8) rfl (by kernel_rfl) (by kernel_rfl) (by kernel_rfl) (fun _ _ _ h => h) (Or.inl ⟨by rfl, ?hyp8⟩) (by assumption) ?restp8
              case hyp8 => (intro w hSw; (try dsimp only at hSw); go_simp <;> with_reducible rfl)
              try simp only [Act.put, List.setIfInBounds_toArray, List.set_cons_zero, List.set_cons_succ]
              refine wpAnyH_ready (rs := [5, 9]) (by kernel_rfl) (by simp) ?_
              refine AllReadyH.cons (o := ⟨some 66, _, _, _, _, _⟩) rfl (fun K hK => ?_) ?_
              · go_simp
                refine hK.out _ _ ?_ (fun hHeld => ?_)
                · trivial
                clear hK K
                try simp only [Act.put, List.setIfInBounds_toArray, List.set_cons_zero, List.set_cons_succ]
                refine wpAnyH_ready (rs := [9]) (by kernel_rfl) (by simp) ?_
                refine AllReadyH.cons (o := ⟨some 70, _, _, _, _, _⟩) rfl (fun K hK => ?_) ?_
                · go_simp
                  refine hK.out _ _ ?_ (fun hHeld => ?_)
                  · trivial
                  clear hK K
                  try simp only [Act.put, List.setIfInBounds_toArray, List.set_cons_zero, List.set_cons_succ]
                  refine wpAnyH_ready (rs := [10]) (by kernel_rfl) (by simp) ?_
                  refine AllReadyH.cons (o := ⟨some 71, _, _, _, _, _⟩) rfl (fun K hK => ?_) ?_
                  · go_simp
                    go_at_call 83
                    refine (hjj.out _).mono ?_
                    rintro e w9 ⟨rfl, hb9⟩
                    go_wp2_with fail
                    refine hK.out _ _ ?_ (fun hHeld => ?_)
                    · trivial
                    clear hK K
                    try simp only [Act.put, List.setIfInBounds_toArray, List.set_cons_zero, List.set_cons_succ]
                    refine wpAnyH_ready (rs := [11]) (by kernel_rfl) (by simp) ?_
                    refine AllReadyH.cons (o := ⟨some 72, _, _, _, _, _⟩) rfl (fun K hK => ?_) ?_
                    · go_simp
                      refine hK.out _ _ ?_ (fun hHeld => ?_)
                      · trivial
                      clear hK K
                      try simp only [Act.put, List.setIfInBounds_toArray, List.set_cons_zero, List.set_cons_succ]
                      refine wpAnyH_ready (rs := [12]) (by kernel_rfl) (by simp) ?_
                      refine AllReadyH.cons (o := ⟨some 73, _, _, _, _, _⟩) rfl (fun K hK => ?_) ?_
                      · skip
                        refine step_of_wp _ (by rfl) ?_
                        refine wp_pushL _ _ (by rfl) wE.heap.size _ _ (by rfl) (ho2.step (by repeat (first | assumption | exact Below.refl _ _ | (refine bStep ?_ (by assumption)) | (with_reducible refine bAlc ?_ _) | (with_reducible refine bDrw ?_)))) _ z (by rfl) (Blk.new _ _ _) hl9 (hszq _ (by repeat (first | assumption | exact Below.refl _ _ | (refine bStep ?_ (by assumption)) | (with_reducible refine bAlc ?_ _) | (with_reducible refine bDrw ?_)))) ?_
                        intro v9 wn ho9 hg9 hb9n
                        refine hK.out _ _ ?_ (fun hHeld => ?_)
                        · trivial
                        clear hK K
                        try simp only [Act.put, List.setIfInBounds_toArray, List.set_cons_zero, List.set_cons_succ]
                        refine wpAnyH_take (i := 13) (oi := ⟨some 13, _, _, _, _, _⟩) (v := ?vp9) rfl (by kernel_rfl) (by kernel_rfl) (by kernel_rfl) (fun _ _ _ h => h) (Or.inl ⟨by rfl, ?hyp9⟩) (by assumption) ?restp9
                        case hyp9 => (intro w hSw; (try dsimp only at hSw); go_simp <;> with_reducible rfl)
                        try simp only [Act.put, List.setIfInBounds_toArray, List.set_cons_zero, List.set_cons_succ]
                        refine wpAnyH_done (by kernel_rfl) ?_ _
                        go_wp2_with fail
                        have hbn : Below wE.heap.size wE wn := hb9n wE (hbE.trans (Below.mono (B := wr.heap.size) (by repeat (first | assumption | exact Below.refl _ _ | (refine bStep ?_ (by assumption)) | (with_reducible refine bAlc ?_ _) | (with_reducible refine bDrw ?_))) hbE.size))
                        go_roundg (n2 - (j + 1))
                        case measure => have := hj.out; omega
                        case rel => exact ⟨j + 1, by go_num, by have := hj.out; omega, by rw [hG.out]; exact ho9, hbn⟩
                      exact AllReadyH.nil
                    exact AllReadyH.nil
                  exact AllReadyH.nil
                exact AllReadyH.nil
              refine AllReadyH.cons (o := ⟨some 70, _, _, _, _, _⟩) rfl (fun K hK => ?_) ?_
              · go_simp
                refine hK.out _ _ ?_ (fun hHeld => ?_)
                · trivial
                clear hK K
                try simp only [Act.put, List.setIfInBounds_toArray, List.set_cons_zero, List.set_cons_succ]
                refine wpAnyH_ready (rs := [5]) (by kernel_rfl) (by simp) ?_
                refine AllReadyH.cons (o := ⟨some 66, _, _, _, _, _⟩) rfl (fun K hK => ?_) ?_
                · go_simp
                  refine hK.out _ _ ?_ (fun hHeld => ?_)
                  · trivial
                  clear hK K
                  try simp only [Act.put, List.setIfInBounds_toArray, List.set_cons_zero, List.set_cons_succ]
                  refine wpAnyH_ready (rs := [10]) (by kernel_rfl) (by simp) ?_
                  refine AllReadyH.cons (o := ⟨some 71, _, _, _, _, _⟩) rfl (fun K hK => ?_) ?_
                  · go_simp
                    go_at_call 83
                    refine (hjj.out _).mono ?_
                    rintro e w9 ⟨rfl, hb9⟩
                    go_wp2_with fail
                    refine hK.out _ _ ?_ (fun hHeld => ?_)
                    · trivial
                    clear hK K
                    try simp only [Act.put, List.setIfInBounds_toArray, List.set_cons_zero, List.set_cons_succ]
                    refine wpAnyH_ready (rs := [11]) (by kernel_rfl) (by simp) ?_
                    refine AllReadyH.cons (o := ⟨some 72, _, _, _, _, _⟩) rfl (fun K hK => ?_) ?_
                    · go_simp
                      refine hK.out _ _ ?_ (fun hHeld => ?_)
                      · trivial
                      clear hK K
                      try simp only [Act.put, List.setIfInBounds_toArray, List.set_cons_zero, List.set_cons_succ]
                      refine wpAnyH_ready (rs := [12]) (by kernel_rfl) (by simp) ?_
                      refine AllReadyH.cons (o := ⟨some 73, _, _, _, _, _⟩) rfl (fun K hK => ?_) ?_
                      · skip
                        refine step_of_wp _ (by rfl) ?_
                        refine wp_pushL _ _ (by rfl) wE.heap.size _ _ (by rfl) (ho2.step (by repeat (first | assumption | exact Below.refl _ _ | (refine bStep ?_ (by assumption)) | (with_reducible refine bAlc ?_ _) | (with_reducible refine bDrw ?_)))) _ z (by rfl) (Blk.new _ _ _) hl9 (hszq _ (by repeat (first | assumption | exact Below.refl _ _ | (refine bStep ?_ (by assumption)) | (with_reducible refine bAlc ?_ _) | (with_reducible refine bDrw ?_)))) ?_
                        intro v9 wn ho9 hg9 hb9n
                        refine hK.out _ _ ?_ (fun hHeld => ?_)
                        · trivial
                        clear hK K
                        try simp only [Act.put, List.setIfInBounds_toArray, List.set_cons_zero, List.set_cons_succ]
                        refine wpAnyH_take (i := 13) (oi := ⟨some 13, _, _, _, _, _⟩) (v := ?vp10) rfl (by kernel_rfl) (by kernel_rfl) (by kernel_rfl) (fun _ _ _ h => h) (Or.inl ⟨by rfl, ?hyp10⟩) (by assumption) ?restp10
                        case hyp10 => (intro w hSw; (try dsimp only at hSw); go_simp <;> with_reducible rfl)
                        try simp only [Act.put, List.setIfInBounds_toArray, List.set_cons_zero, List.set_cons_succ]
                        refine wpAnyH_done (by kernel_rfl) ?_ _
                        go_wp2_with fail
                        have hbn : Below wE.heap.size wE wn := hb9n wE (hbE.trans (Below.mono (B := wr.heap.size) (by repeat (first | assumption | exact Below.refl _ _ | (refine bStep ?_ (by assumption)) | (with_reducible refine bAlc ?_ _) | (with_reducible refine bDrw ?_))) hbE.size))
                        go_roundg (n2 - (j + 1))
                        case measure => have := hj.out; omega
                        case rel => exact ⟨j + 1, by go_num, by have := hj.out; omega, by rw [hG.out]; exact ho9, hbn⟩
                      exact AllReadyH.nil
                    exact AllReadyH.nil
                  exact AllReadyH.nil
                exact AllReadyH.nil
              exact AllReadyH.nil
            · have hje : j = n2 := by have := hj.out; omega
              subst hje
              have htk : lb.take j = lb := List.take_of_length_le (by omega)
              rw [htk] at ho2
              clear htk
              have hr5 : ∀ z ∈ lb.map (lplus k x), z.right 8 := by
                intro z hz
                obtain ⟨y, hy, rfl⟩ := List.mem_map.1 hz
                exact lplus_right hk hxf.1 (hfb'.out y hy).1
              have hl5 : (lb.map (lplus k x)).length ≤ 4681 := by rw [List.length_map]; omega
              have hN5 := hNx.out (lset (lb.map (lplus k x))) (fun z hz => lset_right hr5 z hz) (lset_asc hr5) (fun z => by rw [lset_mem hr5, List.mem_map]; exact ⟨fun ⟨y, a, b⟩ => ⟨y, a, b.symm⟩, fun ⟨y, a, b⟩ => ⟨y, a, b.symm⟩⟩)
              have hl6 : (lset (lb.map (lplus k x))).length ≤ 4681 := Nat.le_trans (lset_len hr5) hl5
              have hr6 : ∀ z ∈ lset (lb.map (lplus k x)), z.right 8 := fun z hz => lset_right hr5 z hz
              replace hN5 := Lib.hid hN5
              generalize hL5 : lb.map (lplus k x) = L at *
              replace hL5 := Lib.hid hL5
              obtain ⟨A5, c5, rfl, hd5, hk5, hm5, hg5⟩ := ho2.reads
              go_wp2_with fail
              refine (sorted14_any 100000 A5 L.length c5 L _ (by omega) (by omega) hd5 hr5 hk5 hm5).mono ?_
              rintro e w6 ⟨v6, rfl, ho6, hb6⟩
              generalize lset L = M at *
              obtain ⟨A6, c6, rfl, hd6, hk6, hm6, hg6⟩ := ho6.reads
              have hbE6 : Below wE.heap.size wE w6 := bStep hbE hb6
              go_wp2_with fail
              refine (merge_any A1 A6 U.length M.length c1 c6 U M _ ((hd1.below hbE6).mono hbE6.size) hd6 hU8 hr6 hk1 hk6 hm1' hm6 (by omega)).mono ?_
              rintro e w7 ⟨v7, rfl, ho7, hb7⟩
              rw [hN5.out] at ho7
              go_wp2_with fail
              have hb9 := bStep (bStep hb hbE6) hb7
              go_roundg (n - (i + 1))
              case measure => have := hi.out; omega
              case rel => exact ⟨i + 1, by go_num, by have := hi.out; omega, ho7.mono (by have := hb.size; have := hbE6.size; omega), hb9⟩
        · have hbp : (0 : Int) < lb.length := by omega
          obtain ⟨y9, hy9⟩ : ∃ y, y ∈ lb := List.exists_mem_of_length_pos (by omega)
          have hN5 := hNx.out [x] (by simpa using hxf.1) (asc_one x) (fun z => by
            simp only [List.mem_singleton]
            exact ⟨fun e => ⟨y9, hy9, by rw [full_plus hk hxf (hfb'.out y9 hy9).1 hfl]; exact e⟩, fun ⟨y, hy, e⟩ => by rw [full_plus hk hxf (hfb'.out y hy).1 hfl] at e; exact e⟩)
          rw [hfull] at x0
          have hz2 : ¬ c3 = i := by omega
          have hz3 : (i : Int) + 1 ≤ c3 := by omega
          replace hN5 := Lib.hid hN5
          have hz4 : 1 ≤ c3 - i := by omega
          have hz5 : c3 - i ≤ maxLen := by unfold maxLen; omega
          go_wp2_with fail
          refine (merge_any A1 _ U.length 1 c1 _ U [x] _ hd1 hone hU8 (by simpa using hxf.1) hk1 hz4 hm1' hz5 (by omega)).mono ?_
          rintro e w7 ⟨v7, rfl, ho7, hb7⟩
          rw [hN5.out] at ho7
          go_wp2_with fail
          have hb9 := bStep hb hb7
          go_roundg (n - (i + 1))
          case measure => have := hi.out; omega
          case rel => exact ⟨i + 1, by go_num, by have := hi.out; omega, ho7.mono hb.size, hb9⟩
      · have hfb : (x.n == (k : Int)) = false := by simpa using hfull
        replace hfull := Lib.hid hfull
        replace hnr := Lib.hid hnr
        go_wp2_with fail
        generalize wr = wE at *
        go_loopg [13, 14] n2 (fun gk2 s13 s14 wr => ∃ j : Nat, s14 = .int .i64 j ∧ j + gk2 = n2 ∧ OwnL wr wE.heap.size s13 ((lb.take j).map (lplus k x)) ∧ Below wE.heap.size wE wr)
        case atStart => exact ⟨0, rfl, by omega, by simpa using OwnL.nil _ _, Below.refl _ _⟩
        case round =>
          obtain ⟨j, rfl, hj, ho2, hbE⟩ := hrel
          replace hj := Lib.hid hj
          have hbF : Below w4.heap.size w4 wr := bStep hb hbE
          by_cases hjn : j < n2
          · have hjl : j < lb.length := by omega
            have hy : lb[j]? = some lb[j] := List.getElem?_eq_getElem hjl
            obtain ⟨b', off', hA4, hbt', y0, y1, y2, y3, y4⟩ := (hd4.below hbF).get hy
            have hyf := hfb'.out _ (List.getElem_mem hjl)
            have htk : lb.take (j + 1) = lb.take j ++ [lb[j]] := List.take_succ_eq_append_getElem hjl
            have hjj := Lib.hid (hJ.out x lb[j] hxf hyf)
            have hG : (lb.take (j + 1)).map (lplus k x) = (lb.take j).map (lplus k x) ++ [lplus k x lb[j]] := by rw [htk, List.map_append, List.map_cons, List.map_nil]
            have hl9 : ((lb.take j).map (lplus k x)).length < 1000000 := by rw [List.length_map, List.length_take]; omega
            clear htk
            generalize lb[j] = y at *
            generalize lplus k x y = z at *
            replace hy := Lib.hid hy
            replace hG := Lib.hid hG
            have x0' := cell_later hbE x0
            have x1' := cell_later hbE x1
            have x2' := cell_later hbE x2
            have x3' := cell_later hbE x3
            have x4' := cell_later hbE x4
            have hszE := hbE.size
            have hszq : ∀ (W : World), Below wr.heap.size wr W → wE.heap.size ≤ W.heap.size := fun W h => Nat.le_trans hszE h.size
            replace hszq := Lib.hid hszq
            have hzj : (0 : Int) ≤ j := by omega
            have hzj2 : (j : Int) < n2 := by omega
            have hzj3 : (j : Int) < lb.length := by omega
            subst hA4
            unfold Lk.v at hjj
            go_upto_region 15 with (fail)
            refine wp_region_held_drew (S := (fun _ => True)) (by kernel_rfl) trivial (fun hHeld => ?_)
            refine wpAnyH_take (i := 0) (oi := ⟨some 61, _, _, _, _, _⟩) (v := ?vq1) rfl (by kernel_rfl) (by kernel_rfl) (by kernel_rfl) (fun _ _ _ h => h) (Or.inl ⟨by rfl, ?hyq1⟩) (by assumption) ?restq1
            case hyq1 => (intro w hSw; (try dsimp only at hSw); go_simp <;> with_reducible rfl)
            try simp only [Act.put, List.setIfInBounds_toArray, List.set_cons_zero, List.set_cons_succ]
            refine wpAnyH_take (i := 1) (oi := ⟨some 62, _, _, _, _, _⟩) (v := ?vq2) rfl (by kernel_rfl) (by kernel_rfl) (by kernel_rfl) (fun _ _ _ h => h) (Or.inl ⟨by rfl, ?hyq2⟩) (by assumption) ?restq2
            case hyq2 => (intro w hSw; (try dsimp only at hSw); go_simp <;> with_reducible rfl)
            try simp only [Act.put, List.setIfInBounds_toArray, List.set_cons_zero, List.set_cons_succ]
            refine wpAnyH_take (i := 2) (oi := ⟨some 63, _, _, _, _, _⟩) (v := ?vq3) rfl (by kernel_rfl) (by kernel_rfl) (by kernel_rfl) (fun _ _ _ h => h) (Or.inl ⟨by rfl, ?hyq3⟩) (by assumption) ?restq3
            case hyq3 => (intro w hSw; (try dsimp only at hSw); go_simp <;> with_reducible rfl)
            try simp only [Act.put, List.setIfInBounds_toArray, List.set_cons_zero, List.set_cons_succ]
            refine wpAnyH_take (i := 3) (oi := ⟨some 64, _, _, _, _, _⟩) (v := ?vq4) rfl (by kernel_rfl) (by kernel_rfl) (by kernel_rfl) (fun _ _ _ h => h) (Or.inl ⟨by rfl, ?hyq4⟩) (by assumption) ?restq4
            case hyq4 => (intro w hSw; (try dsimp only at hSw); go_simp <;> with_reducible rfl)
            try simp only [Act.put, List.setIfInBounds_toArray, List.set_cons_zero, List.set_cons_succ]
            refine wpAnyH_take (i := 4) (oi := ⟨some 65, _, _, _, _, _⟩) (v := ?vq5) rfl (by kernel_rfl) (by kernel_rfl) (by kernel_rfl) (fun _ _ _ h => h) (Or.inl ⟨by rfl, ?hyq5⟩) (by assumption) ?restq5
            case hyq5 => (intro w hSw; (try dsimp only at hSw); go_simp <;> with_reducible rfl)
            try simp only [Act.put, List.setIfInBounds_toArray, List.set_cons_zero, List.set_cons_succ]
            refine wpAnyH_take (i := 6) (oi := ⟨some 67, _, _, _, _, _⟩) (v := ?vq6) rfl (by kernel_rfl) (by kernel_rfl) (by kernel_rfl) (fun _ _ _ h => h) (Or.inl ⟨by rfl, ?hyq6⟩) (by assumption) ?restq6
            case hyq6 => (intro w hSw; (try dsimp only at hSw); go_simp <;> with_reducible rfl)
            try simp only [Act.put, List.setIfInBounds_toArray, List.set_cons_zero, List.set_cons_succ]
            refine wpAnyH_take (i := 7) (oi := ⟨some 68, _, _, _, _, _⟩) (v := ?vq7) rfl (by kernel_rfl) (by kernel_rfl) (by kernel_rfl) (fun _ _ _ h => h) (Or.inl ⟨by rfl, ?hyq7⟩) (by assumption) ?restq7
            case hyq7 => (intro w hSw; (try dsimp only at hSw); go_simp <;> with_reducible rfl)
            try simp only [Act.put, List.setIfInBounds_toArray, List.set_cons_zero, List.set_cons_succ]
            refine wpAnyH_take (i := 8) (oi := ⟨some 69, _, _, _, _, _⟩) (v := ?vq8) rfl (by kernel_rfl) (by kernel_rfl) (by kernel_rfl) (fun _ _ _ h => h) (Or.inl ⟨by rfl, ?hyq8⟩) (by assumption) ?restq8
            case hyq8 => (intro w hSw; (try dsimp only at hSw); go_simp <;> with_reducible rfl)
            try simp only [Act.put, List.setIfInBounds_toArray, List.set_cons_zero, List.set_cons_succ]
            refine wpAnyH_ready (rs := [5, 9]) (by kernel_rfl) (by simp) ?_
            refine AllReadyH.cons (o := ⟨some 66, _, _, _, _, _⟩) rfl (fun K hK => ?_) ?_
            · go_simp
              refine hK.out _ _ ?_ (fun hHeld => ?_)
              · trivial
              clear hK K
              try simp only [Act.put, List.setIfInBounds_toArray, List.set_cons_zero, List.set_cons_succ]
              refine wpAnyH_ready (rs := [9]) (by kernel_rfl) (by simp) ?_
              refine AllReadyH.cons (o := ⟨some 70, _, _, _, _, _⟩) rfl (fun K hK => ?_) ?_
              · go_simp
                refine hK.out _ _ ?_ (fun hHeld => ?_)
                · trivial
                clear hK K
                try simp only [Act.put, List.setIfInBounds_toArray, List.set_cons_zero, List.set_cons_succ]
                refine wpAnyH_ready (rs := [10]) (by kernel_rfl) (by simp) ?_
                refine AllReadyH.cons (o := ⟨some 71, _, _, _, _, _⟩) rfl (fun K hK => ?_) ?_
                · go_simp
                  go_at_call 83
                  refine (hjj.out _).mono ?_
                  rintro e w9 ⟨rfl, hb9⟩
                  go_wp2_with fail
                  refine hK.out _ _ ?_ (fun hHeld => ?_)
                  · trivial
                  clear hK K
                  try simp only [Act.put, List.setIfInBounds_toArray, List.set_cons_zero, List.set_cons_succ]
                  refine wpAnyH_ready (rs := [11]) (by kernel_rfl) (by simp) ?_
                  refine AllReadyH.cons (o := ⟨some 72, _, _, _, _, _⟩) rfl (fun K hK => ?_) ?_
                  · go_simp
                    refine hK.out _ _ ?_ (fun hHeld => ?_)
                    · trivial
                    clear hK K
                    try simp only [Act.put, List.setIfInBounds_toArray, List.set_cons_zero, List.set_cons_succ]
                    refine wpAnyH_ready (rs := [12]) (by kernel_rfl) (by simp) ?_
                    refine AllReadyH.cons (o := ⟨some 73, _, _, _, _, _⟩) rfl (fun K hK => ?_) ?_
                    · skip
                      refine step_of_wp _ (by rfl) ?_
                      refine wp_pushL _ _ (by rfl) wE.heap.size _ _ (by rfl) (ho2.step (by repeat (first | assumption | exact Below.refl _ _ | (refine bStep ?_ (by assumption)) | (with_reducible refine bAlc ?_ _) | (with_reducible refine bDrw ?_)))) _ z (by rfl) (Blk.new _ _ _) hl9 (hszq _ (by repeat (first | assumption | exact Below.refl _ _ | (refine bStep ?_ (by assumption)) | (with_reducible refine bAlc ?_ _) | (with_reducible refine bDrw ?_)))) ?_
                      intro v9 wn ho9 hg9 hb9n
                      refine hK.out _ _ ?_ (fun hHeld => ?_)
                      · trivial
                      clear hK K
                      try simp only [Act.put, List.setIfInBounds_toArray, List.set_cons_zero, List.set_cons_succ]
                      refine wpAnyH_take (i := 13) (oi := ⟨some 13, _, _, _, _, _⟩) (v := ?vq9) rfl (by kernel_rfl) (by kernel_rfl) (by kernel_rfl) (fun _ _ _ h => h) (Or.inl ⟨by rfl, ?hyq9⟩) (by assumption) ?restq9
                      case hyq9 => (intro w hSw; (try dsimp only at hSw); go_simp <;> with_reducible rfl)
                      try simp only [Act.put, List.setIfInBounds_toArray, List.set_cons_zero, List.set_cons_succ]
                      refine wpAnyH_done (by kernel_rfl) ?_ _
                      go_wp2_with fail
                      have hbn : Below wE.heap.size wE wn := hb9n wE (hbE.trans (Below.mono (B := wr.heap.size) (by repeat (first | assumption | exact Below.refl _ _ | (refine bStep ?_ (by assumption)) | (with_reducible refine bAlc ?_ _) | (with_reducible refine bDrw ?_))) hbE.size))
                      go_roundg (n2 - (j + 1))
                      case measure => have := hj.out; omega
                      case rel => exact ⟨j + 1, by go_num, by have := hj.out; omega, by rw [hG.out]; exact ho9, hbn⟩
                    exact AllReadyH.nil
                  exact AllReadyH.nil
                exact AllReadyH.nil
              exact AllReadyH.nil
            refine AllReadyH.cons (o := ⟨some 70, _, _, _, _, _⟩) rfl (fun K hK => ?_) ?_
            · go_simp
              refine hK.out _ _ ?_ (fun hHeld => ?_)
              · trivial
              clear hK K
              try simp only [Act.put, List.setIfInBounds_toArray, List.set_cons_zero, List.set_cons_succ]
              refine wpAnyH_ready (rs := [5]) (by kernel_rfl) (by simp) ?_
              refine AllReadyH.cons (o := ⟨some 66, _, _, _, _, _⟩) rfl (fun K hK => ?_) ?_
              · go_simp
                refine hK.out _ _ ?_ (fun hHeld => ?_)
                · trivial
                clear hK K
                try simp only [Act.put, List.setIfInBounds_toArray, List.set_cons_zero, List.set_cons_succ]
                refine wpAnyH_ready (rs := [10]) (by kernel_rfl) (by simp) ?_
                refine AllReadyH.cons (o := ⟨some 71, _, _, _, _, _⟩) rfl (fun K hK => ?_) ?_
                · go_simp
                  go_at_call 83
                  refine (hjj.out _).mono ?_
                  rintro e w9 ⟨rfl, hb9⟩
                  go_wp2_with fail
                  refine hK.out _ _ ?_ (fun hHeld => ?_)
                  · trivial
                  clear hK K
                  try simp only [Act.put, List.setIfInBounds_toArray, List.set_cons_zero, List.set_cons_succ]
                  refine wpAnyH_ready (rs := [11]) (by kernel_rfl) (by simp) ?_
                  refine AllReadyH.cons (o := ⟨some 72, _, _, _, _, _⟩) rfl (fun K hK => ?_) ?_
                  · go_simp
                    refine hK.out _ _ ?_ (fun hHeld => ?_)
                    · trivial
                    clear hK K
                    try simp only [Act.put, List.setIfInBounds_toArray, List.set_cons_zero, List.set_cons_succ]
                    refine wpAnyH_ready (rs := [12]) (by kernel_rfl) (by simp) ?_
                    refine AllReadyH.cons (o := ⟨some 73, _, _, _, _, _⟩) rfl (fun K hK => ?_) ?_
                    · skip
                      refine step_of_wp _ (by rfl) ?_
                      refine wp_pushL _ _ (by rfl) wE.heap.size _ _ (by rfl) (ho2.step (by repeat (first | assumption | exact Below.refl _ _ | (refine bStep ?_ (by assumption)) | (with_reducible refine bAlc ?_ _) | (with_reducible refine bDrw ?_)))) _ z (by rfl) (Blk.new _ _ _) hl9 (hszq _ (by repeat (first | assumption | exact Below.refl _ _ | (refine bStep ?_ (by assumption)) | (with_reducible refine bAlc ?_ _) | (with_reducible refine bDrw ?_)))) ?_
                      intro v9 wn ho9 hg9 hb9n
                      refine hK.out _ _ ?_ (fun hHeld => ?_)
                      · trivial
                      clear hK K
                      try simp only [Act.put, List.setIfInBounds_toArray, List.set_cons_zero, List.set_cons_succ]
                      refine wpAnyH_take (i := 13) (oi := ⟨some 13, _, _, _, _, _⟩) (v := ?vq10) rfl (by kernel_rfl) (by kernel_rfl) (by kernel_rfl) (fun _ _ _ h => h) (Or.inl ⟨by rfl, ?hyq10⟩) (by assumption) ?restq10
                      case hyq10 => (intro w hSw; (try dsimp only at hSw); go_simp <;> with_reducible rfl)
                      try simp only [Act.put, List.setIfInBounds_toArray, List.set_cons_zero, List.set_cons_succ]
                      refine wpAnyH_done (by kernel_rfl) ?_ _
                      go_wp2_with fail
                      have hbn : Below wE.heap.size wE wn := hb9n wE (hbE.trans (Below.mono (B := wr.heap.size) (by repeat (first | assumption | exact Below.refl _ _ | (refine bStep ?_ (by assumption)) | (with_reducible refine bAlc ?_ _) | (with_reducible refine bDrw ?_))) hbE.size))
                      go_roundg (n2 - (j + 1))
                      case measure => have := hj.out; omega
                      case rel => exact ⟨j + 1, by go_num, by have := hj.out; omega, by rw [hG.out]; exact ho9, hbn⟩
                    exact AllReadyH.nil
                  exact AllReadyH.nil
                exact AllReadyH.nil
              exact AllReadyH.nil
            exact AllReadyH.nil
          · have hje : j = n2 := by have := hj.out; omega
            subst hje
            have htk : lb.take j = lb := List.take_of_length_le (by omega)
            rw [htk] at ho2
            clear htk
            have hr5 : ∀ z ∈ lb.map (lplus k x), z.right 8 := by
              intro z hz
              obtain ⟨y, hy, rfl⟩ := List.mem_map.1 hz
              exact lplus_right hk hxf.1 (hfb'.out y hy).1
            have hl5 : (lb.map (lplus k x)).length ≤ 4681 := by rw [List.length_map]; omega
            have hN5 := hNx.out (lset (lb.map (lplus k x))) (fun z hz => lset_right hr5 z hz) (lset_asc hr5) (fun z => by rw [lset_mem hr5, List.mem_map]; exact ⟨fun ⟨y, a, b⟩ => ⟨y, a, b.symm⟩, fun ⟨y, a, b⟩ => ⟨y, a, b.symm⟩⟩)
            have hl6 : (lset (lb.map (lplus k x))).length ≤ 4681 := Nat.le_trans (lset_len hr5) hl5
            have hr6 : ∀ z ∈ lset (lb.map (lplus k x)), z.right 8 := fun z hz => lset_right hr5 z hz
            replace hN5 := Lib.hid hN5
            generalize hL5 : lb.map (lplus k x) = L at *
            replace hL5 := Lib.hid hL5
            obtain ⟨A5, c5, rfl, hd5, hk5, hm5, hg5⟩ := ho2.reads
            go_wp2_with fail
            refine (sorted14_any 100000 A5 L.length c5 L _ (by omega) (by omega) hd5 hr5 hk5 hm5).mono ?_
            rintro e w6 ⟨v6, rfl, ho6, hb6⟩
            generalize lset L = M at *
            obtain ⟨A6, c6, rfl, hd6, hk6, hm6, hg6⟩ := ho6.reads
            have hbE6 : Below wE.heap.size wE w6 := bStep hbE hb6
            go_wp2_with fail
            refine (merge_any A1 A6 U.length M.length c1 c6 U M _ ((hd1.below hbE6).mono hbE6.size) hd6 hU8 hr6 hk1 hk6 hm1' hm6 (by omega)).mono ?_
            rintro e w7 ⟨v7, rfl, ho7, hb7⟩
            rw [hN5.out] at ho7
            go_wp2_with fail
            have hb9 := bStep (bStep hb hbE6) hb7
            go_roundg (n - (i + 1))
            case measure => have := hi.out; omega
            case rel => exact ⟨i + 1, by go_num, by have := hi.out; omega, ho7.mono (by have := hb.size; have := hbE6.size; omega), hb9⟩
    · have he : i = n := by have := hi.out; omega
      subst he
      have htk : la.take i = la := List.take_of_length_le (by omega)
      rw [htk] at ho
      clear htk
      go_wp2_with fail
      go_ret2
      exact hP.out _ _ (ho.mono hbw.size) (bStep hbw hb)
end Go.Proofs.YtnnkfgekiaaehaaGreat

/- follow.tail. -/
namespace Go.Proofs.YtnnkfgekiaaehaaGreat
open Go.ChangeShapes Go.WideShapes Go.ChangeAt Go.RowKit
set_option linter.unusedVariables false
theorem SetsR.get {W : World} {B : Nat} {A : Option Addr} {n : Nat} {ss : List (List Lk)} (h : SetsR W B A n ss) (i : Nat) (hi : i < n) :
    ∃ b off mb, A = some ⟨b, off, none⟩ ∧ b < B ∧ mb < B ∧ W.cell? ⟨b, off + i, none⟩ = some (.map (some mb)) ∧ MapK lookKey W mb (ss.getD i []) := by
  rcases h.2 with h0 | ⟨b, off, rfl, hlt, hc⟩
  · omega
  · have hil : i < ss.length := by rw [h.1]; exact hi
    obtain ⟨mb, h1, h2, h3⟩ := hc i ss[i] (List.getElem?_eq_getElem hil)
    refine ⟨b, off, mb, rfl, hlt, h1, h2, ?_⟩
    simpa [List.getD_eq_getElem?_getD, hil] using h3
theorem one_len {k : Nat} {ss : List (List Lk)} (h : SetsFit k ss) (s : Int) : (oneL ss s).length ≤ 4681 := by
  unfold oneL
  split
  · have hgf := setsFit_get h (s - 16).toNat
    exact right_len (asc_nodup (lset_asc fun x hx => (hgf x hx).1)) (fun x hx => (lset_fit hgf x hx).1)
  · simp
set_option maxHeartbeats 4000000 in
theorem tail_any (g : Gr) (a : GA) (k : Nat) (hgk : g.k = (k : Int)) (hk1 : 1 ≤ k) (hk4 : k ≤ 4) (A : Option Addr) (n c : Nat) (ss : List (List Lk)) (B2 : Option Addr) (n2 c2 : Nat) (l : List Int) (w : World) (hg : GrAt w w.heap.size g a)
    (hS : SetsR w w.heap.size A n ss) (hfit : SetsFit k ss) (hnd : ∀ s ∈ ss, s.Nodup) (hn : n ≤ 1000000) (hl : Rd1 w w.heap.size B2 n2 (ints l)) (hn2 : n2 ≤ 1000000) (hok : ∀ s ∈ l, SymOk n s) :
    Calls Tryz.prog 36 #[gval g a, .slice A n c, .slice B2 n2 c2] w (RetL w (tailL k ss l)) := by
  have hP := Lib.hid (fun (v : Value) (w' : World) (h1 : OwnL w' w.heap.size v (tailL k ss l)) (h2 : Below w.heap.size w w') => (show RetL w (tailL k ss l) (.returned v) w' from ⟨v, rfl, h1, h2⟩))
  obtain ⟨ta, tc, na, nc, pa, pc⟩ := a
  have hll : l.length = n2 := by have := hl.1; simpa [ints] using this
  have hS' := Lib.hid hS
  have hl' := Lib.hid hl
  have hok' := Lib.hid hok
  have hfit' := Lib.hid hfit
  have hnd' := Lib.hid hnd
  have hG0 := GB.start hg
  have hll' := Lib.hid hll
  have hJ := Lib.hid joined_any
  have hPl := Lib.hid (fun (w : World) => show Calls Tryz.prog 38 #[.int .i64 g.k] w (RetP w k) by rw [hgk]; exact mkplus_any k w)
  clear hgk
  have hSo := Lib.hid sorted_any
  clear hS hl hok hfit hnd hg hll
  unfold gval at *
  unfold gcells at *
  dsimp only at *
  have hmm := @run_makeMap Tryz.prog
  go_enter Tryz.func36, Tryz.ntmps36
  go_wp2_with fail
  have q1 : Blk ((w.alloc (.cells #[.int .i64 g.k, .slice ta g.toks.length tc, .string g.sep, .slice na g.names.length nc, .int .i64 g.start, .slice pa g.prods.length pc] 25)).alloc (.cells #[.int .i64 0, .int .i64 0, .int .i64 0, .int .i64 0, .int .i64 0] 41)) (w.heap.size + 1) 41 (Lk.of []).cells := Blk.newAt _ _ _ _ (by simp)
  have ho1 := ownL_one (base := w.heap.size + 1) q1 (Nat.le_refl _)
  have hG1 := hG0.alloc (.cells #[.int .i64 0, .int .i64 0, .int .i64 0, .int .i64 0, .int .i64 0] 41)
  clear hG0
  go_loopg [16, 7] n2 (fun gk s16 s7 wr => ∃ (i : Nat) (cur : List Lk), s16 = .int .i64 i ∧ i + gk = n2 ∧ Hid (cur = tailL k ss (l.take i)) ∧ OwnL wr (w.heap.size + 1) s7 cur ∧ GB w g ⟨ta, tc, na, nc, pa, pc⟩ wr)
  case atStart => exact ⟨0, [Lk.of []], rfl, by omega, Lib.hid (by simp [tailL]), ho1, hG1⟩
  case round =>
    clear q1 ho1 hG1
    obtain ⟨i, cur, rfl, hi, hcur, ho, hG⟩ := hrel
    replace hi := Lib.hid hi
    by_cases hin : i < n2
    · have hil : i < l.length := by have := hll'.out; omega
      have hsi : (ints l)[i]? = some (.int .i64 l[i]) := by simp [ints, hil]
      have htk : l.take (i + 1) = l.take i ++ [l[i]] := List.take_succ_eq_append_getElem hil
      have hsm : l[i] ∈ l := List.getElem_mem hil
      have hlr : Rd1 wr w.heap.size B2 n2 (ints l) := hl'.out.below hG.2.2
      obtain ⟨lb, loff, rfl, hlb, y0⟩ := hlr.get hsi
      have hso := Lib.hid (hok'.out _ hsm)
      have hcf := Lib.hid (tail_fit hk1 hk4 hfit'.out (l.take i) (fun s hs => hok'.out s (List.mem_of_mem_take hs)))
      have hcn := Lib.hid (tail_nodup hk1 hk4 hfit'.out (l.take i) (fun s hs => hok'.out s (List.mem_of_mem_take hs)))
      rw [← hcur.out] at hcf hcn
      generalize l[i] = s at *
      have hof := Lib.hid (one_fit hk1 hfit'.out hso.out)
      have hstep : Hid (stepL k ss cur s = tailL k ss (l.take (i + 1))) := Lib.hid (by rw [htk, tailL_snoc, ← hcur.out])
      clear hlr
      replace hsi := Lib.hid hsi
      replace htk := Lib.hid htk
      replace hsm := Lib.hid hsm
      have hz1 : (0 : Int) ≤ i := by omega
      have hz2 : (i : Int) < n2 := by omega
      go_upto_region 7 with (fail)
      have hM : MapK lookKey ((wr.alloc (.map #[] 0)).alloc (.cells #[.int .i64 1, .int .i64 s, .int .i64 0, .int .i64 0, .int .i64 0] 41)) wr.heap.size [] := (mapk_new lookKey wr wr.heap.size rfl).step (bAlc (Below.refl _ _) _)
      have q1 : Blk ((wr.alloc (.map #[] 0)).alloc (.cells #[.int .i64 1, .int .i64 s, .int .i64 0, .int .i64 0, .int .i64 0] 41)) (wr.heap.size + 1) 41 (Lk.of [s]).cells := Blk.newAt _ _ _ _ (by simp)
      have hG2 := (hG.alloc (.map #[] 0)).alloc (.cells #[.int .i64 1, .int .i64 s, .int .i64 0, .int .i64 0, .int .i64 0] 41)
      have ho2 := (ho.alloc (.map #[] 0)).alloc (.cells #[.int .i64 1, .int .i64 s, .int .i64 0, .int .i64 0, .int .i64 0] 41)
      have hmb : w.heap.size < wr.heap.size := hG.lt
      clear hG ho
      generalize (wr.alloc (.map #[] 0)).alloc (.cells #[.int .i64 1, .int .i64 s, .int .i64 0, .int .i64 0, .int .i64 0] 41) = W2 at *
      generalize wr.heap.size = mb at *
      by_cases h16 : 16 ≤ s
      · have hj : (s - 16).toNat < n := by
          have := hso.out
          unfold SymOk at this
          omega
        have hsr : SetsR W2 w.heap.size A n ss := hS'.out.below hG2.2.2
        obtain ⟨sb, soff, smb, rfl, hsb, hsmb, z0, zm⟩ := hsr.get _ hj
        have hgf := Lib.hid (fun x hx => (setsFit_get hfit'.out (s - 16).toNat x hx))
        have hgn : (ss.getD (s - 16).toNat []).Nodup := by
          rw [List.getD_eq_getElem?_getD]
          cases hh : ss[(s - 16).toNat]? with
          | none => simp
          | some t => exact hnd'.out t (List.mem_of_getElem? hh)
        have hgl : (ss.getD (s - 16).toNat []).length ≤ 900000 := by have := fit_len hgn hgf.out; omega
        have hone : Hid (lset (ss.getD (s - 16).toNat []) = oneL ss s) := Lib.hid (by unfold oneL; rw [if_pos h16])
        generalize ss.getD (s - 16).toNat [] = t at *
        obtain ⟨j, hjj⟩ := Int.eq_ofNat_of_zero_le (show 0 ≤ s - 16 by omega)
        have hjn : (s - 16).toNat = j := by omega
        rw [hjn] at z0 hj
        have zI : s - 16 = (j : Int) := by omega
        have zw : IntKind.i64.wrap (j : Int) = j := IntWalk.i64_in _ (by omega)
        replace hgn := Lib.hid hgn
        clear hjj hjn hsr
        have hz5 : (j : Int) < n := by omega
        have hz6 : (0 : Int) ≤ j := by omega
        go_upto_region 9 with (go_at_call 37; refine (hSo.out smb t W2 zm (fun x hx => (hgf.out x hx).1) hgl).mono ?_; rintro e wc ⟨v3, rfl, ho3, hb3⟩; obtain ⟨A1, c1, rfl, hd1, hk3, hm3, hbb3⟩ := ho3.reads)
        rw [hone.out] at hd1 ⊢
        obtain ⟨m, hm00⟩ : ∃ m, m = (oneL ss s).length := ⟨_, rfl⟩
        rw [← hm00] at hd1 ⊢
        have hG := hG2.step hb3
        have hMm := hM.step hb3
        have ho := ho2.step hb3
        clear hG2 hM ho2 q1 hb3 ho3 hk3 z0 zm hm00
        have hm : m = (oneL ss s).length := hd1.1.symm
        have hml : m ≤ 1000000 := by
          rw [hm]; have := one_len hfit'.out s; omega
        obtain ⟨A0, c0', rfl, hd0, hk0, hm0, hbb0⟩ := ho.reads
        have hcl : cur.length ≤ 1000000 := by have := fit_len hcn.out hcf.out; omega
        obtain ⟨c0, c1', c2', c3, c4, c5⟩ := hG.cells
        replace hm := Lib.hid hm
        clear hm0
        obtain ⟨J, hJl⟩ : ∃ J, J = addAll [] (sumsJ k cur (oneL ss s)) := ⟨_, rfl⟩
        have hJf : ∀ x ∈ J, Fit k x := by rw [hJl]; exact all_fit (by simp) (sums_fit hk4 hcf.out hof.out)
        have hJn : J.length ≤ 900000 := by
          have : J.Nodup := by rw [hJl]; exact addAll_nodup (by simp) _
          have := fit_len this hJf; omega
        have hJs : Hid (lset J = tailL k ss (l.take (i + 1))) := Lib.hid (by rw [hJl, ← hstep.out]; rfl)
        replace hJl := Lib.hid hJl
        have hJf' := Lib.hid hJf
        clear hJf
        go_wp2_with (first
          | (go_at_call 38; refine (hPl.out wc).mono ?_; rintro e w4 ⟨Bk, rfl, p1, p2, p3, p4⟩)
          | (go_at_call 35; refine (hJ.out k A0 A1 cur.length m c0' c1 cur (oneL ss s) [] mb Bk w4 hk4 ((hd0.below p4).mono p4.size) ((hd1.below p4).mono p4.size) (fun x hx => (hcf.out x hx).1) (fun x hx => (hof.out x hx).1) (fun x hx => (hcf.out x hx).2) hcl hml (hMm.step p4) p1 p3).mono ?_; rintro e w5 ⟨rfl, hM5, hg5⟩; rw [← hJl.out] at hM5)
          | (go_at_call 37; refine (hSo.out mb J w5 hM5 (fun x hx => (hJf'.out x hx).1) hJn).mono ?_; rintro e w6 ⟨v6, rfl, ho6, hb6⟩))
        have hG5 := (hG.step p4).grown hg5 (fun j hj => by cases hj; exact hmb)
        go_roundg (n2 - (i + 1))
        case measure => have := hi.out; omega
        case rel => exact ⟨i + 1, lset J, by go_num, by have := hi.out; omega, hJs, ho6.mono (by have := hG5.lt; omega), hG5.step hb6⟩
      · have hone : [Lk.of [s]] = oneL ss s := by unfold oneL; rw [if_neg h16]
        have hd1 := (rdL_one q1).mono (show mb + 1 + 1 ≤ W2.heap.size by have := q1.lt; omega)
        rw [hone] at hd1
        obtain ⟨A1, hA1⟩ : ∃ A1 : Option Addr, A1 = some ⟨mb + 1, 0, none⟩ := ⟨_, rfl⟩
        obtain ⟨m, hm00⟩ : ∃ m : Nat, m = 1 := ⟨_, rfl⟩
        have hG := hG2
        have hMm := hM
        have ho := ho2
        rw [← hA1, ← hm00] at hd1
        replace hone := Lib.hid hone
        replace hA1 := Lib.hid hA1
        replace hm00 := Lib.hid hm00
        clear hG2 hM ho2 q1
        go_upto_region 9 with (fail)
        obtain ⟨wc, hwc⟩ : ∃ wc, wc = W2 := ⟨_, rfl⟩
        rw [← hwc] at hd1 hG hMm ho ⊢
        clear hwc
        have hm : m = (oneL ss s).length := hd1.1.symm
        have hml : m ≤ 1000000 := by
          rw [hm]; have := one_len hfit'.out s; omega
        obtain ⟨A0, c0', rfl, hd0, hk0, hm0, hbb0⟩ := ho.reads
        have hcl : cur.length ≤ 1000000 := by have := fit_len hcn.out hcf.out; omega
        obtain ⟨c0, c1', c2', c3, c4, c5⟩ := hG.cells
        replace hm := Lib.hid hm
        clear hm0
        obtain ⟨J, hJl⟩ : ∃ J, J = addAll [] (sumsJ k cur (oneL ss s)) := ⟨_, rfl⟩
        have hJf : ∀ x ∈ J, Fit k x := by rw [hJl]; exact all_fit (by simp) (sums_fit hk4 hcf.out hof.out)
        have hJn : J.length ≤ 900000 := by
          have : J.Nodup := by rw [hJl]; exact addAll_nodup (by simp) _
          have := fit_len this hJf; omega
        have hJs : Hid (lset J = tailL k ss (l.take (i + 1))) := Lib.hid (by rw [hJl, ← hstep.out]; rfl)
        replace hJl := Lib.hid hJl
        have hJf' := Lib.hid hJf
        clear hJf
        go_wp2_with (first
          | (go_at_call 38; refine (hPl.out wc).mono ?_; rintro e w4 ⟨Bk, rfl, p1, p2, p3, p4⟩)
          | (go_at_call 35; refine (hJ.out k A0 (some ⟨mb + 1, 0, none⟩) cur.length 1 c0' 1 cur (oneL ss s) [] mb Bk w4 hk4 ((hd0.below p4).mono p4.size) (by have := (hd1.below p4).mono p4.size; rw [hA1.out, hm00.out] at this; exact this) (fun x hx => (hcf.out x hx).1) (fun x hx => (hof.out x hx).1) (fun x hx => (hcf.out x hx).2) hcl (by omega) (hMm.step p4) p1 p3).mono ?_; rintro e w5 ⟨rfl, hM5, hg5⟩; rw [← hJl.out] at hM5)
          | (go_at_call 37; refine (hSo.out mb J w5 hM5 (fun x hx => (hJf'.out x hx).1) hJn).mono ?_; rintro e w6 ⟨v6, rfl, ho6, hb6⟩))
        have hG5 := (hG.step p4).grown hg5 (fun j hj => by cases hj; exact hmb)
        go_roundg (n2 - (i + 1))
        case measure => have := hi.out; omega
        case rel => exact ⟨i + 1, lset J, by go_num, by have := hi.out; omega, hJs, ho6.mono (by have := hG5.lt; omega), hG5.step hb6⟩
    · have hcur2 : cur = tailL k ss l := by rw [hcur.out, List.take_of_length_le (by have := hll'.out; omega)]
      replace hcur2 := Lib.hid hcur2
      go_wp2_with fail
      go_ret
      exact hP.out _ _ (hcur2.out ▸ ho.mono (by omega)) hG.2.2
end Go.Proofs.YtnnkfgekiaaehaaGreat

/- Own sets; FIRST as a predicate. -/
namespace Go.Proofs.YtnnkfgekiaaehaaGreat
open Go.ChangeShapes Go.WideShapes Go.ChangeAt Go.RowKit
set_option linter.unusedVariables false
def SetsO (W : World) (base bo n : Nat) (ss : List (List Lk)) : Prop :=
  ∃ (cs : Array Value) (mbs : List Nat), Blk W bo 69 cs ∧ cs.size = n ∧ mbs.length = ss.length ∧ mbs.Nodup ∧ (∀ m ∈ mbs, base ≤ m ∧ m < W.heap.size) ∧
    ∀ (i m : Nat) (s : List Lk), mbs[i]? = some m → ss[i]? = some s → cs[i]? = some (.map (some m)) ∧ MapK lookKey W m s
theorem SetsO.step {W W' : World} {base bo n : Nat} {ss : List (List Lk)} (h : SetsO W base bo n ss) (hb : Below W.heap.size W W') : SetsO W' base bo n ss := by
  obtain ⟨cs, mbs, h1, h2, h3, h4, h5, h6⟩ := h
  exact ⟨cs, mbs, h1.step hb, h2, h3, h4, fun m hm => ⟨(h5 m hm).1, Nat.lt_of_lt_of_le (h5 m hm).2 hb.size⟩, fun i m s a b => ⟨(h6 i m s a b).1, (h6 i m s a b).2.step hb⟩⟩
theorem grownBy_setC (w : World) (b i : Nat) (v : Value) : w.grownBy (w.setCell ⟨b, i, none⟩ v) (some b) :=
  ⟨rfl, rfl, rfl, by simp, fun k hk hne => Below.heap_setCell w ⟨b, i, none⟩ v k (fun e => hne (by rw [e]))⟩
theorem mapk_blk {α : Type} {E : KeyEnc α} {W : World} {m g : Nat} {s : List α} {t : TypeId} {cs : Array Value} (h : MapK E W m s) (q : Blk W g t cs) : m ≠ g := by
  rintro rfl
  obtain ⟨es, clock, hb, _⟩ := h
  unfold Blk at q
  rw [hb] at q; cases q
theorem SetsO.put {W : World} {base bo n : Nat} {ss : List (List Lk)} (h : SetsO W base bo n ss) {g : Nat} {t : TypeId} {cs' : Array Value} (q : Blk W g t cs') (hg : g ≠ bo) (i : Nat) (v : Value) : SetsO (W.setCell ⟨g, i, none⟩ v) base bo n ss := by
  obtain ⟨cs, mbs, h1, h2, h3, h4, h5, h6⟩ := h
  refine ⟨cs, mbs, h1.far (Ne.symm hg) v, h2, h3, h4, fun m hm => ?_, fun j m s a b => ⟨(h6 j m s a b).1, ?_⟩⟩
  · have := h5 m hm; simpa using this
  · have hm := (h6 j m s a b).2
    exact hm.grown (grownBy_setC W g i v) (by simpa using mapk_blk hm q)
theorem SetsO.push {W : World} {base bo n : Nat} {ss : List (List Lk)} (h : SetsO W base bo n ss) (hn : ss.length < n) (hb : base ≤ W.heap.size) :
    SetsO ((W.alloc (.map #[] 0)).setCell ⟨bo, ss.length, none⟩ (.map (some W.heap.size))) base bo n (ss ++ [[]]) := by
  obtain ⟨cs, mbs, h1, h2, h3, h4, h5, h6⟩ := h
  have hlt := h1.lt
  have hbo : W.heap.size ≠ bo := by omega
  refine ⟨cs.setIfInBounds ss.length (.map (some W.heap.size)), mbs ++ [W.heap.size], (h1.alloc _).put _ _, by simpa using h2, by simp [h3], ?_, ?_, ?_⟩
  · rw [List.nodup_append]
    refine ⟨h4, by simp, fun a ha b hb' => ?_⟩
    simp at hb'; subst hb'
    have := (h5 a ha).2
    omega
  · intro m hm
    rcases List.mem_append.1 hm with hm | hm
    · have := h5 m hm; simp; omega
    · simp at hm; subst hm; simp; omega
  · intro i m s hmi hsi
    by_cases hi : i < ss.length
    · rw [List.getElem?_append_left (by omega)] at hmi hsi
      obtain ⟨a, b⟩ := h6 i m s hmi hsi
      refine ⟨by rw [Array.getElem?_setIfInBounds_ne (by omega)]; exact a, ?_⟩
      have b2 := b.step (w' := W.alloc (.map #[] 0)) (bAlc (Below.refl _ _) _)
      exact b2.grown (grownBy_setC _ bo _ _) (by simpa using mapk_blk b h1)
    · have hi2 : i = ss.length := by have := (List.getElem?_eq_some_iff.1 hsi).1; simp at this; omega
      subst hi2
      rw [← h3] at hmi
      simp at hmi hsi
      subst hmi; subst hsi
      refine ⟨by rw [Array.getElem?_setIfInBounds_self]; simp [h2, hn], ?_⟩
      exact (mapk_new lookKey W W.heap.size rfl).grown (grownBy_setC _ bo _ _) (by simpa using hbo)
theorem SetsO.get {W : World} {base bo n : Nat} {ss : List (List Lk)} (h : SetsO W base bo n ss) (i : Nat) (hi : i < ss.length) :
    ∃ m, base ≤ m ∧ m < W.heap.size ∧ W.cell? ⟨bo, i, none⟩ = some (.map (some m)) ∧ MapK lookKey W m (ss.getD i []) ∧ ∀ (W1 W' : World) (cur : List Lk), Below W.heap.size W W1 → W1.grownBy W' (some m) → MapK lookKey W' m cur → SetsO W' base bo n (ss.set i cur) := by
  obtain ⟨cs, mbs, h1, h2, h3, h4, h5, h6⟩ := h
  have him : i < mbs.length := by omega
  obtain ⟨a, b⟩ := h6 i mbs[i] ss[i] (List.getElem?_eq_getElem him) (List.getElem?_eq_getElem hi)
  obtain ⟨c, d⟩ := h5 _ (List.getElem_mem him)
  refine ⟨mbs[i], c, d, by rw [h1.cell]; exact a, by simpa [List.getD_eq_getElem?_getD, hi] using b, ?_⟩
  intro W1 W' cur hb hg hm
  have hz := hb.size
  have hz2 := hg.size
  refine ⟨cs, mbs, (h1.step hb).grown hg (by simpa using Ne.symm (mapk_blk b h1)), h2, by simpa using h3, h4, fun m hm => ⟨(h5 m hm).1, by have := (h5 m hm).2; omega⟩, ?_⟩
  intro j m s hmj hsj
  by_cases hij : i = j
  · subst hij
    rw [List.getElem?_eq_getElem him] at hmj
    injection hmj with hmj
    subst hmj
    rw [List.getElem?_set_self hi] at hsj
    injection hsj with hsj
    subst hsj
    exact ⟨a, hm⟩
  · rw [List.getElem?_set_ne hij] at hsj
    obtain ⟨a2, b2⟩ := h6 j m s hmj hsj
    refine ⟨a2, (b2.step hb).grown hg ?_⟩
    intro e
    injection e with e
    have hjm := (List.getElem?_eq_some_iff.1 hmj).1
    have e2 : mbs[j] = m := by rw [List.getElem?_eq_getElem hjm] at hmj; injection hmj
    exact hij ((List.getElem_inj h4).1 (by rw [e2, e]))
theorem SetsO.reads {W : World} {base bo n : Nat} {ss : List (List Lk)} (h : SetsO W base bo n ss) (hn : ss.length = n) : SetsR W W.heap.size (some ⟨bo, 0, none⟩) n ss := by
  obtain ⟨cs, mbs, h1, h2, h3, h4, h5, h6⟩ := h
  refine ⟨hn, .inr ⟨bo, 0, rfl, h1.lt, fun i s hs => ?_⟩⟩
  have hi := (List.getElem?_eq_some_iff.1 hs).1
  have him : i < mbs.length := by omega
  obtain ⟨a, b⟩ := h6 i mbs[i] s (List.getElem?_eq_getElem him) hs
  exact ⟨mbs[i], (h5 _ (List.getElem_mem him)).2, by rw [Nat.zero_add, h1.cell]; exact a, b⟩
theorem SetsO.nodup {W : World} {base bo n : Nat} {ss : List (List Lk)} (h : SetsO W base bo n ss) : ∀ s ∈ ss, s.Nodup := by
  obtain ⟨cs, mbs, h1, h2, h3, h4, h5, h6⟩ := h
  intro s hs
  obtain ⟨i, hi, rfl⟩ := List.getElem_of_mem hs
  have him : i < mbs.length := by omega
  obtain ⟨a, es, clock, _, _, _, _, hn, _⟩ := h6 i mbs[i] ss[i] (List.getElem?_eq_getElem him) (List.getElem?_eq_getElem hi)
  exact hn
inductive FL (ps : List Pr) (k : Nat) : List Int → Lk → Prop
  | nil : FL ps k [] (Lk.of [])
  | term {l : List Int} {x : Lk} {s : Int} : FL ps k l x → s < 16 → FL ps k (l ++ [s]) (lplus k x (Lk.of [s]))
  | non {l : List Int} {x : Lk} {p : Pr} {y : Lk} : FL ps k l x → p ∈ ps → 16 ≤ p.left → FL ps k p.right y → FL ps k (l ++ [p.left]) (lplus k x y)
def FN (ps : List Pr) (k : Nat) (s : Int) (y : Lk) : Prop := ∃ p ∈ ps, p.left = s ∧ FL ps k p.right y
def SoundF (ps : List Pr) (k : Nat) (ss : List (List Lk)) : Prop := ∀ (i : Nat) (y : Lk), y ∈ ss.getD i [] → FN ps k (16 + (i : Int)) y
def ClosedF (ps : List Pr) (k : Nat) (ss : List (List Lk)) : Prop := ∀ p ∈ ps, ∀ y ∈ tailL k ss p.right, y ∈ ss.getD (p.left - 16).toNat []
theorem step_mem {k n : Nat} (hk : 1 ≤ k) (hk4 : k ≤ 4) {ss : List (List Lk)} (hf : SetsFit k ss) {out : List Lk} (ho : ∀ x ∈ out, Fit k x) {s : Int} (hs : SymOk n s) (z : Lk) :
    z ∈ stepL k ss out s ↔ ∃ x ∈ out, ∃ y ∈ oneL ss s, z = lplus k x y := by
  unfold stepL
  rw [lset_mem (k := 8) (fun x hx => (all_fit (by simp) (sums_fit hk4 ho (one_fit hk hf hs)) x hx).1), addAll_mem, sums_mem]
  simp
theorem one_mem {k : Nat} {ss : List (List Lk)} (hf : SetsFit k ss) (s : Int) (y : Lk) : y ∈ oneL ss s ↔ (16 ≤ s ∧ y ∈ ss.getD (s - 16).toNat []) ∨ (s < 16 ∧ y = Lk.of [s]) := by
  unfold oneL
  split
  · rename_i h
    rw [lset_mem (k := 8) (fun x hx => (setsFit_get hf _ x hx).1)]
    constructor
    · intro hy; exact .inl ⟨h, hy⟩
    · rintro (⟨_, hy⟩ | ⟨h2, _⟩)
      · exact hy
      · omega
  · rename_i h
    simp only [List.mem_singleton]
    constructor
    · intro hy; exact .inr ⟨by omega, hy⟩
    · rintro (⟨h2, _⟩ | ⟨_, hy⟩)
      · omega
      · exact hy
theorem tail_sound {ps : List Pr} {k n : Nat} (hk : 1 ≤ k) (hk4 : k ≤ 4) {ss : List (List Lk)} (hf : SetsFit k ss) (hs : SoundF ps k ss) (l : List Int) (hl : ∀ s ∈ l, SymOk n s) : ∀ y ∈ tailL k ss l, FL ps k l y := by
  have : ∀ m, ∀ l : List Int, l.length = m → (∀ s ∈ l, SymOk n s) → ∀ y ∈ tailL k ss l, FL ps k l y := by
    intro m
    induction m with
    | zero =>
      intro l h0 _ y hy
      have : l = [] := List.eq_nil_of_length_eq_zero h0
      subst this
      simp [tailL] at hy
      subst hy
      exact FL.nil
    | succ m ih =>
      intro l hlm hl y hy
      rcases List.eq_nil_or_concat l with rfl | ⟨l', s, rfl⟩
      · simp at hlm
      · rw [List.concat_eq_append] at *
        have hl' : ∀ s ∈ l', SymOk n s := fun z hz => hl z (List.mem_append_left _ hz)
        rw [tailL_snoc, step_mem hk hk4 hf (tail_fit hk hk4 hf l' hl') (hl s (by simp))] at hy
        obtain ⟨x, hx, z, hz, rfl⟩ := hy
        have hx' := ih l' (by simp at hlm; exact hlm) hl' x hx
        rcases (one_mem hf s z).1 hz with ⟨h1, h2⟩ | ⟨h1, rfl⟩
        · obtain ⟨p, hp, hpl, hpy⟩ := hs _ _ h2
          have e : p.left = s := by rw [hpl]; omega
          rw [← e]
          exact FL.non hx' hp (by omega) hpy
        · exact FL.term hx' h1
  exact this _ l rfl hl
theorem tail_full {ps : List Pr} {k n : Nat} (hk : 1 ≤ k) (hk4 : k ≤ 4) {ss : List (List Lk)} (hf : SetsFit k ss) (hc : ClosedF ps k ss) (hps : ∀ p ∈ ps, ∀ s ∈ p.right, SymOk n s) {l : List Int} {y : Lk} (h : FL ps k l y) : (∀ s ∈ l, SymOk n s) → y ∈ tailL k ss l := by
  induction h with
  | nil => intro _; simp [tailL]
  | @term l x s hx hs ih =>
    intro hl
    have hl' : ∀ s ∈ l, SymOk n s := fun z hz => hl z (List.mem_append_left _ hz)
    rw [tailL_snoc, step_mem hk hk4 hf (tail_fit hk hk4 hf l hl') (hl s (by simp))]
    exact ⟨x, ih hl', _, (one_mem hf s _).2 (.inr ⟨hs, rfl⟩), rfl⟩
  | @non l x p y hx hp h16 hy ih1 ih2 =>
    intro hl
    have hl' : ∀ s ∈ l, SymOk n s := fun z hz => hl z (List.mem_append_left _ hz)
    rw [tailL_snoc, step_mem hk hk4 hf (tail_fit hk hk4 hf l hl') (hl p.left (by simp))]
    exact ⟨x, ih1 hl', _, (one_mem hf p.left _).2 (.inl ⟨h16, hc p hp y (ih2 (hps p hp))⟩), rfl⟩
theorem first_iff {ps : List Pr} {k n : Nat} (hk : 1 ≤ k) (hk4 : k ≤ 4) {ss : List (List Lk)} (hf : SetsFit k ss) (hs : SoundF ps k ss) (hc : ClosedF ps k ss) (hps : ∀ p ∈ ps, ∀ s ∈ p.right, SymOk n s) (l : List Int) (hl : ∀ s ∈ l, SymOk n s) (y : Lk) :
    y ∈ tailL k ss l ↔ FL ps k l y := ⟨tail_sound hk hk4 hf hs l hl y, fun h => tail_full hk hk4 hf hc hps h hl⟩
end Go.Proofs.YtnnkfgekiaaehaaGreat

/- One round of begins, plainly. -/
namespace Go.Proofs.YtnnkfgekiaaehaaGreat
open Go.ChangeShapes Go.WideShapes Go.ChangeAt Go.RowKit
set_option linter.unusedVariables false
def tot (ss : List (List Lk)) : Nat := (ss.map List.length).sum
theorem tot_set : ∀ (ss : List (List Lk)) (i : Nat) (c : List Lk), i < ss.length → tot (ss.set i c) + (ss.getD i []).length = tot ss + c.length
  | [], i, c, h => by simp at h
  | s :: ss, 0, c, _ => by simp [tot]; omega
  | s :: ss, i + 1, c, h => by
    have := tot_set ss i c (by simpa using h)
    simp [tot] at this ⊢
    omega
theorem tot_le : ∀ (ss : List (List Lk)), (∀ s ∈ ss, s.length ≤ 4681) → tot ss ≤ ss.length * 4681
  | [], _ => by simp [tot]
  | s :: ss, h => by
    have h1 := h s List.mem_cons_self
    have h2 := tot_le ss fun t ht => h t (List.mem_cons_of_mem _ ht)
    simp [tot] at h2 ⊢
    omega
theorem plus_nil {k : Nat} {x : Lk} (h : Fit k x) : lplus k x (Lk.of []) = x := by
  unfold lplus
  rw [l_of [] (by simp), List.append_nil, List.take_of_length_le h.2]
  exact (right_l h.1).2.2.1
theorem sums_nil {k : Nat} {T : List Lk} (h : ∀ x ∈ T, Fit k x) : ∀ z, z ∈ sumsJ k T [Lk.of []] ↔ z ∈ T := by
  intro z
  rw [sums_mem]
  constructor
  · rintro ⟨x, hx, y, hy, rfl⟩
    simp at hy; subst hy
    rw [plus_nil (h x hx)]; exact hx
  · intro hz
    exact ⟨z, hz, _, by simp, (plus_nil (h z hz)).symm⟩
theorem set_fit {k : Nat} {ss : List (List Lk)} (h : SetsFit k ss) (i : Nat) {c : List Lk} (hc : ∀ x ∈ c, Fit k x) : SetsFit k (ss.set i c) := by
  intro s hs x hx
  rcases List.mem_or_eq_of_mem_set hs with h1 | rfl
  · exact h s h1 x hx
  · exact hc x hx
theorem getD_set (ss : List (List Lk)) (i j : Nat) (c : List Lk) (hi : i < ss.length) : (ss.set i c).getD j [] = if i = j then c else ss.getD j [] := by
  rw [List.getD_eq_getElem?_getD, List.getD_eq_getElem?_getD, List.getElem?_set]
  by_cases h : i = j
  · subst h; simp [hi]
  · simp [h]
theorem set_same (ss : List (List Lk)) (i : Nat) (h : i < ss.length) : ss.set i (ss.getD i []) = ss := by
  rw [List.getD_eq_getElem?_getD, List.getElem?_eq_getElem h]; simp
theorem set_sound {ps : List Pr} {k : Nat} {ss : List (List Lk)} (h : SoundF ps k ss) (i : Nat) (hi : i < ss.length) {c : List Lk} (hc : ∀ y ∈ c, FN ps k (16 + (i : Int)) y) : SoundF ps k (ss.set i c) := by
  intro j y hy
  rw [getD_set ss i j c hi] at hy
  split at hy
  · rename_i e; subst e; exact hc y hy
  · exact h j y hy
def newS (k : Nat) (ss : List (List Lk)) (p : Pr) : List Lk := addAll (ss.getD (p.left - 16).toNat []) (sumsJ k (tailL k ss p.right) [Lk.of []])
structure RoundF (ps : List Pr) (k : Nat) (ss : List (List Lk)) (p : Pr) : Prop where
  fit : SetsFit k (ss.set (p.left - 16).toNat (newS k ss p))
  sound : SoundF ps k (ss.set (p.left - 16).toNat (newS k ss p))
  grow : (ss.getD (p.left - 16).toNat []).length ≤ (newS k ss p).length
  same : (newS k ss p).length = (ss.getD (p.left - 16).toNat []).length → ss.set (p.left - 16).toNat (newS k ss p) = ss ∧ ∀ y ∈ tailL k ss p.right, y ∈ ss.getD (p.left - 16).toNat []
  tot : YtnnkfgekiaaehaaGreat.tot (ss.set (p.left - 16).toNat (newS k ss p)) + (ss.getD (p.left - 16).toNat []).length = YtnnkfgekiaaehaaGreat.tot ss + (newS k ss p).length
theorem round_first {ps : List Pr} {k n : Nat} (hk : 1 ≤ k) (hk4 : k ≤ 4) {ss : List (List Lk)} (hn : ss.length = n) (hf : SetsFit k ss) (hs : SoundF ps k ss) {p : Pr} (hp : p ∈ ps) (hpl : 16 ≤ p.left ∧ p.left < 16 + (n : Int)) (hok : ∀ s ∈ p.right, SymOk n s) : RoundF ps k ss p := by
  have hi : (p.left - 16).toNat < ss.length := by omega
  have hT := tail_fit hk hk4 hf p.right hok
  have hTs := tail_sound hk hk4 hf hs p.right hok
  have hmem : ∀ y, y ∈ newS k ss p ↔ y ∈ ss.getD (p.left - 16).toNat [] ∨ y ∈ tailL k ss p.right := fun y => by
    unfold newS; rw [addAll_mem, sums_nil hT]
  refine ⟨set_fit hf _ fun x hx => ?_, set_sound hs _ hi fun y hy => ?_, addAll_len _ _, fun h => ?_, tot_set ss _ _ hi⟩
  · rcases (hmem x).1 hx with h | h
    · exact setsFit_get hf _ x h
    · exact hT x h
  · rcases (hmem y).1 hy with h | h
    · exact hs _ y h
    · exact ⟨p, hp, by omega, hTs y h⟩
  · obtain ⟨h1, h2⟩ := addAll_same _ _ h
    have e : newS k ss p = ss.getD (p.left - 16).toNat [] := h1
    rw [e]
    exact ⟨set_same ss _ hi, fun y hy => h2 y ((sums_nil hT y).2 hy)⟩
end Go.Proofs.YtnnkfgekiaaehaaGreat

/- FOLLOW as a predicate; its laws. -/
namespace Go.Proofs.YtnnkfgekiaaehaaGreat
set_option linter.unusedVariables false
inductive FO (ps : List Pr) (k : Nat) (start : Int) : Int → Lk → Prop
  | start : FO ps k start start (Lk.of [])
  | use {p : Pr} {d : Nat} {s : Int} {x y : Lk} : p ∈ ps → p.right[d]? = some s → 16 ≤ s → FL ps k (p.right.drop (d + 1)) x → FO ps k start p.left y → FO ps k start s (lplus k x y)
def PsOk (ps : List Pr) (m : Int) : Prop := ∀ p ∈ ps, ∀ s ∈ p.right, s < 16 → 0 ≤ s ∧ s < m
theorem fl_right {ps : List Pr} {k : Nat} {m : Int} (hk1 : 1 ≤ k) (hk : k ≤ 4) (hm : 1 ≤ m ∧ m ≤ 8) (hps : PsOk ps m) {l : List Int} {x : Lk} (h : FL ps k l x) : (∀ s ∈ l, s < 16 → 0 ≤ s ∧ s < m) → x.right m ∧ x.l.length ≤ k := by
  induction h with
  | nil => intro _; exact ⟨nil_right m hm, by rw [l_of _ (by simp)]; simp⟩
  | @term l x s hx hs ih =>
    intro hl
    have h1 := ih fun z hz => hl z (List.mem_append_left _ hz)
    have h2 := hl s (by simp) hs
    exact ⟨lplus_right hk h1.1 (of_right hm (by simp) (by simpa using h2)), by rw [lplus_l hk, List.length_take]; omega⟩
  | @non l x p y hx hp h16 hy ih1 ih2 =>
    intro hl
    have h1 := ih1 fun z hz => hl z (List.mem_append_left _ hz)
    have h2 := ih2 (hps p hp)
    exact ⟨lplus_right hk h1.1 h2.1, by rw [lplus_l hk, List.length_take]; omega⟩
theorem fo_right {ps : List Pr} {k : Nat} {m start : Int} (hk1 : 1 ≤ k) (hk : k ≤ 4) (hm : 1 ≤ m ∧ m ≤ 8) (hps : PsOk ps m) {s : Int} {x : Lk} (h : FO ps k start s x) : x.right m ∧ x.l.length ≤ k := by
  induction h with
  | start => exact ⟨nil_right m hm, by rw [l_of _ (by simp)]; simp⟩
  | @use p d s x y hp hd h16 hx hy ih =>
    have h1 := fl_right hk1 hk hm hps hx fun z hz => hps p hp z (List.mem_of_mem_drop hz)
    exact ⟨lplus_right hk h1.1 ih.1, by rw [lplus_l hk, List.length_take]; omega⟩
def SoundO (ps : List Pr) (k : Nat) (start : Int) (fs : List (List Lk)) : Prop := ∀ (i : Nat) (y : Lk), y ∈ fs.getD i [] → FO ps k start (16 + (i : Int)) y
def usesL (k : Nat) (ss fs : List (List Lk)) (p : Pr) (d : Nat) : List Lk := sumsJ k (tailL k ss (p.right.drop (d + 1))) (lset (fs.getD (p.left - 16).toNat []))
def ClosedO (ps : List Pr) (k : Nat) (start : Int) (ss fs : List (List Lk)) : Prop :=
  Lk.of [] ∈ fs.getD (start - 16).toNat [] ∧ ∀ p ∈ ps, ∀ (d : Nat) (s : Int), p.right[d]? = some s → 16 ≤ s → ∀ z ∈ usesL k ss fs p d, z ∈ fs.getD (s - 16).toNat []
theorem follow_iff {ps : List Pr} {k n : Nat} {start : Int} (hk : 1 ≤ k) (hk4 : k ≤ 4) {ss fs : List (List Lk)} (hf : SetsFit k ss) (hff : SetsFit k fs) (hss : SoundF ps k ss) (hsc : ClosedF ps k ss) (hps : ∀ p ∈ ps, 16 ≤ p.left ∧ ∀ s ∈ p.right, SymOk n s)
    (hs : SoundO ps k start fs) (hc : ClosedO ps k start ss fs) (s : Int) (h16 : 16 ≤ s) (y : Lk) : y ∈ fs.getD (s - 16).toNat [] ↔ FO ps k start s y := by
  constructor
  · intro h
    have := hs _ y h
    rwa [show (16 : Int) + ((s - 16).toNat : Int) = s by omega] at this
  · intro h
    induction h with
    | start => exact hc.1
    | @use p d s x y hp hd h16' hx hy ih =>
      refine hc.2 p hp d s hd h16 _ ?_
      refine (sums_mem k _ _ _).2 ⟨x, ?_, y, ?_, rfl⟩
      · exact (first_iff hk hk4 hf hss hsc (fun p hp => (hps p hp).2) _ (fun z hz => (hps p hp).2 z (List.mem_of_mem_drop hz)) x).2 hx
      · exact (lset_mem (k := 8) (fun z hz => (setsFit_get hff _ z hz).1) y).2 (ih (hps p hp).1)
end Go.Proofs.YtnnkfgekiaaehaaGreat

/- One round of all, plainly. -/
namespace Go.Proofs.YtnnkfgekiaaehaaGreat
set_option linter.unusedVariables false
theorem setO_sound {ps : List Pr} {k : Nat} {start : Int} {ss : List (List Lk)} (h : SoundO ps k start ss) (i : Nat) (hi : i < ss.length) {c : List Lk} (hc : ∀ y ∈ c, FO ps k start (16 + (i : Int)) y) : SoundO ps k start (ss.set i c) := by
  intro j y hy
  rw [getD_set ss i j c hi] at hy
  split at hy
  · rename_i e; subst e; exact hc y hy
  · exact h j y hy
def newO (k : Nat) (ss fs : List (List Lk)) (p : Pr) (d : Nat) (s : Int) : List Lk := addAll (fs.getD (s - 16).toNat []) (usesL k ss fs p d)
structure RoundO (ps : List Pr) (k : Nat) (start : Int) (ss fs : List (List Lk)) (p : Pr) (d : Nat) (s : Int) : Prop where
  fit : SetsFit k (fs.set (s - 16).toNat (newO k ss fs p d s))
  sound : SoundO ps k start (fs.set (s - 16).toNat (newO k ss fs p d s))
  begin_ : Lk.of [] ∈ (fs.set (s - 16).toNat (newO k ss fs p d s)).getD (start - 16).toNat []
  grow : (fs.getD (s - 16).toNat []).length ≤ (newO k ss fs p d s).length
  same : (newO k ss fs p d s).length = (fs.getD (s - 16).toNat []).length → fs.set (s - 16).toNat (newO k ss fs p d s) = fs ∧ ∀ y ∈ usesL k ss fs p d, y ∈ fs.getD (s - 16).toNat []
  tot : YtnnkfgekiaaehaaGreat.tot (fs.set (s - 16).toNat (newO k ss fs p d s)) + (fs.getD (s - 16).toNat []).length = YtnnkfgekiaaehaaGreat.tot fs + (newO k ss fs p d s).length
theorem round_follow {ps : List Pr} {k n : Nat} {start : Int} (hk : 1 ≤ k) (hk4 : k ≤ 4) {ss fs : List (List Lk)} (hn : fs.length = n) (hf : SetsFit k ss) (hff : SetsFit k fs) (hss : SoundF ps k ss) (hs : SoundO ps k start fs) (hst : Lk.of [] ∈ fs.getD (start - 16).toNat [])
    {p : Pr} (hp : p ∈ ps) {d : Nat} {s : Int} (hd : p.right[d]? = some s) (hpl : 16 ≤ p.left) (h16 : 16 ≤ s) (hsn : s < 16 + (n : Int)) (hok : ∀ s ∈ p.right, SymOk n s) : RoundO ps k start ss fs p d s := by
  have hi : (s - 16).toNat < fs.length := by omega
  have hdr : ∀ z ∈ p.right.drop (d + 1), SymOk n z := fun z hz => hok z (List.mem_of_mem_drop hz)
  have hT := tail_fit hk hk4 hf _ hdr
  have hTs := tail_sound hk hk4 hf hss _ hdr
  have hlf := setsFit_get hff (p.left - 16).toNat
  have hL := lset_fit hlf
  have hU : ∀ z ∈ usesL k ss fs p d, Fit k z := sums_fit hk4 hT hL
  refine ⟨set_fit hff _ (all_fit (setsFit_get hff _) hU), setO_sound hs _ hi fun y hy => ?_, ?_, addAll_len _ _, fun h => ?_, tot_set fs _ _ hi⟩
  · rcases (addAll_mem _ _ y).1 hy with h | h
    · exact hs _ y h
    · obtain ⟨x, hx, z, hz, rfl⟩ := (sums_mem k _ _ y).1 h
      have hz2 := hs _ z ((lset_mem (k := 8) (fun z hz => (hlf z hz).1) z).1 hz)
      rw [show (16 : Int) + ((p.left - 16).toNat : Int) = p.left by omega] at hz2
      rw [show (16 : Int) + ((s - 16).toNat : Int) = s by omega]
      exact .use hp hd h16 (hTs x hx) hz2
  · rw [getD_set fs _ _ _ hi]
    split
    · rename_i e; unfold newO; rw [addAll_mem, e]; exact .inl hst
    · exact hst
  · obtain ⟨h1, h2⟩ := addAll_same _ _ h
    have e : newO k ss fs p d s = fs.getD (s - 16).toNat [] := h1
    rw [e]
    exact ⟨set_same fs _ hi, fun y hy => h2 y hy⟩
end Go.Proofs.YtnnkfgekiaaehaaGreat

/- The kit: Mod, At, OwnTexts, OwnInts. -/
namespace Go.Proofs.YtnnkfgekiaaehaaGreat
open Go.ChangeShapes Go.WideShapes Go.ChangeAt Go.RowKit
set_option linter.unusedVariables false
theorem mod_lo (a m : Int) (hm : 0 < m) (h : a.tmod m < 0) : a.tmod m + m = a % m := by
  have h1 := (Int.tmod_eq_emod : a.tmod m = _)
  have h2 := Int.emod_nonneg a (by omega : m ≠ 0)
  have h3 := Int.emod_lt_of_pos a hm
  split at h1 <;> omega
theorem mod_hi (a m : Int) (hm : 0 < m) (h : ¬ a.tmod m < 0) : a.tmod m = a % m := by
  have h1 := (Int.tmod_eq_emod : a.tmod m = _)
  have h2 := Int.emod_nonneg a (by omega : m ≠ 0)
  have h3 := Int.emod_lt_of_pos a hm
  split at h1 <;> omega
theorem mod_bd (a m : Int) (hm : 0 < m) : -m < a.tmod m ∧ a.tmod m < m := by
  have h1 := (Int.tmod_eq_emod : a.tmod m = _)
  have h2 := Int.emod_nonneg a (by omega : m ≠ 0)
  have h3 := Int.emod_lt_of_pos a hm
  split at h1 <;> omega
set_option maxHeartbeats 400000 in
theorem mod_any (a m : Int) (w : World) (wa : (Lit.int .i64 a).wf = true) (h1 : 1 ≤ m) (h2 : m ≤ 1099511627776) :
    Calls Tryz.prog 15 #[.int .i64 a, .int .i64 m] w fun e w' => e = .returned (.int .i64 (a % m)) ∧ w = w' := by
  have hb := mod_bd a m (by omega)
  have hne : ¬ m = 0 := by omega
  have hnb : (m == 0) = false := by simpa using hne
  by_cases h : a.tmod m < 0
  · have hL := Lib.hid (mod_lo a m (by omega) h)
    go_enter Tryz.func15, Tryz.ntmps15
    go_wp2_with fail
    go_ret
    exact ⟨ret_int hL.out, rfl⟩
  · have hL := Lib.hid (mod_hi a m (by omega) h)
    go_enter Tryz.func15, Tryz.ntmps15
    go_wp2_with fail
    go_ret
    exact ⟨ret_int hL.out, rfl⟩
set_option maxHeartbeats 400000 in
theorem at_any (A : Option Addr) (n c : Nat) (l : List Int) (i : Nat) (B : Nat) (w : World) (h : Rd1 w B A n (ints l)) (hn : n ≤ maxLen) (hi : i ≤ 1000000) :
    Calls Tryz.prog 16 #[.slice A n c, .int .i64 i] w fun e w' => e = .returned (.int .i64 (l.getD i 0)) ∧ w = w' := by
  have hl : l.length = n := by have := h.1; simpa [ints] using this
  by_cases hin : i < n
  · have hxi : (ints l)[i]? = some (.int .i64 (l.getD i 0)) := by
      have : i < l.length := by omega
      simp [ints, this]
    obtain ⟨b, off, rfl, hbt, x0⟩ := h.get hxi
    generalize l.getD i 0 = x at *
    have hz1 : (0 : Int) ≤ i := by omega
    have hz2 : (i : Int) < n := by omega
    replace hl := Lib.hid hl
    replace hxi := Lib.hid hxi
    go_enter Tryz.func16, Tryz.ntmps16
    go_wp2_with fail
    go_ret
    exact ⟨rfl, rfl⟩
  · have hx : l.getD i 0 = 0 := by simp [List.getD_eq_getElem?_getD, show l.length ≤ i by omega]
    rw [hx]
    have hz1 : (0 : Int) ≤ i := by omega
    have hz2 : (n : Int) ≤ i := by omega
    replace hl := Lib.hid hl
    replace hx := Lib.hid hx
    go_enter Tryz.func16, Tryz.ntmps16
    go_wp2_with fail
    go_ret
    exact ⟨rfl, rfl⟩
end Go.Proofs.YtnnkfgekiaaehaaGreat

/- Grammars out of numbers, plainly; what a right grammar gives. -/
namespace Go.Proofs.YtnnkfgekiaaehaaGreat
set_option linter.unusedVariables false
structure GOk (g : Gr) (k : Nat) : Prop where
  hk : g.k = (k : Int)
  k1 : 1 ≤ k
  k4 : k ≤ 4
  tk : 1 ≤ g.toks.length ∧ g.toks.length ≤ 8
  nm : 1 ≤ g.names.length ∧ g.names.length ≤ 8
  pl : g.prods.length ≤ 24
  st : 16 ≤ g.start ∧ g.start < 16 + (g.names.length : Int)
  pr : ∀ p ∈ g.prods, (16 ≤ p.left ∧ p.left < 16 + (g.names.length : Int)) ∧ p.right.length ≤ 6 ∧ ∀ s ∈ p.right, (0 ≤ s ∧ s < g.toks.length) ∨ (16 ≤ s ∧ s < 16 + (g.names.length : Int))
theorem fullB_iff (g : Gr) : fullB g = true ↔ g.toks.length ≤ 8 ∧ g.names.length ≤ 8 ∧ g.prods.length ≤ 24 ∧ ∀ p ∈ g.prods, p.right.length ≤ 6 := by
  simp [fullB]
theorem shortB_iff (g : Gr) : shortB g = false ↔ 1 ≤ g.toks.length ∧ 1 ≤ g.names.length := by
  unfold shortB
  rw [Bool.or_eq_false_iff, decide_eq_false_iff_not, decide_eq_false_iff_not]
  omega
theorem symB_iff (g : Gr) : symB g = true ↔ (16 ≤ g.start ∧ g.start < 16 + (g.names.length : Int)) ∧ ∀ p ∈ g.prods, (16 ≤ p.left ∧ p.left < 16 + (g.names.length : Int)) ∧ ∀ s ∈ p.right, (0 ≤ s ∧ s < (g.toks.length : Int)) ∨ (16 ≤ s ∧ s < 16 + (g.names.length : Int)) := by
  unfold symB ntB tmB
  rw [Bool.and_eq_true, decide_eq_true_iff, List.all_eq_true]
  refine and_congr Iff.rfl (forall_congr' fun p => imp_congr Iff.rfl ?_)
  rw [Bool.and_eq_true, decide_eq_true_iff, List.all_eq_true]
  refine and_congr Iff.rfl (forall_congr' fun s => imp_congr Iff.rfl ?_)
  rw [Bool.or_eq_true, decide_eq_true_iff, decide_eq_true_iff]
theorem gchk_iff (g : Gr) : gchk g = 0 ↔ (1 ≤ g.k ∧ g.k ≤ 4) ∧ fullB g = true ∧ shortB g = false ∧ nameB g = true ∧ diffB g = true ∧ symB g = true ∧ ordB g = true ∧ compB g = true := by
  unfold gchk
  by_cases h1 : g.k < 1 ∨ 4 < g.k
  · rw [if_pos h1]; constructor
    · intro h; cases h
    · rintro ⟨⟨a, b⟩, _⟩; omega
  · rw [if_neg h1]
    have h1' : 1 ≤ g.k ∧ g.k ≤ 4 := by omega
    cases fullB g <;> cases shortB g <;> cases nameB g <;> cases diffB g <;> cases symB g <;> cases ordB g <;> cases compB g <;> simp [h1']
theorem gok_of {g : Gr} (h : gchk g = 0) : GOk g g.k.toNat := by
  obtain ⟨⟨h1, h2⟩, h3, h4, _, _, h5, _, _⟩ := (gchk_iff g).1 h
  obtain ⟨f1, f2, f3, f4⟩ := (fullB_iff g).1 h3
  obtain ⟨s1, s2⟩ := (shortB_iff g).1 h4
  obtain ⟨y1, y2⟩ := (symB_iff g).1 h5
  exact ⟨by omega, by omega, by omega, ⟨s1, f1⟩, ⟨s2, f2⟩, f3, y1, fun p hp => ⟨(y2 p hp).1, f4 p hp, (y2 p hp).2⟩⟩
end Go.Proofs.YtnnkfgekiaaehaaGreat

/- Sets of looks in a slice of slices; the rounds of the reference 16, plainly. -/
namespace Go.Proofs.YtnnkfgekiaaehaaGreat
open Go.ChangeShapes Go.WideShapes Go.ChangeAt Go.RowKit
set_option linter.unusedVariables false
theorem rdl_put {W : World} {B bo : Nat} {A : Option Addr} {n : Nat} {l : List Lk} {cs : Array Value} {t : TypeId} (h : RdL W B A n l) (q : Blk W bo t cs) (hs : ∀ (j : Nat) v, cs[j]? = some v → ∃ X xn xc, v = .slice X xn xc) (i : Nat) (v : Value) :
    RdL (W.setCell ⟨bo, i, none⟩ v) B A n l := by
  refine ⟨h.1, ?_⟩
  rcases h.2 with h0 | ⟨b, off, rfl, hlt, hc⟩
  · exact .inl h0
  · by_cases e0 : n = 0
    · exact .inl e0
    · refine .inr ⟨b, off, rfl, hlt, fun k x hx j hj => ?_⟩
      have hne : b ≠ bo := by
        rintro rfl
        have h1 := hc k x hx j hj
        rw [q.cell] at h1
        cases hv : cs[off + k * 5 + j]? with
        | none => rw [hv] at h1; rcases j with _ | _ | _ | _ | _ | j <;> first | (simp [Lk.cells] at h1; done) | omega
        | some u =>
          obtain ⟨X, xn, xc, rfl⟩ := hs _ _ hv
          rw [hv] at h1
          rcases j with _ | _ | _ | _ | _ | j <;> first | (simp [Lk.cells] at h1; done) | omega
      have hb := Below.heap_setCell W ⟨bo, i, none⟩ v b hne
      rw [← hc k x hx j hj]
      unfold World.cell?
      rw [hb]
theorem SetAt.put {W : World} {m : Int} {bo : Nat} {A : Option Addr} {n c : Nat} {l : List Lk} {cs : Array Value} {t : TypeId} (h : SetAt W m A n c l) (q : Blk W bo t cs) (hs : ∀ (j : Nat) v, cs[j]? = some v → ∃ X xn xc, v = .slice X xn xc) (i : Nat) (v : Value) : SetAt (W.setCell ⟨bo, i, none⟩ v) m A n c l :=
  ⟨by simpa using rdl_put h.rd q hs i v, h.right, h.asc, h.n4, h.nc, h.cm⟩
def SetsA (W : World) (bo n : Nat) (m : Int) (ss : List (List Lk)) : Prop :=
  ss.length = n ∧ ∃ cs : Array Value, Blk W bo 28 cs ∧ cs.size = n ∧ ∀ (i : Nat) (s : List Lk), ss[i]? = some s → ∃ A c, cs[i]? = some (.slice A s.length c) ∧ SetAt W m A s.length c s
theorem SetsA.step {W W' : World} {bo n : Nat} {m : Int} {ss : List (List Lk)} (h : SetsA W bo n m ss) (hb : Below W.heap.size W W') : SetsA W' bo n m ss := by
  obtain ⟨h1, cs, h2, h3, h4⟩ := h
  exact ⟨h1, cs, h2.step hb, h3, fun i s hs => by obtain ⟨A, c, a, b⟩ := h4 i s hs; exact ⟨A, c, a, b.step hb⟩⟩
theorem SetsA.lt {W : World} {bo n : Nat} {m : Int} {ss : List (List Lk)} (h : SetsA W bo n m ss) : bo < W.heap.size := by
  obtain ⟨_, cs, h2, _⟩ := h; exact h2.lt
theorem SetsA.get {W : World} {bo n : Nat} {m : Int} {ss : List (List Lk)} (h : SetsA W bo n m ss) (i : Nat) (hi : i < n) :
    ∃ A c, W.cell? ⟨bo, i, none⟩ = some (.slice A (ss.getD i []).length c) ∧ W.frozen? ⟨bo, i, none⟩ = false ∧ SetAt W m A (ss.getD i []).length c (ss.getD i []) := by
  obtain ⟨h1, cs, h2, h3, h4⟩ := h
  have hs : ss[i]? = some (ss.getD i []) := by
    rw [List.getD_eq_getElem?_getD, List.getElem?_eq_getElem (by omega)]; rfl
  obtain ⟨A, c, a, b⟩ := h4 i _ hs
  exact ⟨A, c, by rw [h2.cell]; exact a, h2.frozen i, b⟩
theorem SetsA.asc {W : World} {bo n : Nat} {m : Int} {ss : List (List Lk)} (h : SetsA W bo n m ss) : ∀ s ∈ ss, Asc s ∧ ∀ x ∈ s, x.right m := by
  obtain ⟨h1, cs, h2, h3, h4⟩ := h
  intro s hs
  obtain ⟨i, hi, rfl⟩ := List.getElem_of_mem hs
  obtain ⟨A, c, a, b⟩ := h4 i _ (List.getElem?_eq_getElem hi)
  exact ⟨b.asc, b.right⟩
theorem SetsA.put {W : World} {bo n : Nat} {m : Int} {ss : List (List Lk)} (h : SetsA W bo n m ss) (i : Nat) {A : Option Addr} {c : Nat} {l : List Lk} (hl : SetAt W m A l.length c l) : SetsA (W.setCell ⟨bo, i, none⟩ (.slice A l.length c)) bo n m (ss.set i l) := by
  obtain ⟨h1, cs, h2, h3, h4⟩ := h
  have hsl : ∀ (j : Nat) v, cs[j]? = some v → ∃ X xn xc, v = .slice X xn xc := by
    intro j v hv
    have hj := (Array.getElem?_eq_some_iff.1 hv).1
    obtain ⟨A, c, a, _⟩ := h4 j _ (List.getElem?_eq_getElem (by omega))
    rw [a] at hv
    injection hv with hv
    exact ⟨_, _, _, hv.symm⟩
  refine ⟨by simpa using h1, cs.setIfInBounds i (.slice A l.length c), h2.put i _, by simpa using h3, fun j s hs => ?_⟩
  by_cases hij : i = j
  · subst hij
    have hi : i < ss.length := by have := (List.getElem?_eq_some_iff.1 hs).1; simpa using this
    rw [List.getElem?_set_self hi] at hs
    injection hs with hs
    subst hs
    exact ⟨A, c, by rw [Array.getElem?_setIfInBounds_self]; simp; omega, hl.put h2 hsl i _⟩
  · rw [List.getElem?_set_ne hij] at hs
    obtain ⟨A', c', a, b⟩ := h4 j s hs
    exact ⟨A', c', by rw [Array.getElem?_setIfInBounds_ne hij]; exact a, b.put h2 hsl i _⟩
theorem SetsA.new {W : World} {bo n : Nat} {m : Int} (h : Blk W bo 28 (madeCells #[.slice none 0 0] n)) : SetsA W bo n m (List.replicate n []) := by
  refine ⟨by simp, _, h, by simp [madeCells], fun i s hs => ?_⟩
  rw [List.getElem?_replicate] at hs
  split at hs
  · rename_i hi
    injection hs with hs; subst hs
    exact ⟨none, 0, by simp [madeCells, hi, Nat.mod_one], ⟨RdL.nil _ _ _, by simp, asc_nil, by simp, Nat.le_refl _, by simp [maxLen]⟩⟩
  · cases hs
structure RoundR (ps : List Pr) (k : Nat) (m : Int) (P : List (List Lk) → Prop) (ss : List (List Lk)) (ix : Nat) (T J : List Lk) : Prop where
  fit : SetsFit k (ss.set ix J)
  sound : P (ss.set ix J)
  grow : (ss.getD ix []).length ≤ J.length
  same : J.length = (ss.getD ix []).length → ss.set ix J = ss ∧ ∀ y ∈ T, y ∈ ss.getD ix []
  tot : YtnnkfgekiaaehaaGreat.tot (ss.set ix J) + (ss.getD ix []).length = YtnnkfgekiaaehaaGreat.tot ss + J.length
  right : ∀ x ∈ J, x.right m
  asc : Asc J
  mem : ∀ x, x ∈ J ↔ x ∈ ss.getD ix [] ∨ x ∈ T
theorem round_merge {ps : List Pr} {k : Nat} {m : Int} {P : List (List Lk) → Prop} (hm1 : 1 ≤ m) (hm8 : m ≤ 8) {ss : List (List Lk)} {ix : Nat} {T : List Lk} (hi : ix < ss.length) (hf : SetsFit k ss) (ha : Asc (ss.getD ix [])) (hr : ∀ x ∈ ss.getD ix [], x.right m)
    (hTf : ∀ x ∈ T, Fit k x) (hTa : Asc T) (hTr : ∀ x ∈ T, x.right m) (hP : ∀ J : List Lk, (∀ x, x ∈ J ↔ x ∈ ss.getD ix [] ∨ x ∈ T) → P (ss.set ix J)) : RoundR ps k m P ss ix T (lmerge (ss.getD ix []) T) := by
  have r8 : ∀ {l : List Lk}, (∀ x ∈ l, x.right m) → ∀ x ∈ l, x.right 8 := fun h x hx => right_mono (h x hx) hm8 (by omega)
  have hmem : ∀ x, x ∈ lmerge (ss.getD ix []) T ↔ x ∈ ss.getD ix [] ∨ x ∈ T := merge_mem _ _ (r8 hr) (r8 hTr)
  have hasc : Asc (lmerge (ss.getD ix []) T) := merge_asc _ _ (r8 hr) (r8 hTr) ha hTa
  have hgrow : (ss.getD ix []).length ≤ (lmerge (ss.getD ix []) T).length := nodup_len (asc_nodup ha) fun x hx => (hmem x).2 (.inl hx)
  refine ⟨set_fit hf _ fun x hx => ?_, hP _ hmem, hgrow, fun h => ?_, tot_set ss _ _ hi, fun x hx => ?_, hasc, hmem⟩
  · rcases (hmem x).1 hx with h | h
    · exact setsFit_get hf _ x h
    · exact hTf x h
  · have hsub : ∀ y ∈ lmerge (ss.getD ix []) T, y ∈ ss.getD ix [] := by
      intro y hy
      refine Classical.byContradiction fun hn => ?_
      have := nodup_len (out := y :: ss.getD ix []) (s := lmerge (ss.getD ix []) T) (List.nodup_cons.2 ⟨hn, asc_nodup ha⟩) (by
        intro z hz
        rcases List.mem_cons.1 hz with rfl | hz
        · exact hy
        · exact (hmem z).2 (.inl hz))
      simp only [List.length_cons] at this
      omega
    have e : lmerge (ss.getD ix []) T = ss.getD ix [] := asc_uniq hasc ha fun x => ⟨hsub x, fun hx => (hmem x).2 (.inl hx)⟩
    exact ⟨by rw [e]; exact set_same ss _ hi, fun y hy => hsub y ((hmem y).2 (.inr hy))⟩
  · rcases (hmem x).1 hx with h | h
    · exact hr x h
    · exact hTr x h
theorem tail_asc {k n : Nat} (hk : 1 ≤ k) (hk4 : k ≤ 4) {ss : List (List Lk)} (h : SetsFit k ss) (l : List Int) (hl : ∀ s ∈ l, SymOk n s) : Asc (tailL k ss l) := by
  rcases List.eq_nil_or_concat l with rfl | ⟨l', s, rfl⟩
  · exact asc_one _
  · rw [List.concat_eq_append] at *
    rw [tailL_snoc]
    unfold stepL
    have hl' : ∀ s ∈ l', SymOk n s := fun z hz => hl z (List.mem_append_left _ hz)
    exact lset_asc (k := 8) fun x hx => (all_fit (by simp) (sums_fit hk4 (tail_fit hk hk4 h l' hl') (one_fit hk h (hl s (by simp)))) x hx).1
theorem sum_step {k n : Nat} (hk : 1 ≤ k) (hk4 : k ≤ 4) {ss : List (List Lk)} (h : SetsFit k ss) {out one : List Lk} (ho : ∀ x ∈ out, Fit k x) {s : Int} (hs : SymOk n s) (h1 : ∀ x, x ∈ one ↔ x ∈ oneL ss s) : sumR k out one = stepL k ss out s := by
  have hof := one_fit hk h hs
  have hof' : ∀ x ∈ one, Fit k x := fun x hx => hof x ((h1 x).1 hx)
  refine asc_uniq (sumR_asc hk4 ho hof') (lset_asc (k := 8) fun x hx => (all_fit (by simp) (sums_fit hk4 ho hof) x hx).1) fun z => ?_
  rw [sumR_mem hk4 ho hof', step_mem hk hk4 h ho hs]
  constructor
  · rintro ⟨x, hx, y, hy, rfl⟩; exact ⟨x, hx, y, (h1 y).1 hy, rfl⟩
  · rintro ⟨x, hx, y, hy, rfl⟩; exact ⟨x, hx, y, (h1 y).2 hy, rfl⟩
end Go.Proofs.YtnnkfgekiaaehaaGreat
