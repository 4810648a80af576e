/- Walks and plain laws, part 7 of 7: The statement DeriveShort: the walk. Conditions: none beyond those that each theorem states. -/
import Derived.Test.YtlngbphchhbpbaaGreatA6
/- The statement DeriveShort: the walk. -/
namespace Go.Proofs.YtlngbphchhbpbaaGreat
open Go.ChangeShapes Go.WideShapes Go.ChangeAt Go.RowKit
set_option linter.unusedVariables false

/-- an argument that is a list of numbers -/
def IsInts (w : World) (a : Option Addr) (len cap : Nat) (zs : List Int) : Prop :=
  (a = none ∧ len = 0 ∧ cap = 0 ∧ zs = []) ∨
  ∃ x, a = some x ∧ len ≤ cap ∧ cap ≤ maxLen ∧ zs.length = cap ∧ (∀ i, i < zs.length → w.cell? (x.add i) = some (.int .i64 (zs.getD i 0))) ∧ (∀ n ∈ zs, (Lit.int .i64 n).wf = true)
theorem ints_reads {w : World} {a : Option Addr} {len cap : Nat} {zs : List Int} (h : IsInts w a len cap zs) :
    Rd1 w w.heap.size a len (ints (zs.take len)) ∧ (∀ n ∈ zs.take len, (Lit.int .i64 n).wf = true) ∧ len ≤ maxLen := by
  rcases h with ⟨rfl, rfl, rfl, rfl⟩ | ⟨⟨b, off, spot⟩, rfl, h1, h2, h3, h4, h5⟩
  · exact ⟨Rd1.nil _ _ _, by simp, by simp [maxLen]⟩
  · refine ⟨?_, fun n hn => h5 n (List.mem_of_mem_take hn), by omega⟩
    by_cases h0 : len = 0
    · subst h0; exact Rd1.nil _ _ _
    · have hc0 := h4 0 (by omega)
      have hs : spot = none := by simpa [Addr.add] using World.cell?_spot hc0
      subst hs
      have hll : (zs.take len).length = len := by rw [List.length_take]; omega
      refine ⟨by simp [ints]; omega, .inr ⟨b, off, rfl, ?_, fun i v hv => ?_⟩⟩
      · exact block_lt_of_cell (a := ⟨b, off, none⟩) (by simpa [Addr.add] using hc0)
      · have hi : i < len := by have := (List.getElem?_eq_some_iff.1 hv).1; simp [ints] at this; omega
        have hadd : (⟨b, off, none⟩ : Addr).add i = ⟨b, off + i, none⟩ := by unfold Addr.add; split <;> simp_all
        have hc := h4 i (by omega)
        rw [hadd] at hc
        have hiz : i < zs.length := by omega
        simp [ints, hi, hiz, List.getElem?_take] at hv
        rw [hc, ← hv]
        simp [List.getD_eq_getElem?_getD, hiz]
theorem ints_cap {w : World} {a : Option Addr} {len cap : Nat} {zs : List Int} (h : IsInts w a len cap zs) : len ≤ cap ∧ cap ≤ maxLen := by
  rcases h with ⟨rfl, rfl, rfl, rfl⟩ | ⟨x, rfl, h1, h2, _⟩
  · exact ⟨Nat.le_refl _, by simp [maxLen]⟩
  · exact ⟨h1, h2⟩
/-- equal lists -/
theorem same_rdi {W : World} {v v2 : Value} {l : List Int} (h1 : RdI W v l) (h2 : RdI W v2 l) : Calls Tryz.prog 10 #[v, v2] W fun e w' => e = .returned (.bool true) ∧ Below W.heap.size W w' := by
  obtain ⟨A, c, rfl, a1, a2, a3⟩ := h1
  obtain ⟨A2, c2, rfl, b1, b2, b3⟩ := h2
  have := sameints_any A A2 l.length l.length c c2 l l W W.heap.size a1 b1 (by omega) (by omega)
  rwa [decide_eq_true rfl] at this


theorem le_ve {g : Gr} {w : World} {e : Ending} {w' : World} (hok : gchk g = 0) {L : List Int} (hL : LenL g.prods g.names.length L) (hr : RetLe g w e w') : RetVE (if -1 ∈ L then 16 else 0) (if -1 ∈ L then [] else L) w e w' := by
  obtain ⟨hb, ⟨h1, _⟩ | ⟨_, L', hL', h⟩⟩ := hr
  · exact absurd hok h1
  · have := lens_uniq hL' hL
    subst this
    rcases h with ⟨h, rfl⟩ | ⟨h, b, rfl, hq⟩
    · rw [if_pos h, if_pos h]; exact ⟨_, rfl, RdI.nil _, hb⟩
    · rw [if_neg h, if_neg h]
      have hl := hL'.len
      refine ⟨_, rfl, ⟨some ⟨b, 0, none⟩, g.names.length, by rw [hl], ?_, by omega, ?_⟩, hb⟩
      · have := rd_ints hq hl
        rwa [hl]
      · have := (gok_of hok).nm.2
        unfold maxLen; omega
theorem le_both (g : Gr) (a : GA) (w : World) (hg : GrAt w w.heap.size g a) (hs : Small g) : ∃ (E : Int) (l : List Int), (∀ W, GrAt W W.heap.size g a → Calls Tryz.prog 6 #[gval g a] W (RetVE E l W)) ∧ (∀ W, GrAt W W.heap.size g a → Calls Tryz.prog 7 #[gval g a] W (RetVE E l W)) := by
  by_cases hok : gchk g = 0
  · have h := least_any g a w hg hs
    obtain ⟨_, _, _, hr, _⟩ := h []
    obtain ⟨hb, ⟨h1, _⟩ | ⟨_, L, hL, _⟩⟩ := hr
    · exact absurd hok h1
    · exact ⟨_, _, fun W h => (least_any g a W h hs).mono fun _ _ hr => le_ve hok hL hr, fun W h => (rleastE_any g a W h hs).mono fun _ _ hr => le_ve hok hL hr⟩
  · have hx : ∀ {w : World} {e : Ending} {w' : World}, RetLe g w e w' → RetVE (gchk g) [] w e w' := fun hr => by
      obtain ⟨hb, ⟨_, rfl⟩ | ⟨h, _⟩⟩ := hr
      · exact ⟨_, rfl, RdI.nil _, hb⟩
      · exact absurd h hok
    exact ⟨_, _, fun W h => (least_any g a W h hs).mono fun _ _ hr => hx hr, fun W h => (rleastE_any g a W h hs).mono fun _ _ hr => hx hr⟩
theorem sh_both (g : Gr) (a : GA) (FA : Option Addr) (k c : Nat) (f : List Int) (w : World) (hg : GrAt w w.heap.size g a) (hs : Small g) (hf : Rd1 w w.heap.size FA k (ints f)) (hk : k ≤ maxLen) : ∃ (E : Int) (l : List Int),
    (∀ W, GrAt W W.heap.size g a → Rd1 W W.heap.size FA k (ints f) → Calls Tryz.prog 8 #[gval g a, .slice FA k c] W (RetVE E l W)) ∧ (∀ W, GrAt W W.heap.size g a → Rd1 W W.heap.size FA k (ints f) → Calls Tryz.prog 9 #[gval g a, .slice FA k c] W (RetVE E l W)) := by
  have h := shortestT_any g a FA k c f w hg hs hf hk
  obtain ⟨_, _, _, hr, _⟩ := h []
  have key : ∃ (E : Int) (l : List Int), ∀ {w : World} {e : Ending} {w' : World}, RetSh g f w e w' → RetVE E l w e w' := by
    obtain ⟨_, ⟨h1, _⟩ | ⟨h1, L, hL, ⟨h2, _⟩ | ⟨h2, ⟨h3, _⟩ | ⟨h3, x, v, _, _, hB⟩⟩⟩⟩ := hr
    · refine ⟨fchk g f, [], fun hr => ?_⟩
      obtain ⟨hb, ⟨_, rfl⟩ | ⟨h, _⟩⟩ := hr
      · exact ⟨_, rfl, RdI.nil _, hb⟩
      · exact absurd h h1
    · refine ⟨16, [], fun hr => ?_⟩
      obtain ⟨hb, ⟨g1, _⟩ | ⟨g1, L', hL', g2⟩⟩ := hr
      · exact absurd h1 g1
      · have := lens_uniq hL' hL
        subst this
        rcases g2 with ⟨_, rfl⟩ | ⟨g2, _⟩
        · exact ⟨_, rfl, RdI.nil _, hb⟩
        · exact absurd h2 g2
    · refine ⟨4, [], fun hr => ?_⟩
      obtain ⟨hb, ⟨g1, _⟩ | ⟨g1, L', hL', g2⟩⟩ := hr
      · exact absurd h1 g1
      · have := lens_uniq hL' hL
        subst this
        rcases g2 with ⟨g2, _⟩ | ⟨_, ⟨_, rfl⟩ | ⟨g3, _⟩⟩
        · exact absurd g2 h2
        · exact ⟨_, rfl, RdI.nil _, hb⟩
        · omega
    · refine ⟨0, x, fun hr => ?_⟩
      obtain ⟨hb, ⟨g1, _⟩ | ⟨g1, L', hL', g2⟩⟩ := hr
      · exact absurd h1 g1
      · have := lens_uniq hL' hL
        subst this
        rcases g2 with ⟨g2, _⟩ | ⟨_, ⟨g3, _⟩ | ⟨_, y, v, rfl, hv, hy⟩⟩
        · exact absurd g2 h2
        · omega
        · have := best_uniq hy hB
          subst this
          exact ⟨_, rfl, hv, hb⟩
  obtain ⟨E, l, key⟩ := key
  exact ⟨E, l, fun W h h2 => (shortestT_any g a FA k c f W h hs h2 hk).mono fun _ _ hr => key hr, fun W h h2 => (rshortestT_any g a FA k c f W h hs h2 hk).mono fun _ _ hr => key hr⟩

set_option maxRecDepth 100000 in
set_option maxHeartbeats 4000000 in
theorem deriveShort_walk (g : Gr) (a : GA) (A1 : Option Addr) (k c1 : Nat) (z1 : List Int) (w : World) (hg : GrAt w w.heap.size g a) (hz1 : IsInts w A1 k c1 z1) :
    Calls Tryz.prog 3 #[gval g a, .slice A1 k c1] w fun e w' => e = .returned (.bool true) ∧ Below w.heap.size w w' := by
  have hAw := Lib.hid (fun (W : World) => awake_any W)
  have hLi := Lib.hid (fun (W : World) (h : GrAt W W.heap.size g a) => light_some g a W h)
  obtain ⟨hf, _, hkm⟩ := ints_reads hz1
  generalize z1.take k = f at *
  have hLe := Lib.hid (fun (W : World) (hs : Small g) (h : GrAt W W.heap.size g a) => le_both g a W h hs)
  have hSh := Lib.hid (fun (W : World) (hs : Small g) (h : GrAt W W.heap.size g a) (h2 : Rd1 W W.heap.size A1 k (ints f)) => sh_both g a A1 k c1 f W h hs h2 hkm)
  clear hz1
  obtain ⟨ta, tc, na, nc, pa, pc⟩ := a
  have hG0 := GB.start hg
  clear hg
  unfold gval at *
  unfold gcells at *
  dsimp only at *
  have hz0 : (0 : Int) ≤ k := by omega
  go_enter Tryz.func3, Tryz.ntmps3
  go_upto_region 1 with (fail)
  generalize w.alloc (.cells #[.int .i64 g.k, .slice ta g.toks.length tc, .string g.sep, .slice na g.names.length nc, .int .i64 g.start, .slice pa g.prods.length pc] 25) = W at *
  obtain ⟨c0, c1', c2, c3, c4, c5⟩ := hG0.cells
  dsimp only at c1' c3 c5
  go_wp2_with fail
  refine (hLi.out _ ((hG0.2.1).mono hG0.2.2.size)).mono ?_
  rintro e w1 ⟨b1, rfl, hL, hb1⟩
  have hG1 := hG0.step hb1
  clear hG0 hb1 c0 c1' c2 c3 c4 c5
  obtain ⟨c0, c1', c2, c3, c4, c5⟩ := hG1.cells
  dsimp only at c1' c3 c5
  replace hL := Lib.hid hL
  cases b1 with
  | false =>
    have hbW := Lib.hid hG1.2.2
    go_wp2_with (go_at_call 5; refine (hAw.out _).mono ?_; rintro e w2 ⟨rfl, hb2⟩)
    go_ret
    exact ⟨rfl, bStep hbW.out hb2⟩
  | true =>
    have hs := Lib.hid (hL.out rfl).small
    clear hL
    by_cases h12 : 12 < k
    · have hz12 : (12 : Int) < k := by omega
      have hbW := Lib.hid hG1.2.2
      go_wp2_with (go_at_call 5; refine (hAw.out _).mono ?_; rintro e w2 ⟨rfl, hb2⟩)
      go_ret
      exact ⟨rfl, bStep hbW.out hb2⟩
    · have hz12 : ¬ (12 : Int) < k := by omega
      obtain ⟨E1, l1, hA1, hB1⟩ := hLe.out w1 hs.out (hG1.2.1.mono hG1.2.2.size)
      obtain ⟨E2, l2, hA2, hB2⟩ := hSh.out w1 hs.out (hG1.2.1.mono hG1.2.2.size) ((hf.below hG1.2.2).mono hG1.2.2.size)
      replace hA1 := Lib.hid hA1
      replace hB1 := Lib.hid hB1
      replace hA2 := Lib.hid hA2
      replace hB2 := Lib.hid hB2
      have he1 := Lib.hid (show (E1 == E1) = true by simp)
      have he2 := Lib.hid (show (E2 == E2) = true by simp)
      clear hLe hSh hLi
      go_upto_region 4 with (go_at_call 6; refine (hA1.out _ (hG1.2.1.mono hG1.2.2.size)).mono ?_; rintro e w2 ⟨v2, rfl, hv2, hb2⟩)
      have hG2 := hG1.step hb2
      clear hA1 hG1 hb2 c0 c1' c2 c3 c4 c5
      obtain ⟨c0, c1', c2, c3, c4, c5⟩ := hG2.cells
      dsimp only at c1' c3 c5
      go_upto_region 5 with (go_at_call 7; refine (hB1.out _ (hG2.2.1.mono hG2.2.2.size)).mono ?_; rintro e w3 ⟨v3, rfl, hv3, hb3⟩)
      have hG3 := hG2.step hb3
      replace hv2 := hv2.step hb3
      clear hB1 hG2 hb3 c0 c1' c2 c3 c4 c5
      obtain ⟨c0, c1', c2, c3, c4, c5⟩ := hG3.cells
      dsimp only at c1' c3 c5
      go_upto_region 6 with (go_at_call 8; refine (hA2.out _ (hG3.2.1.mono hG3.2.2.size) ((hf.below hG3.2.2).mono hG3.2.2.size)).mono ?_; rintro e w4 ⟨v4, rfl, hv4, hb4⟩)
      have hG4 := hG3.step hb4
      replace hv2 := hv2.step hb4
      replace hv3 := hv3.step hb4
      clear hA2 hG3 hb4 c0 c1' c2 c3 c4 c5
      obtain ⟨c0, c1', c2, c3, c4, c5⟩ := hG4.cells
      dsimp only at c1' c3 c5
      go_upto_region 7 with (go_at_call 9; refine (hB2.out _ (hG4.2.1.mono hG4.2.2.size) ((hf.below hG4.2.2).mono hG4.2.2.size)).mono ?_; rintro e w5 ⟨v5, rfl, hv5, hb5⟩)
      have hbW := Lib.hid (bStep hG4.2.2 hb5)
      have hS1 := same_rdi (hv2.step hb5) (hv3.step hb5)
      have hS2 := Lib.hid (fun (W6 : World) (hb : Below w5.heap.size w5 W6) => same_rdi ((hv4.step hb5).step hb) (hv5.step hb))
      replace hS1 := Lib.hid hS1
      clear hB2 hG4 hb5 c0 c1' c2 c3 c4 c5 hv2 hv3 hv4 hv5 hf
      have he1' := he1.out
      have he2' := he2.out
      go_wp2_with (first
        | (go_at_call 10; refine hS1.out.mono ?_; rintro e w6 ⟨rfl, hb6⟩; clear hS1)
        | (go_at_call 10; refine (hS2.out _ hb6).mono ?_; rintro e w7 ⟨rfl, hb7⟩)
        | (go_at_call 5; refine (hAw.out _).mono ?_; rintro e w8 ⟨rfl, hb8⟩))
      go_ret
      exact ⟨rfl, bStep (bStep (bStep hbW.out hb6) hb7) hb8⟩
end Go.Proofs.YtlngbphchhbpbaaGreat
