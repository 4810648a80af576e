/- Walks and plain laws, part 3 of 7: grammar.named, grammar.different; grammar.different; What Sentences has in memory while its sets grow; the plain steps; derive.Sentences' grow: the walk; (derive.text).list; cmp.Compare and slices.Compare at ints; the order of the strings; slices.SortFunc at the strings of a set; derive.sorted; slices.All over the productions, at elements that bear what is known of them; grammar.symbols; A drawn region that only reads, inside a round of a range over a function. Conditions: none beyond those that each theorem states. -/
import Derived.Test.YtlngbphchhbpbaaGreatA2
import Derived.Deep.RegionLawGrows
import Derived.Deep.OwnRows
import Derived.Shelf.SlSortCmp.NoneTotal
import Derived.Shelf.Lay
import Derived.Ground.SlsfProg
import Derived.Sort.QuietIn
/- grammar.named, grammar.different. -/
namespace Go.Proofs.YtlngbphchhbpbaaGreat
open Go.ChangeShapes Go.WideShapes Go.ChangeAt Go.RowKit
set_option linter.unusedVariables false

/-- a world of the region that lays small names -/
def SP (w : World) (g : Gr) (a : GA) (w' : World) : Prop := GB w g a w'
theorem SP.all {w : World} {g : Gr} {a : GA} {w' : World} (h : SP w g a w') : w'.cell? ⟨w.heap.size, 1, none⟩ = some (.slice a.ta g.toks.length a.tc) ∧ w'.cell? ⟨w.heap.size, 2, none⟩ = some (.string g.sep) ∧ w'.cell? ⟨w.heap.size, 3, none⟩ = some (.slice a.na g.names.length a.nc) ∧ SP w g a w' :=
  ⟨h.1.cell 1, h.1.cell 2, h.1.cell 3, h⟩
theorem SP.drew {w : World} {g : Gr} {a : GA} {w' : World} (h : SP w g a w') : SP w g a w'.drew := GB.drewN h 1
theorem SP.alloc {w : World} {g : Gr} {a : GA} {w' : World} (h : SP w g a w') (o : Obj) : SP w g a (w'.alloc o) := GB.alloc h o
theorem SP.grown0 {w : World} {g : Gr} {a : GA} {w' w1 : World} (h : SP w g a w') (hg : w'.grownBy w1 none) : SP w g a w1 := GB.step h ((Below.refl _ _).grown hg (Nat.le_refl _) (by simp))

theorem add_lit0 (b o j : Nat) : (⟨b, o, none⟩ : Addr).add j = ⟨b, o + j, none⟩ := by unfold Addr.add; split <;> simp_all
theorem rd1_olds {W : World} {B : Nat} {A : Option Addr} {n : Nat} {vs : List Value} (h : Rd1 W B A n vs) : ∀ b, A = some b → ∀ j u, vs[j]? = some u → W.cell? (b.add j) = some u := by
  intro b hb j u hu
  obtain ⟨b', off, hA, _, hc⟩ := h.get hu
  rw [hb] at hA; cases hA
  rw [add_lit0]; exact hc
theorem blk_news {W : World} {g : Nat} {e : TypeId} {k : Value} (h : Blk W g e #[k]) : ∀ j u, [k][j]? = some u → W.cell? ((⟨g, 0, none⟩ : Addr).add j) = some u := by
  intro j u hu
  have : j = 0 := by have := (List.getElem?_eq_some_iff.1 hu).1; simp at this; omega
  subst this
  rw [add_lit0, Nat.zero_add, h.cell]
  simpa using hu

set_option maxHeartbeats 2000000 in
theorem named_any (g : Gr) (a : GA) (w : World) (hg : GrAt w w.heap.size g a) (hs : Small g) :
    Calls Tryz.prog 43 #[gval g a] w fun e w' => e = .returned (.int .i64 (if shortB g = true then 5 else if nameB g = false then 12 else 0)) ∧ Below w.heap.size w w' := by
  obtain ⟨ta, tc, na, nc, pa, pc⟩ := a
  obtain ⟨R, hR⟩ : ∃ R : Int, R = if shortB g = true then 5 else if nameB g = false then 12 else 0 := ⟨_, rfl⟩
  rw [← hR]
  replace hR := Lib.hid hR
  have hs1 := hs.t
  have hs2 := hs.n
  clear hs
  have hG0 := GB.start hg
  clear hg
  have htc := hG0.2.1.tc
  have htm := hG0.2.1.tm
  unfold gval at *
  unfold gcells at *
  dsimp only at *
  by_cases ht0 : g.toks.length = 0
  · have hR2 : R = 5 := by rw [hR.out, if_pos]; simp [shortB, ht0]
    subst hR2
    have htb : ((g.toks.length : Int) == 0) = true := by simp [ht0]
    clear ht0
    go_enter Tryz.func43, Tryz.ntmps43
    go_wp2_with fail
    go_ret
    exact ⟨rfl, hG0.2.2⟩
  have htb : ((g.toks.length : Int) == 0) = false := by simpa using ht0
  by_cases hn0 : g.names.length = 0
  · have hR2 : R = 5 := by rw [hR.out, if_pos]; simp [shortB, hn0]
    subst hR2
    have hnb : ((g.names.length : Int) == 0) = true := by simp [hn0]
    clear ht0 hn0
    go_enter Tryz.func43, Tryz.ntmps43
    go_wp2_with fail
    go_ret
    exact ⟨rfl, hG0.2.2⟩
  have hnb : ((g.names.length : Int) == 0) = false := by simpa using hn0
  have hsh : shortB g = false := by unfold shortB; rw [decide_eq_false ht0, decide_eq_false hn0]; rfl
  have hR1 : R = if nameB g = false then 12 else 0 := by rw [hR.out, if_neg (by rw [hsh]; simp)]
  replace hR1 := Lib.hid hR1
  clear hsh hR
  obtain ⟨tb, toff, hta, htlt, htcells⟩ : ∃ b off, ta = some ⟨b, off, none⟩ ∧ b < w.heap.size ∧ True := by
    rcases hG0.2.1.toks.2 with h | ⟨b, off, h, hlt, _⟩
    · exact absurd h ht0
    · exact ⟨b, off, h, hlt, trivial⟩
  clear ht0 hn0 htcells
  subst hta
  have hz0 : (0 : Int) ≤ g.toks.length := by omega
  have hz1 : (g.toks.length : Int) ≤ tc := by omega
  have hz2 : (g.toks.length : Int) ≤ g.toks.length := by omega
  go_enter Tryz.func43, Tryz.ntmps43
  go_wp2_with fail
  obtain ⟨w0, hw0⟩ : ∃ w0, w0 = w.alloc (.cells #[.int .i64 g.k, .slice (some ⟨tb, toff, none⟩) g.toks.length tc, .string g.sep, .slice na g.names.length nc, .int .i64 g.start, .slice pa g.prods.length pc] 25) := ⟨_, rfl⟩
  rw [← hw0] at hG0 ⊢
  clear hw0
  have hlt := hG0.lt
  have hsn : SP w g ⟨some ⟨tb, toff, none⟩, tc, na, nc, pa, pc⟩ w0 := hG0
  clear hG0
  go_cut [29, 30, 31] (fun s29 s30 s31 wx => Own1 wx w.heap.size 9 s29 (strs (g.toks ++ [g.sep])) ∧ s30 = .int .i64 (g.toks.length + 1 : Nat) ∧ s31 = .int .i64 0 ∧ SP w g ⟨some ⟨tb, toff, none⟩, tc, na, nc, pa, pc⟩ wx)
  case first =>
    have hsq : SP w g ⟨some ⟨tb, toff, none⟩, tc, na, nc, pa, pc⟩ (w0.alloc (.cells #[.string g.sep] 9)).drew := (hsn.alloc _).drew
    have holds := rd1_olds hsq.2.1.toks
    have hnews : ∀ j u, [Value.string g.sep][j]? = some u → (w0.alloc (.cells #[.string g.sep] 9)).drew.cell? ((⟨w0.heap.size, 0, none⟩ : Addr).add j) = some u := blk_news (W := (w0.alloc (.cells #[.string g.sep] 9)).drew) (Blk.new w0 9 #[.string g.sep])
    obtain ⟨i0, hi0, hq0, hq1, hq2⟩ := info_parts info9
    have hos : w.heap.size ≤ (w0.alloc (.cells #[.string g.sep] 9)).drew.heap.size := by simp; omega
    go_region_held3 (fun w' => w'.cell? ⟨w.heap.size, 1, none⟩ = some (.slice (some ⟨tb, toff, none⟩) g.toks.length tc) ∧ w'.cell? ⟨w.heap.size, 2, none⟩ = some (.string g.sep) ∧ w'.cell? ⟨w.heap.size, 3, none⟩ = some (.slice na g.names.length nc) ∧ SP w g ⟨some ⟨tb, toff, none⟩, tc, na, nc, pa, pc⟩ w')
      ((refine SP.all (a := ⟨some ⟨tb, toff, none⟩, tc, na, nc, pa, pc⟩) ?_; first | assumption | exact SP.drew hsn | exact hsq))
      ((refine step_append_grows (by rfl) _ _ 22 (by rfl) 9 i0 _ 1 16 under23 hi0 hq0 hq1 hq2 (by rfl) (by omega) (some ⟨tb, toff, none⟩) g.toks.length g.toks.length (strs g.toks) (by rfl) (by simp) (by simp [strs]) holds ⟨w0.heap.size, 0, none⟩ 1 1 [.string g.sep] (by rfl) (by rfl) hnews (by simp [Value.oneCell']) (by omega) (by unfold maxLen; omega) (by omega) ?_; intro v1 w1 hown1 hg1; obtain ⟨g1, cap1, hv1⟩ := ownsRow_succ hown1; subst hv1; have hs1 : SP w g ⟨some ⟨tb, toff, none⟩, tc, na, nc, pa, pc⟩ w1 := hsq.grown0 hg1))
    all_goals
      go_wp2_with fail
      go_meet
      refine ⟨?_, rfl, rfl, hs1⟩
      have := Own1.mono (base := (w0.alloc (.cells #[.string g.sep] 9)).drew.heap.size) (l := strs g.toks ++ [.string g.sep]) (by unfold Own1; rw [show (strs g.toks ++ [Value.string g.sep]).length = g.toks.length + 1 by simp [strs]]; exact hown1) hos
      rw [show strs (g.toks ++ [g.sep]) = strs g.toks ++ [.string g.sep] by simp [strs]]
      exact this
  case rest =>
    clear hsn hlt
    obtain ⟨ho, rfl, rfl, hG⟩ := hcut
    obtain ⟨A, c, rfl, hrd, hc1, hc2, hbl⟩ := ho.reads
    have hG : GB w g ⟨some ⟨tb, toff, none⟩, tc, na, nc, pa, pc⟩ wc := hG
    have hsl : (strs (g.toks ++ [g.sep])).length = (g.toks ++ [g.sep]).length := by simp [strs]
    rw [hsl] at hrd hc1
    rw [hsl]
    clear hsl ho
    have hsz : ∀ s ∈ g.toks ++ [g.sep], s.size ≤ maxLen := by
      intro s hs
      rcases List.mem_append.1 hs with h | h
      · exact hG.2.1.ts s h
      · simp at h; rw [h]; exact hG.2.1.sep
    have hsn : ∀ s ∈ g.names, s.size ≤ maxLen := hG.2.1.ns
    obtain ⟨L, hL⟩ : ∃ L, L = g.toks ++ [g.sep] := ⟨_, rfl⟩
    have hNB : nameB g = (L.all smallB && g.names.all capB) := by rw [hL]; rfl
    have hLl : L.length = g.toks.length + 1 := by rw [hL]; simp
    rw [← hL] at hrd hc1 hsz ⊢
    clear hL
    rw [← hLl]
    have hLn : L.length ≤ 100001 := by omega
    replace hLl := Lib.hid hLl
    replace hNB := Lib.hid hNB
    have hcap := Lib.hid (fun (s : ByteArray) (hs : s ∈ g.names) (w : World) => cap_any s w (hsn s hs))
    have hsm := Lib.hid (fun (s : ByteArray) (hs : s ∈ L) (w : World) => small_any s w (hsz s hs))
    clear hz0 hz1 hz2
    go_wp2_with fail
    go_loopg [31] L.length (fun gk s31 wr => ∃ i : Nat, s31 = .int .i64 i ∧ i + gk = L.length ∧ (∀ s ∈ L.take i, smallB s = true) ∧ Rd1 wr wc.heap.size A L.length (strs L) ∧ GB w g ⟨some ⟨tb, toff, none⟩, tc, na, nc, pa, pc⟩ wr ∧ Below wc.heap.size wc wr)
    case atStart => exact ⟨0, rfl, by omega, by simp, hrd, hG, Below.refl _ _⟩
    case round =>
      clear hrd hG
      obtain ⟨i, rfl, hi, hP, hrd, hG, hbc⟩ := hrel
      replace hi := Lib.hid hi
      replace hP := Lib.hid hP
      by_cases hin : i < L.length
      · have hxi : L[i]? = some L[i] := List.getElem?_eq_getElem hin
        obtain ⟨b, off, rfl, hbt, x0⟩ := hrd.get (i := i) (v := .string L[i]) (by simp [strs, hxi])
        have hmem := List.getElem_mem hin
        have htk : L.take (i + 1) = L.take i ++ [L[i]] := List.take_succ_eq_append_getElem hin
        have hsi := Lib.hid (hsm.out L[i] hmem)
        generalize L[i] = x at *
        have hzi : (0 : Int) ≤ i := by omega
        have hzn : (i : Int) < L.length := by omega
        replace hxi := Lib.hid hxi
        replace htk := Lib.hid htk
        replace hmem := Lib.hid hmem
        cases hsb : smallB x with
        | true =>
          have hGG := Lib.hid (show ∀ s ∈ L.take (i + 1), smallB s = true by
            intro s hs
            rw [htk.out] at hs
            rcases List.mem_append.1 hs with h | h
            · exact hP.out s h
            · simp at h; rw [h]; exact hsb)
          rw [hsb] at hsi
          replace hsb := Lib.hid hsb
          go_wp2_with (go_at_call 65; refine (hsi.out _).mono ?_; rintro e w' ⟨rfl, hb1⟩)
          go_roundg (L.length - (i + 1))
          case measure => have := hi.out; omega
          case rel => exact ⟨i + 1, by go_num, by have := hi.out; omega, hGG.out, hrd.below (hb1.mono hbc.size), hG.step hb1, bStep hbc hb1⟩
        | false =>
          have hnF : R = 12 := by
            rw [hR1.out, if_pos]
            rw [hNB.out, Bool.and_eq_false_iff]
            left
            rw [List.all_eq_false]
            exact ⟨x, hmem.out, by simp [hsb]⟩
          subst hnF
          rw [hsb] at hsi
          replace hsb := Lib.hid hsb
          go_wp2_with (go_at_call 65; refine (hsi.out _).mono ?_; rintro e w' ⟨rfl, hb1⟩)
          go_ret
          exact ⟨rfl, bStep hG.2.2 hb1⟩
      · have hAll : L.all smallB = true := by
          rw [List.all_eq_true]
          intro s hs
          refine hP.out s ?_
          rwa [List.take_of_length_le (by omega)]
        have hNB2 := hNB.out
        rw [hAll, Bool.true_and] at hNB2
        replace hNB2 := Lib.hid hNB2
        clear hAll hNB
        obtain ⟨c0, c1, c2, c3, c4, c5⟩ := hG.cells
        dsimp only at c1 c3 c5
        go_wp2_with fail
        go_loopg [42] g.names.length (fun gk s42 wr2 => ∃ i : Nat, s42 = .int .i64 i ∧ i + gk = g.names.length ∧ (∀ s ∈ g.names.take i, capB s = true) ∧ GB w g ⟨some ⟨tb, toff, none⟩, tc, na, nc, pa, pc⟩ wr2)
        case atStart => exact ⟨0, rfl, by omega, by simp, hG⟩
        case round =>
          clear hrd hG hbc c0 c1 c2 c3 c4 c5
          obtain ⟨i, rfl, hi, hP, hG⟩ := hrel
          replace hi := Lib.hid hi
          replace hP := Lib.hid hP
          by_cases hin : i < g.names.length
          · have hxi : g.names[i]? = some g.names[i] := List.getElem?_eq_getElem hin
            obtain ⟨b, off, hA, hbt, x0⟩ := hG.2.1.names.get (i := i) (v := .string g.names[i]) (by simp [strs, hxi])
            dsimp only at hA
            subst hA
            have hmem := List.getElem_mem hin
            have htk : g.names.take (i + 1) = g.names.take i ++ [g.names[i]] := List.take_succ_eq_append_getElem hin
            have hsi := Lib.hid (hcap.out g.names[i] hmem)
            generalize g.names[i] = x at *
            have hzi : (0 : Int) ≤ i := by omega
            have hzn : (i : Int) < g.names.length := by omega
            replace hxi := Lib.hid hxi
            replace htk := Lib.hid htk
            replace hmem := Lib.hid hmem
            cases hsb : capB x with
            | true =>
              have hGG := Lib.hid (show ∀ s ∈ g.names.take (i + 1), capB s = true by
                intro s hs
                rw [htk.out] at hs
                rcases List.mem_append.1 hs with h | h
                · exact hP.out s h
                · simp at h; rw [h]; exact hsb)
              rw [hsb] at hsi
              replace hsb := Lib.hid hsb
              go_wp2_with (go_at_call 66; refine (hsi.out _).mono ?_; rintro e w' ⟨rfl, hb1⟩)
              go_roundg (g.names.length - (i + 1))
              case measure => have := hi.out; omega
              case rel => exact ⟨i + 1, by go_num, by have := hi.out; omega, hGG.out, hG.step hb1⟩
            | false =>
              have hnF : R = 12 := by
                rw [hR1.out, if_pos]
                rw [hNB2.out, List.all_eq_false]
                exact ⟨x, hmem.out, by simp [hsb]⟩
              subst hnF
              rw [hsb] at hsi
              replace hsb := Lib.hid hsb
              go_wp2_with (go_at_call 66; refine (hsi.out _).mono ?_; rintro e w' ⟨rfl, hb1⟩)
              go_ret
              exact ⟨rfl, bStep hG.2.2 hb1⟩
          · have hAll : g.names.all capB = true := by
              rw [List.all_eq_true]
              intro s hs
              refine hP.out s ?_
              rwa [List.take_of_length_le (by omega)]
            have hR2 : R = 0 := by rw [hR1.out, if_neg (by rw [hNB2.out, hAll]; simp)]
            subst hR2
            go_wp2_with fail
            go_ret
            exact ⟨rfl, hG.2.2⟩
end Go.Proofs.YtlngbphchhbpbaaGreat

/- grammar.different. -/
namespace Go.Proofs.YtlngbphchhbpbaaGreat
open Go.ChangeShapes Go.WideShapes Go.ChangeAt Go.RowKit
set_option linter.unusedVariables false

def SD (w : World) (g : Gr) (a : GA) (w' : World) : Prop := GB w g a w' ∧ MapK strKey w' (w.heap.size + 1) []
theorem SD.all {w : World} {g : Gr} {a : GA} {w' : World} (h : SD w g a w') : w'.cell? ⟨w.heap.size, 1, none⟩ = some (.slice a.ta g.toks.length a.tc) ∧ w'.cell? ⟨w.heap.size, 2, none⟩ = some (.string g.sep) ∧ w'.cell? ⟨w.heap.size, 3, none⟩ = some (.slice a.na g.names.length a.nc) ∧ SD w g a w' :=
  ⟨h.1.1.cell 1, h.1.1.cell 2, h.1.1.cell 3, h⟩
theorem SD.step {w : World} {g : Gr} {a : GA} {w' w1 : World} (h : SD w g a w') (hb : Below w'.heap.size w' w1) : SD w g a w1 := ⟨h.1.step hb, h.2.step hb⟩
theorem SD.drew {w : World} {g : Gr} {a : GA} {w' : World} (h : SD w g a w') : SD w g a w'.drew := h.step (Below.refl _ _).drew
theorem SD.alloc {w : World} {g : Gr} {a : GA} {w' : World} (h : SD w g a w') (o : Obj) : SD w g a (w'.alloc o) := h.step ((Below.refl _ _).alloc (Nat.le_refl _) o)
theorem SD.grown {w : World} {g : Gr} {a : GA} {w' w1 : World} {row : Option Nat} (h : SD w g a w') (hg : w'.grownBy w1 row) (hr : ∀ k, row = some k → w.heap.size + 1 < k) : SD w g a w1 :=
  ⟨⟨h.1.1.grown hg (fun e => by have := hr _ e.symm; omega), h.1.2.1.below ((Below.refl _ _).grown hg h.1.2.2.size (fun k hk => by have := hr k hk; omega)), h.1.2.2.grown hg h.1.2.2.size (fun k hk => by have := hr k hk; omega)⟩, h.2.grown hg (fun e => by have := hr _ e.symm; omega)⟩
theorem Rd1.grown {w w' : World} {B : Nat} {A : Option Addr} {n : Nat} {l : List Value} {row : Option Nat} (h : Rd1 w B A n l) (hg : w.grownBy w' row) (hB : B ≤ w.heap.size) (hne : ∀ a, A = some a → some a.block ≠ row) : Rd1 w' B A n l := by
  refine ⟨h.1, ?_⟩
  rcases h.2 with h0 | ⟨b, off, rfl, hlt, hc⟩
  · exact .inl h0
  · exact .inr ⟨b, off, rfl, hlt, fun i x hx => (World.cell?_of_block (a := ⟨b, off + i, none⟩) (hg.block b (by omega) (hne _ rfl))).trans (hc i x hx)⟩
theorem own_map_ne {α : Type} {E : KeyEnc α} {w : World} {base b : Nat} {e : TypeId} {v : Value} {vs : List Value} {s : List α} (h : Own1 w base e v vs) (hm : MapK E w b s) : ∀ k, v.ownBlock = some k → k ≠ b := by
  intro k hk e'
  subst e'
  obtain ⟨es, clock, hb, _⟩ := hm
  rcases h.2 with ⟨rfl, _⟩ | ⟨g, cap, cur, rfl, _, hg, _⟩
  · cases hk
  · simp [Value.ownBlock] at hk
    subst hk
    rw [hb] at hg; cases hg
theorem mapk_new {α : Type} (E : KeyEnc α) (w : World) (b : Nat) (hb : b = w.heap.size) : MapK E (w.alloc (.map #[] 0)) b [] := by
  subst hb
  exact ⟨#[], 0, heap_alloc_new w _, by simp, by simp, by simp, by simp, (MapKept.stamped_iff _ _).2 (by simp)⟩
theorem under107 : Tryz.prog.underlying 89 = some (.map 9 4) := by kernel_rfl

set_option maxHeartbeats 4000000 in
theorem different_any (g : Gr) (a : GA) (w : World) (hg : GrAt w w.heap.size g a) (hs : Small g) (ht0 : g.toks.length ≠ 0) :
    Calls Tryz.prog 44 #[gval g a] w fun e w' => e = .returned (.int .i64 (if ((g.toks ++ [g.sep]) ++ g.names).Nodup then 0 else 8)) ∧ Below w.heap.size w w' := by
  obtain ⟨ta, tc, na, nc, pa, pc⟩ := a
  obtain ⟨R, hR⟩ : ∃ R : Int, R = if ((g.toks ++ [g.sep]) ++ g.names).Nodup then 0 else 8 := ⟨_, rfl⟩
  rw [← hR]
  replace hR := Lib.hid hR
  have hs1 := hs.t
  have hs2 := hs.n
  clear hs
  have hG0 := GB.start hg
  clear hg
  have htc := hG0.2.1.tc
  have htm := hG0.2.1.tm
  unfold gval at *
  unfold gcells at *
  dsimp only at *
  obtain ⟨tb, toff, hta, htlt, htcells⟩ : ∃ b off, ta = some ⟨b, off, none⟩ ∧ b < w.heap.size ∧ True := by
    rcases hG0.2.1.toks.2 with h | ⟨b, off, h, hlt, _⟩
    · exact absurd h ht0
    · exact ⟨b, off, h, hlt, trivial⟩
  clear ht0 htcells
  subst hta
  have hz0 : (0 : Int) ≤ g.toks.length := by omega
  have hz1 : (g.toks.length : Int) ≤ tc := by omega
  have hz2 : (g.toks.length : Int) ≤ g.toks.length := by omega
  have hmm := @run_makeMap Tryz.prog
  go_enter Tryz.func44, Tryz.ntmps44
  go_wp2_with fail
  obtain ⟨w0, hw0⟩ : ∃ w0, w0 = (w.alloc (.cells #[.int .i64 g.k, .slice (some ⟨tb, toff, none⟩) g.toks.length tc, .string g.sep, .slice na g.names.length nc, .int .i64 g.start, .slice pa g.prods.length pc] 25)).alloc (.map #[] 0) := ⟨_, rfl⟩
  have hsn : SD w g ⟨some ⟨tb, toff, none⟩, tc, na, nc, pa, pc⟩ w0 := by rw [hw0]; exact ⟨hG0.alloc _, mapk_new _ _ _ (by simp)⟩
  rw [← hw0]
  clear hw0 hG0 hmm
  have hlt := hsn.2.lt
  go_cut [22, 23, 24] (fun s22 s23 s24 wx => Own1 wx w.heap.size 9 s22 (strs ((g.toks ++ [g.sep]) ++ g.names)) ∧ s23 = .int .i64 (((g.toks ++ [g.sep]) ++ g.names).length : Nat) ∧ s24 = .int .i64 0 ∧ SD w g ⟨some ⟨tb, toff, none⟩, tc, na, nc, pa, pc⟩ wx ∧ w.heap.size + 1 < wx.heap.size)
  case first =>
    have hsq : SD w g ⟨some ⟨tb, toff, none⟩, tc, na, nc, pa, pc⟩ (w0.alloc (.cells #[.string g.sep] 9)).drew := (hsn.alloc _).drew
    have holds := rd1_olds hsq.1.2.1.toks
    have hnews : ∀ j u, [Value.string g.sep][j]? = some u → (w0.alloc (.cells #[.string g.sep] 9)).drew.cell? ((⟨w0.heap.size, 0, none⟩ : Addr).add j) = some u := blk_news (W := (w0.alloc (.cells #[.string g.sep] 9)).drew) (Blk.new w0 9 #[.string g.sep])
    obtain ⟨i0, hi0, hq0, hq1, hq2⟩ := info_parts info9
    have hos : w.heap.size + 2 ≤ (w0.alloc (.cells #[.string g.sep] 9)).drew.heap.size := by simp; omega
    have hsl1 : (strs g.toks ++ [Value.string g.sep]).length = g.toks.length + 1 := by simp [strs]
    have hsl2 : (strs g.toks ++ [Value.string g.sep]).length + g.names.length ≤ 1000000 := by rw [hsl1]; omega
    have hsl3 : (strs g.toks ++ [Value.string g.sep] ++ strs g.names).length = ((g.toks ++ [g.sep]) ++ g.names).length := by simp [strs]
    have hsl4 : strs ((g.toks ++ [g.sep]) ++ g.names) = strs g.toks ++ [Value.string g.sep] ++ strs g.names := by simp [strs]
    replace hsl4 := Lib.hid hsl4
    obtain ⟨N, hN⟩ : ∃ N, N = (strs g.toks ++ [Value.string g.sep] ++ strs g.names).length := ⟨_, rfl⟩
    replace hN := Lib.hid hN
    replace hsl1 := Lib.hid hsl1
    replace hsl3 := Lib.hid hsl3
    go_region_held3 (fun w' => w'.cell? ⟨w.heap.size, 1, none⟩ = some (.slice (some ⟨tb, toff, none⟩) g.toks.length tc) ∧ w'.cell? ⟨w.heap.size, 2, none⟩ = some (.string g.sep) ∧ w'.cell? ⟨w.heap.size, 3, none⟩ = some (.slice na g.names.length nc) ∧ SD w g ⟨some ⟨tb, toff, none⟩, tc, na, nc, pa, pc⟩ w')
      ((refine SD.all (a := ⟨some ⟨tb, toff, none⟩, tc, na, nc, pa, pc⟩) ?_; first | assumption | exact SD.drew hsn | exact hsq))
      (first
        | (refine step_append_grows (by rfl) _ _ 22 (by rfl) 9 i0 _ 1 16 under23 hi0 hq0 hq1 hq2 (by rfl) (by omega) (some ⟨tb, toff, none⟩) g.toks.length g.toks.length (strs g.toks) (by rfl) (by simp) (by simp [strs]) holds ⟨w0.heap.size, 0, none⟩ 1 1 [.string g.sep] (by rfl) (by rfl) hnews (by simp [Value.oneCell']) (by omega) (by unfold maxLen; omega) (by omega) ?_; intro v1 w1 hown1 hg1
           have hs1 : SD w g ⟨some ⟨tb, toff, none⟩, tc, na, nc, pa, pc⟩ w1 := hsq.grown hg1 (by simp)
           have ho1 : Own1 w1 (w.heap.size + 2) 9 v1 (strs g.toks ++ [.string g.sep]) := Own1.mono (base := (w0.alloc (.cells #[.string g.sep] 9)).drew.heap.size) (by unfold Own1; rw [hsl1.out]; exact hown1) hos)
        | (refine step_of_wp _ (by rfl) (wp_join1 _ _ _ 22 (by rfl) (w.heap.size + 2) 9 _ 16 under23 info9 (by rfl) v1 _ (by rfl) ho1 w.heap.size na g.names.length nc (strs g.names) (by rfl) hs1.1.2.1.names strs_one hsl2 (by simp) (by have := hg1.size; omega) ?_); intro v2 w2 hown2 hg2 hat2 hb2; obtain ⟨A2, k2, hv2, hd2, hk2, hm2, hbb2⟩ := hown2.reads; rw [← hN.out] at hv2; subst hv2
           have hs2 : SD w g ⟨some ⟨tb, toff, none⟩, tc, na, nc, pa, pc⟩ w2 := hs1.grown hg2 (fun k hk => by have := (own_in ho1 k hk).1; omega)))
    all_goals
      go_wp2_with fail
      go_meet
      refine ⟨?_, ?_, rfl, hs2, hs2.2.lt⟩
      · rw [hsl4.out]; exact Own1.mono (base := w.heap.size + 2) hown2 (by omega)
      · rw [← hsl3.out, hN.out]
  case rest =>
    clear hsn hlt
    obtain ⟨ho, rfl, rfl, hG, hmlt⟩ := hcut
    obtain ⟨A, c, rfl, hrd, hc1, hc2, hbl⟩ := ho.reads
    have hsl : (strs ((g.toks ++ [g.sep]) ++ g.names)).length = ((g.toks ++ [g.sep]) ++ g.names).length := by simp [strs]
    rw [hsl] at hrd hc1
    rw [hsl]
    have hnm : ∀ a, A = some a → a.block ≠ w.heap.size + 1 := fun a ha => own_map_ne ho hG.2 a.block (by rw [ha]; rfl)
    clear hsl ho
    have hsz : ∀ s ∈ (g.toks ++ [g.sep]) ++ g.names, s.size ≤ maxLen := by
      intro s hs
      rcases List.mem_append.1 hs with h | h
      · rcases List.mem_append.1 h with h | h
        · exact hG.1.2.1.ts s h
        · simp at h; rw [h]; exact hG.1.2.1.sep
      · exact hG.1.2.1.ns s h
    obtain ⟨L, hL⟩ : ∃ L, L = (g.toks ++ [g.sep]) ++ g.names := ⟨_, rfl⟩
    have hLl : L.length ≤ 200001 := by rw [hL]; simp; omega
    rw [← hL] at hrd hc1 hsz hR ⊢
    clear hL hz0 hz1 hz2
    replace hsz := Lib.hid hsz
    have hG1 := hG.1
    have hG2 := hG.2
    clear hG
    go_wp2_with fail
    go_loopg [24] L.length (fun gk s24 wr => ∃ i : Nat, s24 = .int .i64 i ∧ i + gk = L.length ∧ MapK strKey wr (w.heap.size + 1) (L.take i) ∧ Rd1 wr wc.heap.size A L.length (strs L) ∧ Below w.heap.size w wr ∧ (∀ a, A = some a → a.block ≠ w.heap.size + 1) ∧ wc.heap.size ≤ wr.heap.size)
    case atStart => exact ⟨0, rfl, by omega, by simpa using hG2, hrd, hG1.2.2, hnm, Nat.le_refl _⟩
    case round =>
      clear hrd hG1 hG2 hnm
      obtain ⟨i, rfl, hi, hM, hrd, hb, hne, hle⟩ := hrel
      replace hi := Lib.hid hi
      by_cases hin : i < L.length
      · have hxi : L[i]? = some L[i] := List.getElem?_eq_getElem hin
        obtain ⟨b, off, rfl, hbt, x0⟩ := hrd.get (i := i) (v := .string L[i]) (by simp [strs, hxi])
        have hmem := List.getElem_mem hin
        have htk : L.take (i + 1) = L.take i ++ [L[i]] := List.take_succ_eq_append_getElem hin
        have hok : strKey.ok L[i] := hsz.out _ hmem
        have hnod : L[i] ∈ L.take i → ¬ L.Nodup := by
          intro hm hn
          rw [← List.take_append_drop i L, List.nodup_append] at hn
          exact hn.2.2 _ hm _ (by rw [List.drop_eq_getElem_cons hin]; exact List.mem_cons_self) rfl
        generalize L[i] = x at *
        have hzi : (0 : Int) ≤ i := by omega
        have hzn : (i : Int) < L.length := by omega
        replace hxi := Lib.hid hxi
        replace htk := Lib.hid htk
        replace hmem := Lib.hid hmem
        replace hnod := Lib.hid hnod
        replace hne := Lib.hid hne
        by_cases hxm : x ∈ L.take i
        · have hR2 : R = 8 := by rw [hR.out, if_neg (hnod.out hxm)]
          subst hR2
          have hd : true = true ↔ x ∈ L.take i := ⟨fun _ => hxm, fun _ => rfl⟩
          replace hd := Lib.hid hd
          replace hxm := Lib.hid hxm
          go_wp2_with (at_lookup; refine wpList_lookK (E := strKey) _ under107 rfl _ _ rfl (w.heap.size + 1) (L.take i) x true hd.out rfl rfl hM hok ?_)
          go_ret
          exact ⟨rfl, hb⟩
        · have hd : false = true ↔ x ∈ L.take i := ⟨fun h => (by cases h), fun h => absurd h hxm⟩
          have hif : (x ∈ L.take i ∧ L.take (i + 1) = L.take i) ∨ (x ∉ L.take i ∧ L.take (i + 1) = L.take i ++ [x]) := .inr ⟨hxm, htk.out⟩
          replace hd := Lib.hid hd
          replace hif := Lib.hid hif
          replace hxm := Lib.hid hxm
          go_wp2_with (first | (at_lookup; refine wpList_lookK (E := strKey) _ under107 rfl _ _ rfl (w.heap.size + 1) (L.take i) x false hd.out rfl rfl hM hok ?_) | (at_mapUpdate; refine wpList_layK (E := strKey) _ under107 rfl _ _ _ rfl (w.heap.size + 1) (L.take i) (L.take (i + 1)) x hif.out rfl rfl rfl hM hok ?_; intro w1 hM1 ht1))
          have hg1 := turned_grown ht1
          go_roundg (L.length - (i + 1))
          case measure => have := hi.out; omega
          case rel => exact ⟨i + 1, by go_num, by have := hi.out; omega, hM1, hrd.grown hg1 hle (fun a ha => by have := hne.out a ha; simpa using this), hb.grown hg1 hb.size (by intro k hk; cases hk; omega), hne.out, Nat.le_trans hle hg1.size⟩
      · have hR2 : R = 0 := by
          rw [hR.out, if_pos]
          have := hM
          obtain ⟨_, _, _, _, _, _, hn, _⟩ := this
          rwa [List.take_of_length_le (by omega)] at hn
        subst hR2
        go_wp2_with fail
        go_ret
        exact ⟨rfl, hb⟩
end Go.Proofs.YtlngbphchhbpbaaGreat

/- What Sentences has in memory while its sets grow; the plain steps. -/
namespace Go.Proofs.YtlngbphchhbpbaaGreat
open Go.ChangeShapes Go.WideShapes Go.ChangeAt Go.RowKit
open Go.ChangeMaps (heap_setBlock_same setBlock)
set_option linter.unusedVariables false

section
variable (w : World) {ops : Array Oper} {rest : List Oper} {o : Oper} {a : Act} {Q : Exit → Act → World → Prop} {α : Type} [DecidableEq α] {E : KeyEnc α}
theorem wpList_insK {t : TypeId} (ht : Tryz.prog.underlying t = some (.map E.K 4)) (hg : o.guard = none) (m x v : Operand) (hop : o.op = Op.insert t m x v) (b : Nat) (s s' : List α) (k : α) (hs : (k ∈ s ∧ s' = s) ∨ (k ∉ s ∧ s' = s ++ [k])) (hm : a.eval m = .map (some b)) (hx : a.eval x = E.enc k) (hv : a.eval v = .bool true) (h : MapK E w b s) (hk : E.ok k)
    (hK : ∀ w', MapK E w' b s' → w.mapTurned w' b → wpList Tryz.prog ops Q rest (a.put o.dst undef) w') : wpList Tryz.prog ops Q (o :: rest) a w := by
  refine wpList_plain hg fun K' hK' => ?_
  obtain ⟨w', hrun, h1, h2⟩ := h.put ht k hk
  have e : (if k ∈ s then s else s ++ [k]) = s' := by
    rcases hs with ⟨h, rfl⟩ | ⟨h, rfl⟩
    · rw [if_pos h]
    · rw [if_neg h]
  rw [e] at h1
  unfold Oper.wp
  simp [execOp, hop, hm, hx, hv, hrun, Result.andThen]
  exact hK' _ _ (hK w' h1 h2)
end
/-- how many strings there are -/
def tot (ss : List (List (List Int))) : Nat := (ss.map List.length).sum
theorem tot_set : ∀ (ss : List (List (List Int))) (i : Nat) (c : List (List Int)), i < ss.length → tot (ss.set i c) + (ss.getD i []).length = tot ss + c.length
  | [], i, c, h => by simp at h
  | a :: ss, 0, c, h => by simp [tot]; omega
  | a :: ss, i + 1, c, h => by
    have := tot_set ss i c (by simpa using h)
    simp [tot] at this ⊢
    omega
theorem tot_le (N : Nat) : ∀ (ss : List (List (List Int))), (∀ s ∈ ss, s.length ≤ N) → tot ss ≤ ss.length * N
  | [], _ => by simp [tot]
  | a :: ss, h => by
    have h1 := tot_le N ss fun s hs => h s (List.mem_cons_of_mem _ hs)
    have h2 := h a List.mem_cons_self
    simp only [tot, List.map_cons, List.sum_cons, List.length_cons] at h1 ⊢
    rw [Nat.add_mul]
    omega
/-- the state of Sentences while a production's strings are laid -/
def GS (lo Bm Bs bo Bl Bg n : Nat) (most : Int) (mbs : List Nat) (ss : List (List (List Int))) (lg gr : Bool) (W : World) : Prop :=
  Blk W Bm 3 #[.int .i64 most] ∧ Blk W Bs 54 #[.slice (some ⟨bo, 0, none⟩) n n] ∧ SetsM W bo n mbs ss ∧ Blk W Bl 4 #[.bool lg] ∧ Blk W Bg 4 #[.bool gr] ∧ (Bl ≠ Bg ∧ mbs.Nodup ∧ ss.length = n ∧ lo ≤ Bl ∧ lo ≤ Bg ∧ ∀ m ∈ mbs, lo ≤ m)
theorem blk_ne {W : World} {a b : Nat} {t u : TypeId} {cs ds : Array Value} (h : Blk W a t cs) (k : Blk W b u ds) (hne : t ≠ u) : a ≠ b := by
  rintro rfl
  unfold Blk at h k
  rw [h] at k
  injection k with k
  injection k with _ k
  exact hne k
section
variable {lo Bm Bs bo Bl Bg n : Nat} {most : Int} {mbs : List Nat} {ss : List (List (List Int))} {lg gr : Bool} {W W' : World}
theorem GS.step (h : GS lo Bm Bs bo Bl Bg n most mbs ss lg gr W) (hb : Below W.heap.size W W') : GS lo Bm Bs bo Bl Bg n most mbs ss lg gr W' :=
  ⟨h.1.step hb, h.2.1.step hb, h.2.2.1.step hb, h.2.2.2.1.step hb, h.2.2.2.2.1.step hb, h.2.2.2.2.2⟩
theorem SetsM.bo66 (h : SetsM W bo n mbs ss) : ∃ cs, Blk W bo 55 cs := ⟨_, h.choose_spec.1⟩
theorem SetsM.far (h : SetsM W bo n mbs ss) {B : Nat} {t : TypeId} {cs : Array Value} (q : Blk W B t cs) (ht : t ≠ 55) (i : Nat) (v : Value) : SetsM (W.setCell ⟨B, i, none⟩ v) bo n mbs ss := by
  obtain ⟨c0, a, b, c, d⟩ := h
  have hbo : bo ≠ B := blk_ne a q (Ne.symm ht)
  refine ⟨c0, a.far hbo v, b, c, fun j m s e f => ⟨(d j m s e f).1, ?_⟩⟩
  have hM := (d j m s e f).2
  have hne : m ≠ B := mapk_blk hM q
  obtain ⟨es, clock, h1, h2⟩ := hM
  exact ⟨es, clock, (Below.heap_setCell W ⟨B, i, none⟩ v m hne).trans h1, h2⟩
theorem GS.setL (h : GS lo Bm Bs bo Bl Bg n most mbs ss lg gr W) (b : Bool) : GS lo Bm Bs bo Bl Bg n most mbs ss b gr (W.setCell ⟨Bl, 0, none⟩ (.bool b)) := by
  obtain ⟨a1, a2, a3, a4, a5, a6⟩ := h
  exact ⟨a1.far (blk_ne a1 a4 (by decide)) _, a2.far (blk_ne a2 a4 (by decide)) _, a3.far a4 (by decide) _ _, a4.put 0 _, a5.far (Ne.symm a6.1) _, a6⟩
theorem GS.setG (h : GS lo Bm Bs bo Bl Bg n most mbs ss lg gr W) (b : Bool) : GS lo Bm Bs bo Bl Bg n most mbs ss lg b (W.setCell ⟨Bg, 0, none⟩ (.bool b)) := by
  obtain ⟨a1, a2, a3, a4, a5, a6⟩ := h
  exact ⟨a1.far (blk_ne a1 a5 (by decide)) _, a2.far (blk_ne a2 a5 (by decide)) _, a3.far a5 (by decide) _ _, a4.far a6.1 _, a5.put 0 _, a6⟩
theorem GS.put (h : GS lo Bm Bs bo Bl Bg n most mbs ss lg gr W) {i m : Nat} {c : List (List Int)} (hi : i < ss.length) (hm : mbs[i]? = some m) (ht : W.mapTurned W' m) (hM : MapK textKey W' m c) : GS lo Bm Bs bo Bl Bg n most mbs (ss.set i c) lg gr W' := by
  obtain ⟨a1, a2, a3, a4, a5, a6⟩ := h
  have hg := turned_grown ht
  obtain ⟨m', e1, e2, hMm, e3⟩ := a3.get hi
  have : m' = m := by rw [e1] at hm; injection hm
  subst this
  have hx : ∀ {B : Nat} {t : TypeId} {cs : Array Value}, Blk W B t cs → Blk W' B t cs := fun q => q.grown hg (fun e => by injection e with e; exact mapk_blk hMm q e.symm)
  exact ⟨hx a1, hx a2, a3.put a6.2.1 hi hm (fun b hb hne _ => hg.block b hb (fun e => by injection e with e; exact hne e)) hM, hx a4, hx a5, a6.1, a6.2.1, by simpa using a6.2.2.1, a6.2.2.2⟩
end
theorem GS.lts {lo Bm Bs bo Bl Bg n : Nat} {most : Int} {mbs : List Nat} {ss : List (List (List Int))} {lg gr : Bool} {W : World} (h : GS lo Bm Bs bo Bl Bg n most mbs ss lg gr W) : Bm < W.heap.size ∧ Bs < W.heap.size ∧ bo < W.heap.size ∧ Bl < W.heap.size ∧ Bg < W.heap.size ∧ ∀ m ∈ mbs, m < W.heap.size := by
  obtain ⟨a1, a2, ⟨cs, b1, b2, b3, b4⟩, a4, a5, a6⟩ := h
  refine ⟨a1.lt, a2.lt, b1.lt, a4.lt, a5.lt, fun m hm => ?_⟩
  obtain ⟨i, hi, rfl⟩ := List.getElem_of_mem hm
  exact (b4 i mbs[i] ss[i] (List.getElem?_eq_getElem hi) (List.getElem?_eq_getElem (by omega))).2.lt
theorem GS.grown {lo Bm Bs bo Bl Bg n r : Nat} {most most0 : Int} {mbs : List Nat} {ss ss0 : List (List (List Int))} {lg gr lg0 gr0 : Bool} {W W' W0 : World} (h : GS lo Bm Bs bo Bl Bg n most mbs ss lg gr W) (hg : W.grownBy W' (some r)) (h0 : GS lo Bm Bs bo Bl Bg n most0 mbs ss0 lg0 gr0 W0) (hr : W0.heap.size ≤ r) : GS lo Bm Bs bo Bl Bg n most mbs ss lg gr W' := by
  obtain ⟨l1, l2, l3, l4, l5, l6⟩ := h0.lts
  obtain ⟨a1, a2, a3, a4, a5, a6⟩ := h
  exact ⟨a1.grown hg (fun e => by injection e with e; omega), a2.grown hg (fun e => by injection e with e; omega), a3.grown hg (fun e => by injection e with e; omega) (fun m hm e => by injection e with e; have := l6 m hm; omega), a4.grown hg (fun e => by injection e with e; omega), a5.grown hg (fun e => by injection e with e; omega), a6⟩
/-- what comes of the strings x in 'out' -/
def Nx (S : Int → List (List Int)) (s : Int) (most : Int) (sh : Nat) (out next : List (List Int)) : Prop := ∀ z, z ∈ next ↔ ∃ x ∈ out, ∃ y, Ch S s y ∧ z = x ++ y ∧ (x.length : Int) + y.length ≤ most - sh
/-- and of one string more, with the y in 'ys' -/
def Ny (x : List Int) (most : Int) (sh : Nat) (prev ys next : List (List Int)) : Prop := ∀ z, z ∈ next ↔ z ∈ prev ∨ ∃ y ∈ ys, z = x ++ y ∧ (x.length : Int) + y.length ≤ most - sh
theorem Nx.start (S : Int → List (List Int)) (s : Int) (most : Int) (sh : Nat) : Nx S s most sh [] [] := by intro z; simp
theorem Ny.start (x : List Int) (most : Int) (sh : Nat) (prev : List (List Int)) : Ny x most sh prev [] prev := by intro z; simp
theorem Ny.more {x : List Int} {most : Int} {sh : Nat} {prev ys next next' : List (List Int)} {y : List Int} (h : Ny x most sh prev ys next) (hf : (x.length : Int) + y.length ≤ most - sh) (hn : ∀ z, z ∈ next' ↔ z ∈ next ∨ z = x ++ y) : Ny x most sh prev (ys ++ [y]) next' := by
  intro z
  rw [hn, h z]
  constructor
  · rintro ((h1 | ⟨y', h1, h2⟩) | rfl)
    · exact .inl h1
    · exact .inr ⟨y', List.mem_append_left _ h1, h2⟩
    · exact .inr ⟨y, by simp, rfl, hf⟩
  · rintro (h1 | ⟨y', h1, h2⟩)
    · exact .inl (.inl h1)
    · rcases List.mem_append.1 h1 with h1 | h1
      · exact .inl (.inr ⟨y', h1, h2⟩)
      · have : y' = y := by simpa using h1
        subst this; exact .inr h2.1
theorem Ny.less {x : List Int} {most : Int} {sh : Nat} {prev ys next : List (List Int)} {y : List Int} (h : Ny x most sh prev ys next) (hf : ¬ (x.length : Int) + y.length ≤ most - sh) : Ny x most sh prev (ys ++ [y]) next := by
  intro z
  rw [h z]
  constructor
  · rintro (h1 | ⟨y', h1, h2⟩)
    · exact .inl h1
    · exact .inr ⟨y', List.mem_append_left _ h1, h2⟩
  · rintro (h1 | ⟨y', h1, h2⟩)
    · exact .inl h1
    · rcases List.mem_append.1 h1 with h1 | h1
      · exact .inr ⟨y', h1, h2⟩
      · have : y' = y := by simpa using h1
        subst this; exact absurd h2.2 hf
theorem Nx.more {S : Int → List (List Int)} {s : Int} {most : Int} {sh : Nat} {out next next' ys : List (List Int)} {x : List Int} (h : Nx S s most sh out next) (hy : ∀ y, y ∈ ys ↔ Ch S s y) (hn : Ny x most sh next ys next') : Nx S s most sh (out ++ [x]) next' := by
  intro z
  rw [hn z, h z]
  constructor
  · rintro (⟨x', h1, h2⟩ | ⟨y, h1, h2⟩)
    · exact ⟨x', List.mem_append_left _ h1, h2⟩
    · exact ⟨x, by simp, y, (hy y).1 h1, h2⟩
  · rintro ⟨x', h1, y, h2, h3⟩
    rcases List.mem_append.1 h1 with h1 | h1
    · exact .inl ⟨x', h1, y, h2, h3⟩
    · have : x' = x := by simpa using h1
      subst this; exact .inr ⟨y, (hy y).2 h2, h3⟩
theorem Nx.pre {S : Int → List (List Int)} {s : Int} {most : Nat} {f g : List Int} {all out next : List (List Int)} (h : Nx S s most (shT S g) out next) (hs : ∀ x, x ∈ out ↔ x ∈ all) (hp : Pre S most f (s :: g) all) : Pre S most (f ++ [s]) g next := by
  refine pre_step hp (fun v hv => shT_low hv) fun z => ?_
  rw [h z]
  constructor
  · rintro ⟨x, h1, y, h2, h3, h4⟩; exact ⟨x, (hs x).1 h1, y, h2, h3, by omega⟩
  · rintro ⟨x, h1, y, h2, h3, h4⟩; exact ⟨x, (hs x).2 h1, y, h2, h3, by omega⟩
/-- the strings of a form: letters and lengths -/
theorem cat_fit {ps : List Pr} {most t : Nat} {S : Int → List (List Int)} (hS : SndS ps most S) (hp : ∀ p ∈ ps, ∀ s ∈ p.right, s < 16 → 0 ≤ s ∧ s < (t : Int)) {f w : List Int} (hf : ∀ s ∈ f, s < 16 → 0 ≤ s ∧ s < (t : Int)) (h : Cat S f w) : ∀ c ∈ w, 0 ≤ c ∧ c < (t : Int) :=
  der_letters (P := fun c => 0 ≤ c ∧ c < (t : Int)) hp (cat_der hS h) hf
theorem big_of {t most : Nat} {next : List (List Int)} (hn : next.Nodup) (hl : 600 < next.length) (h : ∀ x ∈ next, x.length ≤ most ∧ ∀ c ∈ x, 0 ≤ c ∧ c < (t : Int)) : Big t most := ⟨next, hn, hl, h⟩
theorem Nx.big {ps : List Pr} {S : Int → List (List Int)} {s : Int} {most t sh : Nat} {out next all : List (List Int)} {f g : List Int} (h : Nx S s most sh out next) (hs : ∀ x ∈ out, x ∈ all) (hp : Pre S most f g all) (hfl : ∀ u ∈ f ++ [s], u < 16 → 0 ≤ u ∧ u < (t : Int)) (hS : SndS ps most S)
    (hlet : ∀ p ∈ ps, ∀ s ∈ p.right, s < 16 → 0 ≤ s ∧ s < (t : Int)) (hn : next.Nodup) (hl : 600 < next.length) : Big t most := by
  refine big_of hn hl fun z hz => ?_
  obtain ⟨x, hx, y, hy, rfl, hlen⟩ := (h z).1 hz
  exact ⟨by rw [List.length_append]; omega, cat_fit hS hlet hfl (cat_app (hp.1 x (hs x hx)).1 (cat_one hy))⟩
theorem MapK.nodup {α : Type} {E : KeyEnc α} {w : World} {b : Nat} {s : List α} (h : MapK E w b s) : s.Nodup := by
  obtain ⟨es, clock, h1, h2, h3, h4, h5, h6⟩ := h
  exact h5
theorem setsF_set {ss : List (List (List Int))} {j : Nat} {cur : List (List Int)} {a : Int} {x : List Int} (hj : j < ss.length) (hx : x ∈ setsF (ss.set j cur) a) : (a = 16 + (j : Int) ∧ x ∈ cur) ∨ x ∈ setsF ss a := by
  unfold setsF at hx ⊢
  split at hx
  · cases hx
  · rename_i ha
    rw [if_neg ha]
    by_cases e : (a - 16).toNat = j
    · left
      rw [e, List.getD_eq_getElem?_getD, List.getElem?_set_self hj] at hx
      exact ⟨by omega, by simpa using hx⟩
    · right
      rw [List.getD_eq_getElem?_getD, List.getElem?_set_ne (by omega)] at hx
      rwa [List.getD_eq_getElem?_getD]
theorem snd_set {ps : List Pr} {most : Nat} {ss : List (List (List Int))} {p : Pr} {j : Nat} {all cur : List (List Int)} (hS : SndS ps most (setsF ss)) (hp : p ∈ ps) (hj : j < ss.length) (hl : p.left = 16 + (j : Int))
    (hall : ∀ x, x ∈ all → Cat (setsF ss) p.right x ∧ x.length ≤ most) (hcur : ∀ z, z ∈ cur → z ∈ ss.getD j [] ∨ z ∈ all) : SndS ps most (setsF (ss.set j cur)) := by
  intro a x hx
  rcases setsF_set hj hx with ⟨ha, hx⟩ | hx
  · rcases hcur x hx with h | h
    · refine hS a x ?_
      rw [setsF_at (by omega), show (a - 16).toNat = j by omega]; exact h
    · obtain ⟨h1, h2⟩ := hall x h
      exact ⟨⟨p, hp, by omega, cat_der hS h1⟩, h2⟩
  · exact hS a x hx
theorem snd_big {ps : List Pr} {most t : Nat} {S : Int → List (List Int)} (hS : SndS ps most S) (hlet : ∀ p ∈ ps, ∀ s ∈ p.right, s < 16 → 0 ≤ s ∧ s < (t : Int)) {a : Int} {T : List (List Int)} (hT : ∀ x ∈ T, x ∈ S a) (hn : T.Nodup) (hl : 600 < T.length) : Big t most :=
  big_of hn hl fun x hx => by
    obtain ⟨⟨p, hp, _, hd⟩, h2⟩ := hS a x (hT x hx)
    exact ⟨h2, der_letters (P := fun c => 0 ≤ c ∧ c < (t : Int)) hlet hd (hlet p hp)⟩
theorem setsF_self {ss : List (List (List Int))} {j : Nat} {cur : List (List Int)} (hj : j < ss.length) : setsF (ss.set j cur) (16 + (j : Int)) = cur := by
  rw [setsF_at (by omega), show (16 + (j : Int) - 16).toNat = j by omega, List.getD_eq_getElem?_getD, List.getElem?_set_self hj]; rfl
theorem set_getD {ss : List (List (List Int))} {j : Nat} (hj : j < ss.length) : ss.set j (ss.getD j []) = ss := by
  apply List.ext_getElem?
  intro i
  by_cases e : j = i
  · subst e; rw [List.getElem?_set_self hj, List.getD_eq_getElem?_getD, List.getElem?_eq_getElem hj]; rfl
  · rw [List.getElem?_set_ne e]
def addT (l : List (List Int)) (z : List Int) : List (List Int) := if z ∈ l then l else l ++ [z]
theorem addT_or (l : List (List Int)) (z : List Int) : (z ∈ l ∧ addT l z = l) ∨ (z ∉ l ∧ addT l z = l ++ [z]) := by
  by_cases h : z ∈ l
  · exact .inl ⟨h, if_pos h⟩
  · exact .inr ⟨h, if_neg h⟩
theorem mem_addT (l : List (List Int)) (z y : List Int) : y ∈ addT l z ↔ y ∈ l ∨ y = z := by
  rcases addT_or l z with ⟨h, e⟩ | ⟨h, e⟩
  · rw [e]; exact ⟨.inl, fun h' => h'.elim id fun e => e ▸ h⟩
  · rw [e]; simp
theorem setCell_grown (W : World) (B i : Nat) (v : Value) : W.grownBy (W.setCell ⟨B, i, none⟩ v) (some B) :=
  ⟨rfl, rfl, rfl, by simp, fun k hk hne => Below.heap_setCell W ⟨B, i, none⟩ v k (fun e => hne (by rw [e]))⟩
theorem txok_app {x y : List Int} (hx : txok x) (hy : txok y) (h : x.length + y.length ≤ 12) : txok (x ++ y) :=
  ⟨by rw [List.length_append]; exact h, fun c hc => by
    rcases List.mem_append.1 hc with hc | hc
    · exact hx.2 c hc
    · exact hy.2 c hc⟩
theorem txok_one {s : Int} (h0 : 0 ≤ s) (h : s < 16) : txok [s] := by
  refine ⟨by simp, fun c hc => ?_⟩
  have : c = s := by simpa using hc
  subst this
  exact ⟨h0, h⟩
theorem ch_term {S : Int → List (List Int)} {s : Int} (h : s < 16) (y : List Int) : y ∈ [[s]] ↔ Ch S s y := by
  constructor
  · intro hy; exact .inl ⟨h, by simpa using hy⟩
  · rintro (⟨_, rfl⟩ | ⟨h', _⟩)
    · simp
    · omega
theorem ch_nont {S : Int → List (List Int)} {s : Int} (h : 16 ≤ s) {T ys : List (List Int)} (hT : S s = T) (h1 : ∀ y ∈ ys, y ∈ T) (h2 : ∀ y ∈ T, y ∈ ys) (y : List Int) : y ∈ ys ↔ Ch S s y := by
  constructor
  · intro hy; exact .inr ⟨h, hT ▸ h1 y hy⟩
  · rintro (⟨h', _⟩ | ⟨_, h'⟩)
    · omega
    · exact h2 y (hT ▸ h')
theorem txc_one1 (s : Int) : txc [s] = #[.int .i64 1, .int .i8 s, .int .i8 0, .int .i8 0, .int .i8 0, .int .i8 0, .int .i8 0, .int .i8 0, .int .i8 0, .int .i8 0, .int .i8 0, .int .i8 0, .int .i8 0] := rfl
end Go.Proofs.YtlngbphchhbpbaaGreat

/- derive.Sentences' grow: the walk. -/
namespace Go.Proofs.YtlngbphchhbpbaaGreat
open Go.ChangeShapes Go.WideShapes Go.ChangeAt Go.RowKit
set_option linter.unusedVariables false

/-- what grow hands back -/
def RetGw (ps : List Pr) (p : Pr) (t most n lo Bm Bs bo Bl Bg : Nat) (mbs : List Nat) (ss : List (List (List Int))) (gr : Bool) (w : World) (e : Ending) (w' : World) : Prop :=
  ∃ ss' lg' gr', e = .returned (.tuple #[]) ∧ GS lo Bm Bs bo Bl Bg n most mbs ss' lg' gr' w' ∧ Below lo w w' ∧ SndS ps most (setsF ss') ∧ (lg' = true → Big t most) ∧
    (lg' = false → (∀ s ∈ ss', s.length ≤ 600) ∧ ((gr' = gr ∧ ss' = ss ∧ ∀ x, Cat (setsF ss) p.right x → x.length ≤ most → x ∈ setsF ss p.left) ∨ (gr' = true ∧ tot ss < tot ss')))

set_option maxRecDepth 100000 in
set_option maxHeartbeats 2000000 in
theorem grow_any (ps : List Pr) (p : Pr) (t most n lo Bm Bs bo Bl Bg : Nat) (mbs : List Nat) (ss : List (List (List Int))) (gr : Bool) (RA : Option Addr) (c : Nat) (w : World)
    (hp : p ∈ ps) (hpl : 16 ≤ p.left ∧ p.left < 16 + (n : Int)) (hpr : ∀ s ∈ p.right, (0 ≤ s ∧ s < (t : Int)) ∨ (16 ≤ s ∧ s < 16 + (n : Int))) (h6 : p.right.length ≤ 6) (ht : t ≤ 8) (hn8 : n ≤ 8) (hm12 : most ≤ 12)
    (hlet : ∀ q ∈ ps, ∀ s ∈ q.right, s < 16 → 0 ≤ s ∧ s < (t : Int)) (hG : GS lo Bm Bs bo Bl Bg n most mbs ss false gr w) (hR : Rd1 w lo RA p.right.length (ints p.right)) (hlo : lo ≤ w.heap.size) (hc : p.right.length ≤ c) (hcm : c ≤ maxLen)
    (hsnd : SndS ps most (setsF ss)) (hfit : ∀ s ∈ ss, s.length ≤ 600) :
    Calls Tryz.prog 29 #[.agg #[.int .i64 p.left, .slice RA p.right.length c], .pointer (some ⟨Bm, 0, none⟩), .pointer (some ⟨Bs, 0, none⟩), .pointer (some ⟨Bl, 0, none⟩), .pointer (some ⟨Bg, 0, none⟩)] w (RetGw ps p t most n lo Bm Bs bo Bl Bg mbs ss gr w) := by
  obtain ⟨pl, pr⟩ := p
  dsimp only at hpl hpr h6 hR hc ⊢
  have hmm := @run_makeMap Tryz.prog
  have hz12 : (txc ([] : List Int)) = #[.int .i64 0, .int .i8 0, .int .i8 0, .int .i8 0, .int .i8 0, .int .i8 0, .int .i8 0, .int .i8 0, .int .i8 0, .int .i8 0, .int .i8 0, .int .i8 0, .int .i8 0] := rfl
  obtain ⟨k, hk⟩ : ∃ k, k = pr.length := ⟨_, rfl⟩
  rw [← hk] at hR h6 hc ⊢
  unfold maxLen at hcm
  replace hz12 := Lib.hid hz12
  replace hk := Lib.hid hk
  replace hsnd := Lib.hid hsnd
  replace hfit := Lib.hid hfit
  replace hlet := Lib.hid hlet
  replace hpr := Lib.hid hpr
  replace hp := Lib.hid hp
  go_enter Tryz.func29, Tryz.ntmps29
  have hnil : Hid (([] : List Int) ∉ ([] : List (List Int))) := Lib.hid (by simp)
  have hnil : Hid (([] : List Int) ∉ ([] : List (List Int))) := Lib.hid (by simp)
  go_upto_region 1 with (fail)
  have q5 : Blk (w.alloc (.cells #[.int .i64 pl, .slice RA k c] 37)) w.heap.size 37 #[.int .i64 pl, .slice RA k c] := Blk.new _ _ _
  have hb0 : Below w.heap.size w (w.alloc (.cells #[.int .i64 pl, .slice RA k c] 37)) := bAlc (Below.refl _ _) _
  have hz0 : (w.alloc (.cells #[.int .i64 pl, .slice RA k c] 37)).heap.size = w.heap.size + 1 := by simp
  replace hz0 := Lib.hid hz0
  generalize w.alloc (.cells #[.int .i64 pl, .slice RA k c] 37) = w0 at *
  go_upto_region 2 with (refine wpList_insK (E := textKey) (o := ⟨none, Op.insert 55 (Operand.tmp 19) (Operand.tmp 20) (Operand.const (Value.bool true)), _, _, _, none⟩) _ under66 rfl _ _ _ rfl w0.heap.size [] [[]] [] (.inr ⟨hnil.out, rfl⟩) rfl rfl rfl (mapk_new _ _ _ rfl) ⟨by simp, by simp⟩ ?_; intro w1 hM1 ht1)
  have hg1 := turned_grown ht1
  have hb1 : Below w.heap.size w w1 := (bAlc hb0 (.map #[] 0)).grown hg1 (by simp; have := hz0.out; omega) (fun j hj => by cases hj; have := hz0.out; omega)
  have q51 : Blk w1 w.heap.size 37 #[.int .i64 pl, .slice RA k c] := (q5.alloc (.map #[] 0)).grown hg1 (fun e => by injection e with e; have := hz0.out; omega)
  have ham : w.heap.size < w0.heap.size := by have := hz0.out; omega
  clear hg1 ht1 q5 hb0 hmm hnil
  generalize w0.heap.size = am0 at *
  have d1 := q51.cell 1
  simp only [List.getElem?_toArray, List.getElem?_cons_zero, List.getElem?_cons_succ] at d1
  go_wp2_with fail
  clear d1
  go_loopg [6, 25] k (fun gk s6 s25 wr => ∃ (i am : Nat) (all : List (List Int)), s6 = .map (some am) ∧ s25 = .int .i64 i ∧ i + gk = k ∧ Hid (Pre (setsF ss) most (pr.take i) (pr.drop i) all) ∧ MapK textKey wr am all ∧ w.heap.size < am ∧ Below w.heap.size w wr ∧ Blk wr w.heap.size 37 #[.int .i64 pl, .slice RA k c])
  case atStart => exact ⟨0, am0, [[]], rfl, rfl, by omega, Lib.hid (pre_start _ _ _), hM1, ham, hb1, q51⟩
  case round =>
    clear hM1 hb1 q51 ham
    obtain ⟨i, am, all, rfl, rfl, hi, hpre, hM, ham, hb, q5⟩ := hrel
    replace hi := Lib.hid hi
    by_cases hin : i < k
    · have hil : i < pr.length := by have := hk.out; omega
      have hx : pr[i]? = some pr[i] := List.getElem?_eq_getElem hil
      have hRr := hR.below (hb.mono hlo)
      obtain ⟨rb, roff, rfl, hrb, x0⟩ := hRr.get (show (ints pr)[i]? = some (.int .i64 pr[i]) by rw [ints, List.getElem?_map, hx]; rfl)
      have htk := take_snocG hx
      have hdr : pr.drop i = pr[i] :: pr.drop (i + 1) := List.drop_eq_getElem_cons hil
      have hsb := hpr.out _ (List.getElem_mem hil)
      generalize pr[i] = s at *
      replace hx := Lib.hid hx
      replace htk := Lib.hid htk
      replace hdr := Lib.hid hdr
      have hz1 : (0 : Int) ≤ i := by omega
      have hz2 : (i : Int) < k := by omega
      have hmm := @run_makeMap Tryz.prog
      go_upto_region 6 with (fail)
      have hb5 := bAlc hb (.map #[] 0)
      have hM5 : MapK textKey (wr.alloc (.map #[] 0)) am all := hM.step (bAlc (Below.refl _ _) _)
      have hN5 : MapK textKey (wr.alloc (.map #[] 0)) wr.heap.size [] := mapk_new _ _ _ rfl
      have q55 := q5.alloc (.map #[] 0)
      have hnm : am < wr.heap.size := hM.lt
      have hnm2 := hb.size
      clear hM q5 hb hmm x0 hRr
      generalize wr.alloc (.map #[] 0) = W5 at *
      generalize wr.heap.size = nm at *
      have hGs := hG.step hb5
      have k0 : ∀ q : KeptBy W5, q.world.cell? ⟨Bm, 0, none⟩ = some (.int .i64 most) := cell_kept (hGs.1.cell 0)
      have k1 : ∀ q : KeptBy W5, q.world.cell? ⟨w.heap.size, 1, none⟩ = some (.slice (some ⟨rb, roff, none⟩) k c) := cell_kept (q55.cell 1)
      have k2 : ∀ q : KeptBy W5, q.world.cell? ⟨Bs, 0, none⟩ = some (.slice (some ⟨bo, 0, none⟩) n n) := cell_kept (hGs.2.1.cell 0)
      have hfd : ∀ u ∈ pr.drop (i + 1), u < 16 ∨ (16 ≤ u ∧ u < 16 + (n : Int)) := fun u hu => by
        rcases hpr.out u (List.mem_of_mem_drop hu) with h | h
        · left; omega
        · exact .inr h
      have hrd : ∀ q : KeptBy W5, Rd1 q.world q.world.heap.size (if c = i + 1 then some { block := rb, off := roff } else some { block := rb, off := roff + (i + 1) }) (k - (i + 1)) (ints (pr.drop (i + 1))) := fun q => by
        have h1 := (((hR.below (hb5.mono hlo)).below (q.kept.mono (by have := hb5.size; omega))).mono (B' := q.world.heap.size) (by have := hb5.size; have := q.kept.size; omega)).drop (i + 1) c (by omega) hc
        rw [show (ints pr).drop (i + 1) = ints (pr.drop (i + 1)) by simp [ints]] at h1
        by_cases h : c = i + 1
        · rw [if_pos h] at h1 ⊢; exact h1
        · rw [if_neg h] at h1 ⊢; exact h1
      obtain ⟨M, hM0⟩ : ∃ M, M = shT (setsF ss) (pr.drop (i + 1)) := ⟨_, rfl⟩
      have hM13 : M ≤ 78 := by have := shT_le (setsF ss) (pr.drop (i + 1)); rw [← hM0, List.length_drop] at this; have := hk.out; omega
      have hSh := Lib.hid (fun q : KeptBy W5 => shortest_any _ (k - (i + 1)) (c - (i + 1)) n (pr.drop (i + 1)) bo n mbs ss q.world (hrd q) (by omega) (hGs.2.2.1.step q.kept) hG.2.2.2.2.2.2.2.1 (by omega) hfd)
      rw [← hM0] at hSh
      replace hM0 := Lib.hid hM0
      clear hfd hrd
      refine wp_region_kept (by kernel_rfl) (by kernel_rfl) ?_
      repeat (go_big_quiet_step ((go_at_call 30; exact Calls.kept_by (hSh.out _))))
      refine wpQuiet_nil ?_
      rintro _ ⟨q, rfl⟩
      have hqk := q.kept
      clear hSh k0 k1 k2
      generalize q.world = W6 at hqk
      generalize (if c = i + 1 then some ({ block := rb, off := roff } : Addr) else some { block := rb, off := roff + (i + 1) }) = AA
      have hM6 := hM5.step hqk
      have hN6 := hN5.step hqk
      have q6 := q55.step hqk
      have hb6 := bStep hb5 hqk
      have hz6 := hN6.lt
      clear hM5 hN5 q55 hb5 hqk hGs q
      have hMz : (0 : Int) ≤ M := by omega
      go_wp2_with (at_range; refine wpList_rangeK _ under66 rfl _ rfl am all rfl hM6 ?_; intro w7 hit hb7; go_frame)
      have hN7 := hN6.step hb7
      have q7 := q6.step hb7
      have hb77 := bStep hb6 hb7
      clear hM6 hN6 q6 hb6 hb7
      generalize W6.heap.size = r at *
      go_loopg [11] all.length (fun gk s11 wr => ∃ (out next : List (List Int)), out.length + gk = all.length ∧ IterK textKey wr am r all out ∧ MapK textKey wr nm next ∧ Hid (Nx (setsF ss) s most M out next) ∧ Below w.heap.size w wr ∧ Blk wr w.heap.size 37 #[.int .i64 pl, .slice (some ⟨rb, roff, none⟩) k c])
      case atStart => exact ⟨[], [], by simp, hit, hN7, Lib.hid (Nx.start _ _ _ _), hb77, q7⟩
      case round =>
        clear hit hN7 hb77 q7
        obtain ⟨out, next, hlo2, hit, hN, hnx, hb, q5⟩ := hrel
        replace hlo2 := Lib.hid hlo2
        go_wp2_with (at_next; refine wpList_nextK _ rfl _ rfl am r all out rfl hit ?_ ?_)
        · intro hall
          have hnp : Hid (Pre (setsF ss) most (pr.take (i + 1)) (pr.drop (i + 1)) next) := Lib.hid (by
            rw [htk.out]
            refine Nx.pre (by rw [← hM0.out]; exact hnx.out) (fun x => ⟨hit.parts.2.1 x, hall x⟩) ?_
            rw [← hdr.out]; exact hpre.out)
          go_wp2_with fail
          go_roundg (k - (i + 1))
          case measure => have := hi.out; omega
          case rel => exact ⟨i + 1, nm, next, rfl, by go_num, by have := hi.out; omega, hnp, hN, by omega, hb, q5⟩
        · intro x w2 hxs hxo hit2 hen hg2 hsz2
          have hxok : txok x := hit2.parts.2.2.2 x hxs
          have hen' : (Instr.entry (.pointer (some ⟨r, 0, none⟩))).run Tryz.prog w2 = .ok (.tuple #[.agg (txc x), .bool true]) w2 := hen
          have hlen2 := nodup_lenT hit2.parts.1 hit2.parts.2.1
          rw [List.length_append, List.length_singleton] at hlen2
          have hN2 := hN.grown hg2 (fun e => by injection e with e; omega)
          have hb2 : Below w.heap.size w w2 := hb.grown hg2 hb.size (fun j hj => by cases hj; omega)
          have q52 := q5.grown hg2 (fun e => by injection e with e; omega)
          clear hen hit hN hb q5 hg2
          have hr4 := hit2.lt.2
          replace hsz2 := Lib.hid hsz2
          go_upto_region 10 with (refine wpList_store_row rfl 59 _ _ rfl w2.heap.size (txc x) rfl rfl 59 (txc []) (Blk.new w2 59 (txc [])) size70 rfl (txc_one _) ?_)
          change Code.wp Tryz.prog _ _ _ (layT w2 x)
          have q := layT_blk w2 x
          have hbl := layT_below w2 x
          have hit3 := hit2.step hbl
          have hN3 := hN2.step hbl
          have q53 := q52.step hbl
          have hb3 := bStep hb2 hbl
          clear hit2 hN2 q52 hb2 hbl hen'
          generalize layT w2 x = W1 at *
          generalize w2.heap.size = B4 at *
          by_cases h16 : s < 16
          · have hd : decide (16 ≤ s) = false := decide_eq_false (by omega)
            have hs0 : 0 ≤ s := by omega
            have hs8 : s < 8 := by omega
            have hone : txok [s] := txok_one hs0 (by omega)
            have hys := Lib.hid (ch_term (S := setsF ss) (s := s) h16)
            clear hsb
            replace h16 := Lib.hid h16
            by_cases hf : (x.length : Int) + ([s] : List Int).length ≤ most - M
            · have hpl2 := Lib.hid (plus_any x [s] (most - M) W1 hxok hone (by omega) (by omega) hf)
              have hny := Lib.hid ((Ny.start x most M next).more (y := [s]) hf (mem_addT next (x ++ [s])))
              have hzok : txok (x ++ [s]) := txok_app hxok hone (by omega)
              unfold txv at hpl2
              rw [txc_one1] at hpl2
              replace hf := Lib.hid hf
              go_upto_region 12 with (first
                | (go_at_call 20; refine (isnt_any s _).mono ?_; rintro e w3 ⟨rfl, rfl⟩; rw [hd])
                | (refine wpList_load_row rfl 59 _ rfl B4 rfl 59 (txc x) (0, 0) _ q underT rfl size70 ?_)
                | (go_at_call 31; refine hpl2.out.mono ?_; rintro e w3 ⟨rfl, hb31⟩)
                | (refine wpList_store_row rfl 59 _ _ rfl w3.heap.size (txc (x ++ [s])) rfl rfl 59 (txc []) (Blk.new w3 59 (txc [])) size70 rfl (txc_one _) ?_))
              change Code.wp Tryz.prog _ _ _ (layT w3 (x ++ [s]))
              have hbl2 := layT_below w3 (x ++ [s])
              have qz := layT_blk w3 (x ++ [s])
              have hb33 : Below W1.heap.size W1 (layT w3 (x ++ [s])) := bStep hb31 hbl2
              have hit4 := hit3.step hb33
              have hN4 := hN3.step hb33
              have q54 := q53.step hb33
              have hb4 := bStep hb3 hb33
              clear hit3 hN3 q53 hb3 hbl2 hb31 hb33 q hpl2
              generalize layT w3 (x ++ [s]) = W4 at *
              generalize w3.heap.size = B6 at *
              have hor := addT_or next (x ++ [s])
              replace hor := Lib.hid hor
              go_wp2_with (first
                | (refine wpList_load_row rfl 59 _ rfl B6 rfl 59 (txc (x ++ [s])) (0, 0) _ qz underT rfl size70 ?_)
                | (at_mapUpdate; refine wpList_layK (E := textKey) _ under66 rfl _ _ _ rfl nm next (addT next (x ++ [s])) (x ++ [s]) hor.out rfl rfl rfl hN4 hzok ?_; intro w5 hN5 ht5))
              have hg5 := turned_grown ht5
              go_roundg (all.length - (out.length + 1))
              case measure => have := hlo2.out; omega
              case rel => exact ⟨out ++ [x], addT next (x ++ [s]), by rw [List.length_append, List.length_singleton]; omega, hit4.grown hg5 (fun e => by injection e with e; omega) (fun e => by injection e with e; omega), hN5, Lib.hid (hnx.out.more hys.out hny.out), hb4.grown hg5 hb4.size (fun j hj => by cases hj; omega), q54.grown hg5 (fun e => by injection e with e; omega)⟩
            · have hpl2 := Lib.hid (plus_not x [s] (most - M) W1 hxok hone (by omega) (by omega) (by omega))
              have hny := Lib.hid ((Ny.start x most M next).less (y := [s]) hf)
              unfold txv at hpl2
              rw [txc_one1] at hpl2
              replace hf := Lib.hid hf
              go_upto_region 12 with (first
                | (go_at_call 20; refine (isnt_any s _).mono ?_; rintro e w3 ⟨rfl, rfl⟩; rw [hd])
                | (refine wpList_load_row rfl 59 _ rfl B4 rfl 59 (txc x) (0, 0) _ q underT rfl size70 ?_)
                | (go_at_call 31; refine hpl2.out.mono ?_; rintro e w3 ⟨rfl, hb31⟩)
                | (refine wpList_store_row rfl 59 _ _ rfl w3.heap.size (txc x) rfl rfl 59 (txc []) (Blk.new w3 59 (txc [])) size70 rfl (txc_one _) ?_))
              change Code.wp Tryz.prog _ _ _ (layT w3 x)
              have hb33 : Below W1.heap.size W1 (layT w3 x) := bStep hb31 (layT_below w3 x)
              have hit4 := hit3.step hb33
              have hN4 := hN3.step hb33
              have q54 := q53.step hb33
              have hb4 := bStep hb3 hb33
              clear hit3 hN3 q53 hb3 hb31 hb33 q hpl2
              generalize layT w3 x = W4 at *
              generalize w3.heap.size = B6 at *
              go_wp2_with fail
              go_roundg (all.length - (out.length + 1))
              case measure => have := hlo2.out; omega
              case rel => exact ⟨out ++ [x], next, by rw [List.length_append, List.length_singleton]; omega, hit4, hN4, Lib.hid (hnx.out.more hys.out hny.out), hb4, q54⟩
          · have hd : decide (16 ≤ s) = true := decide_eq_true (by omega)
            obtain ⟨j, hj⟩ := Int.eq_ofNat_of_zero_le (show 0 ≤ s - 16 by omega)
            have hjn : j < n := by omega
            obtain ⟨mb, hmb, z0, hMb, hne⟩ := hG.2.2.1.get (i := j) (by rw [hG.2.2.2.2.2.2.2.1]; omega)
            have hmlt := hMb.lt
            have hset : setsF ss s = ss.getD j [] := by rw [setsF_at (by omega), show (s - 16).toNat = j by omega]
            have z1 := cell_later hb3 z0
            have k2 := cell_later hb3 (show w.cell? ⟨Bs, 0, none⟩ = some (.slice (some ⟨bo, 0, none⟩) n n) from hG.2.1.cell 0)
            have hMb1 := hMb.step hb3
            have hzj : (0 : Int) ≤ j := by omega
            have hzjn : (j : Int) < n := by omega
            have h16' : 16 ≤ s := by omega
            clear hsb h16 z0 hMb hne
            replace h16' := Lib.hid h16'
            replace hset := Lib.hid hset
            replace hmb := Lib.hid hmb
            generalize ss.getD j [] = T at *
            have hr5 := q.lt
            go_wp2_with (first
              | (go_at_call 20; refine (isnt_any s _).mono ?_; rintro e w3 ⟨rfl, rfl⟩; rw [hd])
              | (at_range; refine wpList_rangeK _ under66 rfl _ rfl mb T rfl hMb1 ?_; intro w7 hit7 hb7; go_frame))
            have hit8 := hit3.step hb7
            have hN8 := hN3.step hb7
            have q58 := q53.step hb7
            have q48 := q.step hb7
            have hb8 := bStep hb3 hb7
            clear hit3 hN3 q53 q hb3 hb7 z1 k2 hMb1
            generalize W1.heap.size = r3 at *
            go_loopg [14] T.length (fun gk s14 wr => ∃ (ys next' : List (List Int)), ys.length + gk = T.length ∧ IterK textKey wr mb r3 T ys ∧ IterK textKey wr am r all (out ++ [x]) ∧ MapK textKey wr nm next' ∧ Hid (Ny x most M next ys next') ∧ Below w.heap.size w wr ∧ Blk wr w.heap.size 37 #[.int .i64 pl, .slice (some ⟨rb, roff, none⟩) k c] ∧ Blk wr B4 59 (txc x))
            case atStart => exact ⟨[], next, by simp, hit7, hit8, hN8, Lib.hid (Ny.start _ _ _ _), hb8, q58, q48⟩
            case round =>
              clear hit7 hit8 hN8 hb8 q58 q48
              obtain ⟨ys, next', hly, hitb, hita, hN, hny, hb, q5, q4⟩ := hrel
              replace hly := Lib.hid hly
              go_wp2_with (at_next; refine wpList_nextK _ rfl _ rfl mb r3 T ys rfl hitb ?_ ?_)
              · intro hall
                have hnx2 := Lib.hid (hnx.out.more (ch_nont h16'.out hset.out hitb.parts.2.1 hall) hny.out)
                have hlen := mapk_len hN 3
                by_cases h600 : (600 : Int) < next'.length
                · have hbig : Hid (Big t most) := Lib.hid (Nx.big hnx2.out hita.parts.2.1 hpre.out (fun u hu h => by
                    have hur : u ∈ pr := by rw [← htk.out] at hu; exact List.mem_of_mem_take hu
                    rcases hpr.out u hur with h' | h'
                    · exact h'
                    · omega) hsnd.out hlet.out hN.nodup (by omega))
                  have hGw := hG.step hb
                  have f1 := hGw.2.2.2.1.frozen 0
                  have f2 := hGw.2.2.2.1.cell 0
                  have f3 := hGw.2.2.2.1.lt
                  replace h600 := h600
                  go_wp2_with fail
                  refine bodyPost_ret (results_none rfl _ _ _) rfl ?_
                  exact ⟨ss, true, gr, rfl, hGw.setL true, (hb.mono hlo).setCell hGw.2.2.2.2.2.2.2.2.1 _, hsnd.out, fun _ => hbig.out, fun h => by cases h⟩
                · go_wp2_with fail
                  go_roundg (all.length - (out.length + 1))
                  case measure => have := hlo2.out; omega
                  case rel => exact ⟨out ++ [x], next', by rw [List.length_append, List.length_singleton]; omega, hita, hN, hnx2, hb, q5⟩
              · intro y w3 hys hyo hitb2 hen hg2 hsz3
                have hyok : txok y := hitb2.parts.2.2.2 y hys
                have hen' : (Instr.entry (.pointer (some ⟨r3, 0, none⟩))).run Tryz.prog w3 = .ok (.tuple #[.agg (txc y), .bool true]) w3 := hen
                have hlen3 := nodup_lenT hitb2.parts.1 hitb2.parts.2.1
                rw [List.length_append, List.length_singleton] at hlen3
                have hita2 := hita.grown hg2 (fun e => by injection e with e; omega) (fun e => by injection e with e; omega)
                have hN2 := hN.grown hg2 (fun e => by injection e with e; omega)
                have hb2 : Below w.heap.size w w3 := hb.grown hg2 hb.size (fun j hj => by cases hj; omega)
                have q52 := q5.grown hg2 (fun e => by injection e with e; omega)
                have q42 := q4.grown hg2 (fun e => by injection e with e; omega)
                clear hen hitb hita hN hb q5 q4 hg2
                replace hsz3 := Lib.hid hsz3
                go_upto_region 17 with (refine wpList_store_row rfl 59 _ _ rfl w3.heap.size (txc y) rfl rfl 59 (txc []) (Blk.new w3 59 (txc [])) size70 rfl (txc_one _) ?_)
                change Code.wp Tryz.prog _ _ _ (layT w3 y)
                have qy := layT_blk w3 y
                have hbl := layT_below w3 y
                have hitb3 := hitb2.step hbl
                have hita3 := hita2.step hbl
                have hN3 := hN2.step hbl
                have q53 := q52.step hbl
                have q4 := q42.step hbl
                have hb3 := bStep hb2 hbl
                clear hitb2 hita2 hN2 q52 q42 hb2 hbl hen'
                generalize layT w3 y = W2 at *
                generalize w3.heap.size = B5 at *
                by_cases hf : (x.length : Int) + y.length ≤ most - M
                · have hpl2 := Lib.hid (plus_any x y (most - M) W2 hxok hyok (by omega) (by omega) hf)
                  have hny2 := Lib.hid (hny.out.more (y := y) hf (mem_addT next' (x ++ y)))
                  have hzok : txok (x ++ y) := txok_app hxok hyok (by omega)
                  unfold txv at hpl2
                  replace hf := Lib.hid hf
                  go_upto_region 18 with (first
                    | (refine wpList_load_row rfl 59 _ rfl B4 rfl 59 (txc x) (0, 0) _ q4 underT rfl size70 ?_)
                    | (refine wpList_load_row rfl 59 _ rfl B5 rfl 59 (txc y) (0, 0) _ qy underT rfl size70 ?_)
                    | (go_at_call 31; refine hpl2.out.mono ?_; rintro e w4 ⟨rfl, hb31⟩)
                    | (refine wpList_store_row rfl 59 _ _ rfl w4.heap.size (txc (x ++ y)) rfl rfl 59 (txc []) (Blk.new w4 59 (txc [])) size70 rfl (txc_one _) ?_))
                  change Code.wp Tryz.prog _ _ _ (layT w4 (x ++ y))
                  have qz := layT_blk w4 (x ++ y)
                  have hb33 : Below W2.heap.size W2 (layT w4 (x ++ y)) := bStep hb31 (layT_below w4 (x ++ y))
                  have hitb4 := hitb3.step hb33
                  have hita4 := hita3.step hb33
                  have hN4 := hN3.step hb33
                  have q54 := q53.step hb33
                  have q44 := q4.step hb33
                  have hb4 := bStep hb3 hb33
                  clear hitb3 hita3 hN3 q53 q4 qy hb3 hb31 hb33 hpl2
                  generalize layT w4 (x ++ y) = W4 at *
                  generalize w4.heap.size = B6 at *
                  have hor := addT_or next' (x ++ y)
                  replace hor := Lib.hid hor
                  go_wp2_with (first
                    | (refine wpList_load_row rfl 59 _ rfl B6 rfl 59 (txc (x ++ y)) (0, 0) _ qz underT rfl size70 ?_)
                    | (at_mapUpdate; refine wpList_layK (E := textKey) _ under66 rfl _ _ _ rfl nm next' (addT next' (x ++ y)) (x ++ y) hor.out rfl rfl rfl hN4 hzok ?_; intro w5 hN5 ht5))
                  have hg5 := turned_grown ht5
                  go_roundg (T.length - (ys.length + 1))
                  case measure => have := hly.out; omega
                  case rel => exact ⟨ys ++ [y], addT next' (x ++ y), by rw [List.length_append, List.length_singleton]; omega, hitb4.grown hg5 (fun e => by injection e with e; omega) (fun e => by injection e with e; omega), hita4.grown hg5 (fun e => by injection e with e; omega) (fun e => by injection e with e; omega), hN5, hny2, hb4.grown hg5 hb4.size (fun j hj => by cases hj; omega), q54.grown hg5 (fun e => by injection e with e; omega), q44.grown hg5 (fun e => by injection e with e; omega)⟩
                · have hpl2 := Lib.hid (plus_not x y (most - M) W2 hxok hyok (by omega) (by omega) (by omega))
                  have hny2 := Lib.hid (hny.out.less (y := y) hf)
                  unfold txv at hpl2
                  replace hf := Lib.hid hf
                  go_upto_region 18 with (first
                    | (refine wpList_load_row rfl 59 _ rfl B4 rfl 59 (txc x) (0, 0) _ q4 underT rfl size70 ?_)
                    | (refine wpList_load_row rfl 59 _ rfl B5 rfl 59 (txc y) (0, 0) _ qy underT rfl size70 ?_)
                    | (go_at_call 31; refine hpl2.out.mono ?_; rintro e w4 ⟨rfl, hb31⟩)
                    | (refine wpList_store_row rfl 59 _ _ rfl w4.heap.size (txc x) rfl rfl 59 (txc []) (Blk.new w4 59 (txc [])) size70 rfl (txc_one _) ?_))
                  change Code.wp Tryz.prog _ _ _ (layT w4 x)
                  have qz := layT_blk w4 x
                  have hb33 : Below W2.heap.size W2 (layT w4 x) := bStep hb31 (layT_below w4 x)
                  have hitb4 := hitb3.step hb33
                  have hita4 := hita3.step hb33
                  have hN4 := hN3.step hb33
                  have q54 := q53.step hb33
                  have q44 := q4.step hb33
                  have hb4 := bStep hb3 hb33
                  clear hitb3 hita3 hN3 q53 q4 qy hb3 hb31 hb33 hpl2
                  generalize layT w4 x = W4 at *
                  generalize w4.heap.size = B6 at *
                  go_wp2_with fail
                  go_roundg (T.length - (ys.length + 1))
                  case measure => have := hly.out; omega
                  case rel => exact ⟨ys ++ [y], next', by rw [List.length_append, List.length_singleton]; omega, hitb4, hita4, hN4, hny2, hb4, q54, q44⟩
    · have hik : i = k := by have := hi.out; omega
      have hall : Hid (∀ x, x ∈ all ↔ Cat (setsF ss) pr x ∧ x.length ≤ most) := Lib.hid (by
        have h1 := hpre.out
        rw [List.take_of_length_le (by have := hk.out; omega), List.drop_eq_nil_of_le (by have := hk.out; omega)] at h1
        exact pre_end h1)
      obtain ⟨j, hj⟩ := Int.eq_ofNat_of_zero_le (show 0 ≤ pl - 16 by omega)
      have hjn : j < n := by omega
      have hssn : ss.length = n := hG.2.2.2.2.2.2.2.1
      obtain ⟨mb, hmb, z0, hMb, hne⟩ := hG.2.2.1.get (i := j) (by rw [hssn]; omega)
      have hmlt := hMb.lt
      have z1 := cell_later hb z0
      have k2 := cell_later hb (show w.cell? ⟨Bs, 0, none⟩ = some (.slice (some ⟨bo, 0, none⟩) n n) from hG.2.1.cell 0)
      have k3 : wr.cell? ⟨w.heap.size, 0, none⟩ = some (.int .i64 pl) := q5.cell 0
      have hzj : (0 : Int) ≤ j := by omega
      have hzjn : (j : Int) < n := by omega
      have hset := Lib.hid (set_getD (ss := ss) (j := j) (by omega))
      have hT0 : Hid (setsF ss pl = ss.getD j []) := Lib.hid (by rw [setsF_at (by omega), show (pl - 16).toNat = j by omega])
      have hT1 : Hid (∃ T, T = ss.getD j []) := Lib.hid ⟨_, rfl⟩
      clear z0 hMb hne hpre
      replace hmb := Lib.hid hmb
      replace hik := Lib.hid hik
      replace hssn := Lib.hid hssn
      go_wp2_with (at_range; refine wpList_rangeK _ under66 rfl _ rfl am all rfl hM ?_; intro w7 hit hb7; go_frame)
      have hb77 := bStep hb hb7
      have hG7 := hG.step hb77
      have hbl7 := hb77.mono hlo
      have hnm2 := hb.size
      have hr := hM.lt
      clear hM q5 hb hb7 hb77 z1 k2 k3
      generalize wr.heap.size = r at *
      obtain ⟨T, hT⟩ := hT1.out
      rw [← hT] at hset hT0
      have hG8 : GS lo Bm Bs bo Bl Bg n most mbs (ss.set j T) false gr w7 := by rw [hset.out]; exact hG7
      replace hT := Lib.hid hT
      clear hG7 hT1
      go_loopg [18] all.length (fun gk s18 wr => ∃ (out cur : List (List Int)) (g4 : Bool), out.length + gk = all.length ∧ IterK textKey wr am r all out ∧ GS lo Bm Bs bo Bl Bg n most mbs (ss.set j cur) false g4 wr ∧ Below lo w wr ∧ Hid (∀ z, z ∈ cur ↔ z ∈ T ∨ z ∈ out) ∧ Hid ((g4 = gr ∧ cur = T ∧ ∀ z ∈ out, z ∈ T) ∨ (g4 = true ∧ T.length < cur.length)))
      case atStart => exact ⟨[], T, gr, by simp, hit, hG8, hbl7, Lib.hid (by simp), Lib.hid (.inl ⟨rfl, rfl, by simp⟩)⟩
      case round =>
        clear hit hG8 hbl7
        obtain ⟨out, cur, g4, hlo2, hit, hGr, hb, hcur, hgr⟩ := hrel
        replace hlo2 := Lib.hid hlo2
        have hMc : MapK textKey wr mb cur := by
          obtain ⟨m', e1, _, e3, _⟩ := hGr.2.2.1.get (i := j) (by have := hssn.out; simp; omega)
          have : m' = mb := by have := hmb.out; rw [this] at e1; injection e1 with e1; exact e1.symm
          subst this
          rwa [List.getD_eq_getElem?_getD, List.getElem?_set_self (by have := hssn.out; omega)] at e3
        go_wp2_with (at_next; refine wpList_nextK _ rfl _ rfl am r all out rfl hit ?_ ?_)
        · intro hal
          have hlen := mapk_len hMc 3
          have f1 := hGr.2.2.2.1.frozen 0
          have f2 : wr.cell? ⟨Bl, 0, none⟩ = some (.bool false) := hGr.2.2.2.1.cell 0
          have f3 := hGr.2.2.2.1.lt
          have hSnd2 : Hid (SndS ps most (setsF (ss.set j cur))) := Lib.hid (snd_set (p := ⟨pl, pr⟩) hsnd.out hp.out (by have := hssn.out; omega) (show pl = 16 + (j : Int) by omega) (fun x hx => (hall.out x).1 hx) (fun z hz => by
            rcases (hcur.out z).1 hz with h | h
            · left; rw [← hT.out]; exact h
            · right; exact hit.parts.2.1 z h))
          have hD : Hid ((g4 = gr ∧ ss.set j cur = ss ∧ ∀ x, Cat (setsF ss) pr x → x.length ≤ most → x ∈ setsF ss pl) ∨ (g4 = true ∧ tot ss < tot (ss.set j cur))) := Lib.hid (by
            rcases hgr.out with ⟨e1, e2, e3⟩ | ⟨e1, e2⟩
            · left
              refine ⟨e1, by rw [e2]; exact hset.out, fun x h1 h2 => ?_⟩
              rw [hT0.out]
              exact e3 x (hal x ((hall.out x).2 ⟨h1, h2⟩))
            · right
              have := tot_set ss j cur (by have := hssn.out; omega)
              rw [← hT.out] at this
              exact ⟨e1, by omega⟩)
          have hnd := hMc.nodup
          have hBig : Hid (600 < cur.length → Big t most) := Lib.hid (fun h => snd_big hSnd2.out hlet.out (a := 16 + (j : Int)) (T := cur) (fun x hx => by rw [setsF_self (by have := hssn.out; omega)]; exact hx) hnd h)
          have hFit : Hid (¬ 600 < cur.length → ∀ u ∈ ss.set j cur, u.length ≤ 600) := Lib.hid (fun h u hu => by
            rcases List.mem_or_eq_of_mem_set hu with h1 | h1
            · exact hfit.out u h1
            · subst h1; omega)
          clear hit hMc hnd
          by_cases h600 : (600 : Int) < cur.length
          · go_wp2_with fail
            go_end0
            exact ⟨ss.set j cur, true, g4, rfl, hGr.setL true, hb.setCell hGr.2.2.2.2.2.2.2.2.1 _, hSnd2.out, fun _ => hBig.out (by omega), fun h => by cases h⟩
          · go_wp2_with fail
            go_end0
            exact ⟨ss.set j cur, false, g4, rfl, hGr.setL false, hb.setCell hGr.2.2.2.2.2.2.2.2.1 _, hSnd2.out, (fun h => by cases h), fun _ => ⟨hFit.out (by omega), hD.out⟩⟩
        · intro x w2 hxs hxo hit2 hen hg2 hsz2
          have hxok : txok x := hit2.parts.2.2.2 x hxs
          have hen' : (Instr.entry (.pointer (some ⟨r, 0, none⟩))).run Tryz.prog w2 = .ok (.tuple #[.agg (txc x), .bool true]) w2 := hen
          have hlen2 := nodup_lenT hit2.parts.1 hit2.parts.2.1
          rw [List.length_append, List.length_singleton] at hlen2
          have hG2 := hGr.grown hg2 hG (by omega)
          have hb2 : Below lo w w2 := hb.grown hg2 (Nat.le_trans hlo hb.size) (fun j hj => by cases hj; omega)
          clear hen hit hGr hb hMc hg2
          replace hsz2 := Lib.hid hsz2
          go_upto_region 28 with (refine wpList_store_row rfl 59 _ _ rfl w2.heap.size (txc x) rfl rfl 59 (txc []) (Blk.new w2 59 (txc [])) size70 rfl (txc_one _) ?_)
          change Code.wp Tryz.prog _ _ _ (layT w2 x)
          have q := layT_blk w2 x
          have hbl := layT_below w2 x
          have hit3 := hit2.step hbl
          have hG3 := hG2.step hbl
          have hb3 : Below lo w (layT w2 x) := hb2.trans (hbl.mono (Nat.le_trans hlo hb2.size))
          clear hit2 hG2 hb2 hbl hen'
          generalize layT w2 x = W1 at *
          generalize w2.heap.size = B4 at *
          have hMc : MapK textKey W1 mb cur := by
            obtain ⟨m', e1, _, e3, _⟩ := hG3.2.2.1.get (i := j) (by have := hssn.out; simp; omega)
            have : m' = mb := by have := hmb.out; rw [this] at e1; injection e1 with e1; exact e1.symm
            subst this
            rwa [List.getD_eq_getElem?_getD, List.getElem?_set_self (by have := hssn.out; omega)] at e3
          by_cases hxm : x ∈ cur
          · have hd : true = true ↔ x ∈ cur := ⟨fun _ => hxm, fun _ => rfl⟩
            replace hd := Lib.hid hd
            have hcur3 : Hid (∀ z, z ∈ cur ↔ z ∈ T ∨ z ∈ out ++ [x]) := Lib.hid (fun z => by
              rw [hcur.out z, List.mem_append, List.mem_singleton]
              constructor
              · rintro (h | h)
                · exact .inl h
                · exact .inr (.inl h)
              · rintro (h | h | rfl)
                · exact .inl h
                · exact .inr h
                · exact (hcur.out z).1 hxm)
            have hgr3 : Hid ((g4 = gr ∧ cur = T ∧ ∀ z ∈ out ++ [x], z ∈ T) ∨ (g4 = true ∧ T.length < cur.length)) := Lib.hid (by
              rcases hgr.out with ⟨e1, e2, e3⟩ | h
              · left
                refine ⟨e1, e2, fun z hz => ?_⟩
                rcases List.mem_append.1 hz with hz | hz
                · exact e3 z hz
                · have : z = x := by simpa using hz
                  subst this; rw [← e2]; exact hxm
              · exact .inr h)
            replace hxm := Lib.hid hxm
            go_wp2_with (first
              | (refine wpList_load_row rfl 59 _ rfl B4 rfl 59 (txc x) (0, 0) _ q underT rfl size70 ?_)
              | (at_lookup; refine wpList_lookK (E := textKey) _ under66 rfl _ _ rfl mb cur x true hd.out rfl rfl hMc hxok ?_))
            go_roundg (all.length - (out.length + 1))
            case measure => have := hlo2.out; omega
            case rel => exact ⟨out ++ [x], cur, g4, by rw [List.length_append, List.length_singleton]; omega, hit3, hG3, hb3, hcur3, hgr3⟩
          · have hd : false = true ↔ x ∈ cur := ⟨fun h => (by cases h), fun h => absurd h hxm⟩
            replace hd := Lib.hid hd
            have hor : (x ∈ cur ∧ cur ++ [x] = cur) ∨ (x ∉ cur ∧ cur ++ [x] = cur ++ [x]) := .inr ⟨hxm, rfl⟩
            have hcur3 : Hid (∀ z, z ∈ cur ++ [x] ↔ z ∈ T ∨ z ∈ out ++ [x]) := Lib.hid (fun z => by
              rw [List.mem_append, hcur.out z, List.mem_append, or_assoc])
            replace hor := Lib.hid hor
            replace hxm := Lib.hid hxm
            have hjl : j < (ss.set j cur).length := by have := hssn.out; simp; omega
            have hmb' := hmb.out
            replace hmb' := Lib.hid hmb'
            replace hjl := Lib.hid hjl
            go_wp2_with (first
              | (refine wpList_load_row rfl 59 _ rfl B4 rfl 59 (txc x) (0, 0) _ q underT rfl size70 ?_)
              | (at_lookup; refine wpList_lookK (E := textKey) _ under66 rfl _ _ rfl mb cur x false hd.out rfl rfl hMc hxok ?_)
              | (at_mapUpdate; refine wpList_layK (E := textKey) _ under66 rfl _ _ _ rfl mb cur (cur ++ [x]) x hor.out rfl rfl rfl hMc hxok ?_; intro w5 hM5 ht5; have hG5 := hG3.put hjl.out hmb'.out ht5 hM5; have f1 := hG5.2.2.2.2.1.frozen 0; have f2 : w5.cell? ⟨Bg, 0, none⟩ = some (.bool g4) := hG5.2.2.2.2.1.cell 0; have f3 := hG5.2.2.2.2.1.lt))
            have hgr3 : Hid ((true = gr ∧ cur ++ [x] = T ∧ ∀ z ∈ out ++ [x], z ∈ T) ∨ (true = true ∧ T.length < (cur ++ [x]).length)) := Lib.hid (.inr ⟨rfl, by
              rw [List.length_append, List.length_singleton]
              rcases hgr.out with ⟨e1, e2, e3⟩ | ⟨h1, h2⟩
              · rw [e2]; omega
              · omega⟩)
            have hg5 := turned_grown ht5
            have hb5 : Below lo w w5 := hb3.grown hg5 (Nat.le_trans hlo hb3.size) (fun j hj => by cases hj; exact hG.2.2.2.2.2.2.2.2.2.2 mb (List.mem_of_getElem? hmb.out))
            rw [List.set_set] at hG5
            have hlts := hG.lts
            have hit5 : IterK textKey w5 am r all (out ++ [x]) := hit3.grown hg5 (fun e => by injection e with e; omega) (fun e => by injection e with e; omega)
            have hit6 : IterK textKey (w5.setCell ⟨Bg, 0, none⟩ (.bool true)) am r all (out ++ [x]) := hit5.grown (setCell_grown w5 Bg 0 (.bool true)) (fun e => by injection e with e; have := hlts.2.2.2.2.1; omega) (fun e => by injection e with e; have := hlts.2.2.2.2.1; omega)
            go_roundg (all.length - (out.length + 1))
            case measure => have := hlo2.out; omega
            case rel => exact ⟨out ++ [x], cur ++ [x], true, by rw [List.length_append, List.length_singleton]; omega, hit6, hG5.setG true, hb5.setCell hG.2.2.2.2.2.2.2.2.2.1 _, hcur3, hgr3⟩
end Go.Proofs.YtlngbphchhbpbaaGreat

/- (derive.text).list. -/
namespace Go.Proofs.YtlngbphchhbpbaaGreat
open Go.ChangeShapes Go.WideShapes Go.ChangeAt Go.RowKit
set_option linter.unusedVariables false

def fillC (x : List Int) (i : Nat) : Array Value := (ints (x.take i) ++ List.replicate (x.length - i) (Value.int .i64 0)).toArray
theorem fillC_zero (x : List Int) : fillC x 0 = madeCells #[.int .i64 0] x.length := by
  apply Array.ext
  · simp [fillC, madeCells, ints]
  · intro i h1 h2
    simp [fillC, madeCells, ints, Nat.mod_one]
theorem fillC_end (x : List Int) : fillC x x.length = (ints x).toArray := by simp [fillC]
theorem fillC_put (x : List Int) (i : Nat) (h : i < x.length) : (fillC x i).setIfInBounds i (.int .i64 (x.getD i 0)) = fillC x (i + 1) := by
  unfold fillC
  rw [List.setIfInBounds_toArray]
  congr 1
  have e : x.length - i = (x.length - (i + 1)) + 1 := by omega
  rw [e, List.replicate_succ, List.set_append_right _ _ (by simp [ints]; omega)]
  have e2 : i - (ints (x.take i)).length = 0 := by simp [ints]; omega
  rw [e2, List.set_cons_zero, take_snocI x i h]
  simp [ints]
/-- what list hands back -/
def RetLs (x : List Int) (w : World) (e : Ending) (w' : World) : Prop :=
  ∃ b, e = .returned (.slice (some ⟨b, 0, none⟩) x.length x.length) ∧ w.heap.size ≤ b ∧ Blk w' b 3 (ints x).toArray ∧ Below w.heap.size w w'

set_option maxRecDepth 100000 in
set_option maxHeartbeats 2000000 in
theorem list_any (x : List Int) (w : World) (hx : txok x) : Calls Tryz.prog 49 #[txv x] w (RetLs x w) := by
  have hP := Lib.hid (fun (b : Nat) (w' : World) h1 h2 h3 => (show RetLs x w (.returned (.slice (some ⟨b, 0, none⟩) x.length x.length)) w' from ⟨b, rfl, h1, h2, h3⟩))
  have hx12 := hx.1
  obtain ⟨i3, hi3, hq0, hq1, hq2⟩ := info_parts info3
  unfold txv
  go_enter Tryz.func49, Tryz.ntmps49
  go_upto_region 1 with (fail)
  have q0 : Blk (w.alloc (.cells (txc x) 59)) w.heap.size 59 (txc x) := Blk.new _ _ _
  have hb : Below w.heap.size w (w.alloc (.cells (txc x) 59)) := bAlc (Below.refl _ _) _
  have hRz : (w.alloc (.cells (txc x) 59)).heap.size = w.heap.size + 1 := by simp
  replace hRz := Lib.hid hRz
  generalize w.alloc (.cells (txc x) 59) = W at *
  have c0 := q0.cell 0
  rw [txc_zero] at c0
  have hzx : (0 : Int) ≤ x.length := by omega
  have under26 : Tryz.prog.underlying 26 = some (.slice 3) := by kernel_rfl
  go_upto_region 2 with (at_make; refine wpList_make_row _ rfl _ _ 26 rfl 3 i3 (.int .i64 0) under26 hi3 hq0 hq1 rfl _ _ x.length rfl rfl (by rw [hq2]; omega) (by omega) ?_)
  have q1 := q0.alloc (.cells (madeCells #[.int .i64 0] x.length) 3)
  have q2 : Blk (W.alloc (.cells (madeCells #[.int .i64 0] x.length) 3)) W.heap.size 3 (fillC x 0) := by rw [fillC_zero]; exact Blk.new _ _ _
  have hb1 := bAlc hb (.cells (madeCells #[.int .i64 0] x.length) 3)
  clear c0 q0 hb
  generalize W.alloc (.cells (madeCells #[.int .i64 0] x.length) 3) = W1 at *
  generalize W.heap.size = R at *
  go_wp2_with fail
  go_loopg [10] x.length (fun gk s10 wr => ∃ i : Nat, s10 = .int .i64 i ∧ i + gk = x.length ∧ Blk wr R 3 (fillC x i) ∧ Blk wr w.heap.size 59 (txc x) ∧ Below w.heap.size w wr)
  case atStart => exact ⟨0, rfl, by omega, q2, q1, hb1⟩
  case round =>
    clear q2 q1 hb1
    obtain ⟨i, rfl, hi, q2, q1, hb⟩ := hrel
    replace hi := Lib.hid hi
    by_cases hin : i < x.length
    · have hi12 : i < 12 := by omega
      have c1 := q1.cell (1 + i)
      rw [txc_get x i hi12] at c1
      have f0 := q2.frozen i
      have hbd := txok_get hx i
      have hfp := fillC_put x i hin
      have hlt := q2.lt
      have q2c := q2.cell i
      have hcc : (fillC x i)[i]? = some (.int .i64 0) := by
        unfold fillC
        have e : i - (ints (x.take i)).length = 0 := by simp [ints]; omega
        rw [List.getElem?_toArray, List.getElem?_append_right (by simp [ints]; omega), e, List.getElem?_replicate, if_pos (by omega)]
      rw [hcc] at q2c
      generalize x.getD i 0 = v at *
      obtain ⟨hv0, hv1⟩ := hbd
      have hz0 : (0 : Int) ≤ i := by omega
      have hz1 : (i : Int) < x.length := by omega
      have hz2 : (i : Int) < 12 := by omega
      replace hfp := Lib.hid hfp
      clear hcc
      go_wp2_with fail
      go_roundg (x.length - (i + 1))
      case measure => have := hi.out; omega
      case rel => exact ⟨i + 1, by go_num, by have := hi.out; omega, by rw [← hfp.out]; exact q2.put i _, q1.far (by have := hRz.out; simp; omega) _, bSet hb _ _ (by have := hRz.out; simp; omega)⟩
    · have hik : i = x.length := by have := hi.out; omega
      subst hik
      rw [fillC_end] at q2
      go_wp2_with fail
      go_ret
      exact hP.out R _ (by have := hRz.out; omega) q2 hb
end Go.Proofs.YtlngbphchhbpbaaGreat

/- cmp.Compare and slices.Compare at ints; the order of the strings. -/
namespace Go.Proofs.YtlngbphchhbpbaaGreat
open Go.ChangeShapes Go.WideShapes Go.ChangeAt Go.RowKit
set_option linter.unusedVariables false

def cmpI : List Int → List Int → Int
  | [], [] => 0
  | [], _ :: _ => -1
  | _ :: _, [] => 1
  | a :: l, b :: m => if a < b then -1 else if b < a then 1 else cmpI l m
theorem cmpI_part : ∀ (l m : List Int) (j : Nat), j < l.length → j < m.length → (∀ i, i < j → l.getD i 0 = m.getD i 0) → l.getD j 0 ≠ m.getD j 0 → cmpI l m = if l.getD j 0 < m.getD j 0 then -1 else 1
  | [], _, _, h, _, _, _ => by simp at h
  | _ :: _, [], _, _, h, _, _ => by simp at h
  | a :: l, b :: m, 0, _, _, _, h => by
    simp at h
    simp only [cmpI, List.getD_cons_zero]
    by_cases h1 : a < b
    · simp [h1]
    · simp [h1, show b < a by omega]
  | a :: l, b :: m, j + 1, h1, h2, h3, h4 => by
    have h0 := h3 0 (by omega)
    simp only [List.getD_cons_zero] at h0
    subst h0
    simp only [cmpI, List.getD_cons_succ, Int.lt_irrefl, if_false] at h4 ⊢
    exact cmpI_part l m j (by simpa using h1) (by simpa using h2) (fun i hi => by have := h3 (i + 1) (by omega); simpa using this) h4
theorem cmpI_all : ∀ (l m : List Int), (∀ i, i < l.length → i < m.length → l.getD i 0 = m.getD i 0) → cmpI l m = if l.length < m.length then -1 else if m.length < l.length then 1 else 0
  | [], [], _ => rfl
  | [], _ :: _, _ => by simp [cmpI]
  | _ :: _, [], _ => by simp [cmpI]
  | a :: l, b :: m, h => by
    have h0 := h 0 (by simp) (by simp)
    simp only [List.getD_cons_zero] at h0
    subst h0
    simp only [cmpI, Int.lt_irrefl, if_false, List.length_cons]
    rw [cmpI_all l m fun i h1 h2 => by have := h (i + 1) (by simpa using h1) (by simpa using h2); simpa using this]
    simp
theorem cmpI_lex : ∀ a b : List Int, cmpI a b = lex a b
  | [], [] => rfl
  | [], _ :: _ => rfl
  | _ :: _, [] => rfl
  | a :: l, b :: m => by unfold cmpI lex; rw [cmpI_lex l m]
theorem isnan_any (x : Int) (w : World) : Calls Tryz.prog 63 #[.int .i64 x] w fun e w' => e = .returned (.bool false) ∧ w = w' := by
  go_enter Tryz.func63, Tryz.ntmps63
  go_wp2_with fail
  go_ret
  exact ⟨by simp, rfl⟩

def cmp1 (x y : Int) : Int := if x < y then -1 else if y < x then 1 else 0
theorem cmp1_any (x y : Int) (w : World) : Calls Tryz.prog 39 #[.int .i64 x, .int .i64 y] w fun e w' => e = .returned (.int .i64 (cmp1 x y)) ∧ w = w' := by
  have hn := Lib.hid isnan_any
  unfold cmp1
  by_cases h1 : x < y
  · rw [if_pos h1]
    go_enter Tryz.func39, Tryz.ntmps39
    go_wp2_with (go_at_call 63; refine (hn.out _ _).mono ?_; rintro e w1 ⟨rfl, rfl⟩)
    go_ret
    exact ⟨rfl, rfl⟩
  · rw [if_neg h1]
    by_cases h2 : y < x
    · rw [if_pos h2]
      go_enter Tryz.func39, Tryz.ntmps39
      go_wp2_with (go_at_call 63; refine (hn.out _ _).mono ?_; rintro e w1 ⟨rfl, rfl⟩)
      go_ret
      exact ⟨rfl, rfl⟩
    · rw [if_neg h2]
      go_enter Tryz.func39, Tryz.ntmps39
      go_wp2_with (go_at_call 63; refine (hn.out _ _).mono ?_; rintro e w1 ⟨rfl, rfl⟩)
      go_ret
      exact ⟨rfl, rfl⟩

set_option maxHeartbeats 1000000 in
theorem slicescmp_any (A1 A2 : Option Addr) (n1 n2 c1 c2 : Nat) (t u : List Int) (w : World) (B : Nat) (ha : Rd1 w B A1 n1 (ints t)) (hb : Rd1 w B A2 n2 (ints u)) (hn1 : n1 ≤ 1000000) (hn2 : n2 ≤ 1000000) :
    Calls Tryz.prog 22 #[.slice A1 n1 c1, .slice A2 n2 c2] w fun e w' => e = .returned (.int .i64 (cmpI t u)) ∧ w = w' := by
  have hl1 : t.length = n1 := by have := ha.1; simpa [ints] using this
  have hl2 : u.length = n2 := by have := hb.1; simpa [ints] using this
  have hQ := Lib.hid (cmpI_part t u)
  have hL := Lib.hid (cmpI_all t u)
  have hn := Lib.hid cmp1_any
  obtain ⟨R, hR⟩ : ∃ R, R = cmpI t u := ⟨_, rfl⟩
  rw [← hR] at hQ hL ⊢
  clear hR
  replace hl1 := Lib.hid hl1
  replace hl2 := Lib.hid hl2
  go_enter Tryz.func22, Tryz.ntmps22
  go_wp2_with fail
  go_loopg [11] n1 (fun gk s11 wr => ∃ j : Nat, s11 = .int .i64 j ∧ j + gk = n1 ∧ j ≤ n2 ∧ Hid (∀ i, i < j → t.getD i 0 = u.getD i 0) ∧ w = wr)
  case atStart => exact ⟨0, rfl, by omega, by omega, Lib.hid (by intro i h; omega), rfl⟩
  case round =>
    obtain ⟨j, rfl, hj, hj2, hE, rfl⟩ := hrel
    replace hj := Lib.hid hj
    by_cases hjn : j < n1
    · have hjt : j < t.length := by have := hl1.out; omega
      have hxi : (ints t)[j]? = some (.int .i64 t[j]) := by simp [ints, hjt]
      have hgx : t.getD j 0 = t[j] := by simp [List.getD_eq_getElem?_getD, hjt]
      obtain ⟨b1, off1, rfl, hbt1, x0⟩ := ha.get hxi
      generalize t[j] = x at *
      have hz1 : (0 : Int) ≤ j := by omega
      have hz2 : (j : Int) < n1 := by omega
      replace hxi := Lib.hid hxi
      replace hgx := Lib.hid hgx
      by_cases hju : j < n2
      · have hjt2 : j < u.length := by have := hl2.out; omega
        have hyi : (ints u)[j]? = some (.int .i64 u[j]) := by simp [ints, hjt2]
        have hgy : u.getD j 0 = u[j] := by simp [List.getD_eq_getElem?_getD, hjt2]
        obtain ⟨b2, off2, rfl, hbt2, y0⟩ := hb.get hyi
        generalize u[j] = y at *
        have hz3 : (j : Int) < n2 := by omega
        replace hyi := Lib.hid hyi
        replace hgy := Lib.hid hgy
        by_cases hxy : x = y
        · subst hxy
          have hcc : Hid (cmp1 x x = 0) := Lib.hid (by simp [cmp1])
          have hE2 : Hid (∀ i, i < j + 1 → t.getD i 0 = u.getD i 0) := Lib.hid (fun i hi => by
            rcases Nat.lt_succ_iff_lt_or_eq.1 hi with h | rfl
            · exact hE.out i h
            · rw [hgx.out, hgy.out])
          go_wp2_with (go_at_call 39; refine (hn.out _ _ _).mono ?_; rintro e w1 ⟨rfl, rfl⟩; rw [hcc.out])
          go_roundg (n1 - (j + 1))
          case measure => have := hj.out; omega
          case rel => exact ⟨j + 1, by go_num, by have := hj.out; omega, by omega, hE2, rfl⟩
        · have hR2 : R = cmp1 x y := by
            rw [hQ.out j hjt hjt2 hE.out (by rw [hgx.out, hgy.out]; exact hxy), hgx.out, hgy.out]
            unfold cmp1
            by_cases h : x < y
            · rw [if_pos h, if_pos h]
            · rw [if_neg h, if_neg h, if_pos (by omega)]
          have hc0 : (R == 0) = false := by rw [hR2]; unfold cmp1; split <;> (try split) <;> simp; omega
          have hc1 : (R != 0) = true := by simpa using hc0
          replace hR2 := Lib.hid hR2
          clear hxy
          go_wp2_with (go_at_call 39; refine (hn.out _ _ _).mono ?_; rintro e w1 ⟨rfl, rfl⟩; rw [← hR2.out])
          go_ret
          exact ⟨rfl, rfl⟩
      · have hR2 : R = 1 := by
          rw [hL.out (fun i h1 h2 => hE.out i (by have := hl2.out; omega)), if_neg (by have := hl2.out; omega), if_pos (by have := hl2.out; omega)]
        subst hR2
        have hz3 : (n2 : Int) ≤ j := by omega
        go_wp2_with fail
        go_ret
        exact ⟨rfl, rfl⟩
    · have hR1 : R = if n1 < n2 then -1 else 0 := by
        rw [hL.out (fun i h1 h2 => hE.out i (by have := hl1.out; omega)), hl1.out, hl2.out]
        by_cases h : n1 < n2
        · rw [if_pos h, if_pos h]
        · rw [if_neg h, if_neg h, if_neg (by have := hj.out; omega)]
      by_cases h12 : n1 < n2
      · rw [if_pos h12] at hR1
        subst hR1
        go_wp2_with fail
        go_ret
        exact ⟨rfl, rfl⟩
      · rw [if_neg h12] at hR1
        subst hR1
        go_wp2_with fail
        go_ret
        exact ⟨rfl, rfl⟩


/-- derive.sorted's order -/
theorem tcmp_any (A1 A2 : Option Addr) (n1 n2 c1 c2 : Nat) (t u : List Int) (w : World) (B : Nat) (ha : Rd1 w B A1 n1 (ints t)) (hb : Rd1 w B A2 n2 (ints u)) (hn1 : n1 ≤ 1000000) (hn2 : n2 ≤ 1000000) :
    Calls Tryz.prog 51 #[.slice A1 n1 c1, .slice A2 n2 c2] w fun e w' => e = .returned (.int .i64 (tcmp t u)) ∧ w = w' := by
  have hl1 : t.length = n1 := by have := ha.1; simpa [ints] using this
  have hl2 : u.length = n2 := by have := hb.1; simpa [ints] using this
  have hC := Lib.hid (slicescmp_any A1 A2 n1 n2 c1 c2 t u w B ha hb hn1 hn2)
  have hn := Lib.hid cmp1_any
  have hR : tcmp t u = if cmp1 n1 n2 = 0 then lex t u else cmp1 n1 n2 := by
    unfold tcmp cmp1
    rw [hl1, hl2]
    by_cases h1 : n1 < n2
    · have e1 : (n1 : Int) < n2 := by omega
      simp [h1]
    · by_cases h2 : n2 < n1
      · have e1 : ¬ (n1 : Int) < n2 := by omega
        have e2 : (n2 : Int) < n1 := by omega
        simp [h1, h2]
      · have e1 : ¬ (n1 : Int) < n2 := by omega
        have e2 : ¬ (n2 : Int) < n1 := by omega
        simp [h1, h2]
  rw [cmpI_lex] at hC
  obtain ⟨R, hRR⟩ : ∃ R, R = cmp1 (n1 : Int) n2 := ⟨_, rfl⟩
  rw [← hRR] at hR
  replace hRR := Lib.hid hRR
  clear ha hb hl1 hl2
  rw [hR]
  clear hR
  by_cases h0 : R = 0
  · subst h0
    rw [if_pos rfl]
    go_enter Tryz.func51, Tryz.ntmps51
    go_wp2_with (first
      | (go_at_call 39; refine (hn.out _ _ _).mono ?_; rintro e w1 ⟨rfl, rfl⟩; rw [← hRR.out])
      | (go_at_call 22; refine hC.out.mono ?_; rintro e w1 ⟨rfl, rfl⟩))
    go_ret
    exact ⟨rfl, rfl⟩
  · rw [if_neg h0]
    have h1 : (R == 0) = false := by simpa using h0
    have h2 : (R != 0) = true := by simpa using h0
    go_enter Tryz.func51, Tryz.ntmps51
    go_wp2_with (go_at_call 39; refine (hn.out _ _ _).mono ?_; rintro e w1 ⟨rfl, rfl⟩; rw [← hRR.out])
    go_ret
    exact ⟨rfl, rfl⟩
end Go.Proofs.YtlngbphchhbpbaaGreat

/- slices.SortFunc at the strings of a set. -/
namespace Go.Proofs
open Go.Shelf
shelf_lay_g SlLaysF.n6 Slsf 6 at Tryz 50 as Tryz.sortL
shelf_lay_g SlLaysF0.n6 Slsf 6 at Tryz 50 as Tryz.sortL0
end Go.Proofs
namespace Go.Proofs.YtlngbphchhbpbaaGreat
open Go.ChangeShapes Go.WideShapes Go.ChangeAt Go.RowKit Go.Sort Go.Shelf
set_option linter.unusedVariables false

/-- the strings of a list -/
abbrev RT (out : List (List Int)) := { x : List Int // x ∈ out }
def tsl (addr : List Int → Nat) (x : List Int) : Value := .slice (some ⟨addr x, 0, none⟩) x.length x.length
def encT {out : List (List Int)} (addr : List Int → Nat) (x : RT out) : Value := tsl addr x.1
def cfT {out : List (List Int)} (x y : RT out) : Int := tcmp x.1 y.1
theorem encT_one {out : List (List Int)} (addr : List Int → Nat) : OneCell (encT (out := out) addr) := fun x => rfl
theorem ltT {out : List (List Int)} (x y : RT out) : ltOf cfT x y = decide (tcmp x.1 y.1 < 0) := rfl
theorem swoT {out : List (List Int)} : SWO (ltOf (cfT (out := out))) where
  irrefl x := by rw [ltT, tcmp_refl]; rfl
  trans x y z h1 h2 := by
    rw [ltT] at *
    simp at *
    have a1 : tcmp x.1 y.1 = -1 := by rcases tcmp_vals x.1 y.1 with h | h | h <;> omega
    have a2 : tcmp y.1 z.1 = -1 := by rcases tcmp_vals y.1 z.1 with h | h | h <;> omega
    rw [tcmp_trans a1 a2]; omega
  ntrans x y z h1 h2 := by
    rw [ltT] at *
    simp at *
    rcases tcmp_vals x.1 z.1 with h | h | h
    · rcases tcmp_vals x.1 y.1 with g1 | g1 | g1
      · omega
      · have := tcmp_eq g1; rw [this] at h; omega
      · rcases tcmp_vals y.1 z.1 with g2 | g2 | g2
        · omega
        · have := tcmp_eq g2; rw [← this] at h; omega
        · have e1 : tcmp y.1 x.1 = -1 := by rw [tcmp_anti]; omega
          have e2 : tcmp z.1 y.1 = -1 := by rw [tcmp_anti]; omega
          have := tcmp_trans e2 e1
          rw [tcmp_anti] at this; omega
    · omega
    · omega
theorem totT {out : List (List Int)} (x y : RT out) (h1 : ltOf cfT x y = false) (h2 : ltOf cfT y x = false) : x = y := by
  rw [ltT] at *
  simp at h1 h2
  rw [tcmp_anti] at h2
  exact Subtype.ext (tcmp_eq (by omega))

theorem sorted_asc (out : List (List Int)) (hn : out.Nodup) : ∃ L : List (RT out), L = ((out.attach).mergeSort fun x y => !(ltOf cfT) y x) ∧ AscT (L.map (·.1)) ∧ (L.map (·.1)).Perm out := by
  refine ⟨_, rfl, ?_⟩
  have hp := List.mergeSort_perm (out.attach : List (RT out)) (fun x y => !(ltOf cfT) y x)
  have hw := List.pairwise_mergeSort (le := fun (x y : RT out) => !(ltOf cfT) y x) (fun a b c h1 h2 => by
      simp only [Bool.not_eq_true'] at *
      exact swoT.ntrans c b a h2 h1) (fun a b => by
      cases hh : ltOf cfT b a with
      | false => simp
      | true =>
        have : ltOf cfT a b = false := by
          cases h3 : ltOf cfT a b with
          | false => rfl
          | true => have := swoT.trans _ _ _ hh h3; rw [swoT.irrefl] at this; cases this
        simp [this]) (out.attach : List (RT out))
  generalize (out.attach : List (RT out)).mergeSort (fun x y => !(ltOf cfT) y x) = m at *
  have hpm : (m.map (·.1)).Perm out := by
    have := hp.map (fun x : RT out => x.1)
    have e : (out.attach).map (fun x : RT out => x.1) = out := List.attach_map_subtype_val out
    rwa [e] at this
  have hnd : (m.map (·.1)).Nodup := hpm.nodup_iff.2 hn
  have hnd2 : m.Pairwise (fun x y => x.1 ≠ y.1) := List.pairwise_map.1 hnd
  refine ⟨?_, hpm⟩
  unfold AscT
  rw [List.pairwise_map]
  refine (hw.and hnd2).imp fun {x y} hxy => ?_
  obtain ⟨h1, h2⟩ := hxy
  rw [ltT] at h1
  simp at h1
  rcases tcmp_vals x.1 y.1 with g | g | g
  · exact g
  · exact absurd (tcmp_eq g) h2
  · rw [tcmp_anti] at h1; omega

/-- the slice sorted -/
theorem sortT_any (out : List (List Int)) (addr : List Int → Nat) (v : Value) (base : Nat) (w : World) (hn : out.Nodup) (hlen : out.length ≤ 1000000) (ho : w.ownsRow base 26 1 v out.length (out.map (tsl addr)))
    (hB : ∀ x ∈ out, x.length ≤ 1000000 ∧ Blk w (addr x) 3 (ints x).toArray ∧ some (addr x) ≠ v.ownBlock) :
    Calls Tryz.prog 50 #[v, .func (.func 51) #[] #[]] w fun e w' => e = .returned (.tuple #[]) ∧ ∃ L, AscT L ∧ L.Perm out ∧ w'.ownsRow base 26 1 v L.length (L.map (tsl addr)) ∧ w.grownBy w' v.ownBlock := by
  by_cases h0 : out = []
  · subst h0
    have hv : ∃ p cap, v = .slice p 0 cap := by
      rcases ho.2 with ⟨rfl, _⟩ | ⟨g, cap, cur, rfl, _⟩
      · exact ⟨none, 0, rfl⟩
      · exact ⟨_, cap, rfl⟩
    obtain ⟨p, cap, rfl⟩ := hv
    refine (AnyF.slices_SortFunc_none Tryz.sortL0 p cap (.func (.func 51) #[] #[]) w).mono ?_
    rintro e w' ⟨rfl, rfl⟩
    exact ⟨rfl, [], List.Pairwise.nil, List.Perm.refl _, ho, ⟨rfl, rfl, rfl, Nat.le_refl _, fun _ _ _ => rfl⟩⟩
  · rcases ho.2 with ⟨rfl, h1⟩ | ⟨g, cap, cur, rfl, hbase, hb, h1, h2, h3, h4⟩
    · exact absurd (List.eq_nil_of_length_eq_zero h1) h0
    · have hg : g < w.heap.size := (Array.getElem?_eq_some_iff.1 hb).1
      haveI : Inhabited (RT out) := ⟨⟨out.head h0, List.head_mem h0⟩⟩
      have hms : (out.attach : List (RT out)).length = out.length := List.length_attach
      have hd : (out.attach : List (RT out)).toArray.size = out.length := by simp
      have hget : ∀ j, j < out.length → (encT addr ((out.attach : List (RT out)).toArray[j]!)) = tsl addr (out.getD j []) := by
        intro j hj
        rw [getElem!_pos _ j (by rw [hd]; exact hj)]
        simp [encT, List.getD_eq_getElem?_getD, hj]
      have hH : Holds (encT addr) w g 0 (out.attach : List (RT out)).toArray := by
        intro j hj
        rw [hd] at hj
        rw [hget j hj]
        refine ⟨?_, by simp [World.frozen?, hb]⟩
        have e1 : (cur.toList.take (out.length * 1))[j]? = (out.map (tsl addr))[j]? := by rw [h4]
        rw [List.getElem?_take_of_lt (by omega), List.getElem?_map, List.getElem?_eq_getElem hj] at e1
        simp only [World.cell?, hb, Nat.zero_add, Option.isSome_none, Bool.false_eq_true, if_false]
        rw [← Array.getElem?_toList, e1]
        simp [List.getD_eq_getElem?_getD, hj]
      have hcmp : CmpLays1 Tryz.prog 51 #[] (encT (out := out) addr) cfT g 0 (out.attach : List (RT out)).toArray.size w := by
        intro m os dk _ x y
        have hr : ∀ z : RT out, Rd1 (sortWorld (encT addr) w g 0 m dk os) w.heap.size (some ⟨addr z.1, 0, none⟩) z.1.length (ints z.1) := by
          intro z
          obtain ⟨_, hz, hne⟩ := hB z.1 z.2
          have hlt := hz.lt
          have hne' : g ≠ addr z.1 := fun e => hne (by rw [e]; rfl)
          have hq : Blk (sortWorld (encT addr) w g 0 m dk os) (addr z.1) 3 (ints z.1).toArray := by
            unfold Blk sortWorld putRow mapBlock
            rw [heap_grow_old _ _ (by simpa [Sort.ahead] using hlt)]
            simp only [Sort.ahead, Array.getElem?_modify]
            rw [if_neg hne']
            exact hz
          refine ⟨by simp [ints], .inr ⟨_, 0, rfl, hlt, fun i u hu => ?_⟩⟩
          rw [Nat.zero_add, hq.cell]
          simpa using hu
        refine (tcmp_any _ _ _ _ _ _ x.1 y.1 _ _ (hr x) (hr y) (hB x.1 x.2).1 (hB y.1 y.2).1).mono ?_
        rintro e w' ⟨rfl, rfl⟩
        exact ⟨rfl, 0, #[], by rw [grow_empty]; rfl⟩
      have eg : ∀ args w, (callFunc 51 args).run Tryz.prog w = .ok (.enter 51 args) w := enters_of Tryz.func51 (by kernel_rfl) rfl
      have hcon := Any.slices_SortFunc_total Tryz.sortL (encT addr) (encT_one addr) cfT swoT 51 #[] g 0 cap (out.attach : List (RT out)).toArray w eg hcmp hH hg (by rw [hd]; omega) totT
      rw [hd] at hcon
      refine Calls.mono hcon ?_
      rintro e w' ⟨rfl, n, os, rfl⟩
      obtain ⟨L, hL, ha, hp⟩ := sorted_asc out hn
      have e1 : (out.attach : List (RT out)).toArray.toList = out.attach := rfl
      rw [e1, ← hL]
      have hLl : L.length = out.length := by have := hp.length_eq; simpa using this
      refine ⟨rfl, L.map (·.1), ha, hp, ⟨by simp, .inr ⟨g, cap, putCells (encT addr) 0 L.toArray cur, by simp [hLl], hbase, ?_, by simp; omega, h2, by simp [putCells, h3], ?_⟩⟩, ⟨rfl, rfl, rfl, by simp [sortWorld, putRow, mapBlock, Sort.ahead, grow], fun k hk hne => ?_⟩⟩
      · unfold sortWorld
        rw [heap_grow_old _ _ (by simpa [putRow, mapBlock, Sort.ahead] using hg)]
        simp [putRow, mapBlock, Sort.ahead, Array.getElem?_modify, hb, onCells]
      · apply List.ext_getElem?
        intro j
        by_cases hj : j < out.length
        · have hjc : j < cur.size := by rw [h3]; omega
          rw [List.getElem?_take_of_lt (by simp [hLl]; omega), Array.getElem?_toList]
          have hjL : j < L.length := by omega
          simp [putCells, hLl, hj, hjc, hjL, encT]
        · rw [List.getElem?_take_eq_none (by simp [hLl]; omega), List.getElem?_eq_none (by simp [hLl]; omega)]
      · unfold sortWorld
        rw [heap_grow_old _ _ (by simpa [putRow, mapBlock, Sort.ahead] using hk)]
        have : g ≠ k := fun e => hne (by rw [← e]; rfl)
        simp [putRow, mapBlock, Sort.ahead, Array.getElem?_modify, this]
end Go.Proofs.YtlngbphchhbpbaaGreat

/- derive.sorted. -/
namespace Go.Proofs.YtlngbphchhbpbaaGreat
open Go.ChangeShapes Go.WideShapes Go.ChangeAt Go.RowKit
set_option linter.unusedVariables false

/-- an own slice of own slices -/
def OwnTT (W : World) (base : Nat) (v : Value) (L : List (List Int)) (addr : List Int → Nat) : Prop :=
  W.ownsRow base 26 1 v L.length (L.map (tsl addr)) ∧ ∀ x ∈ L, x.length ≤ 12 ∧ base ≤ addr x ∧ Blk W (addr x) 3 (ints x).toArray ∧ some (addr x) ≠ v.ownBlock
theorem OwnTT.nil (W : World) (base : Nat) (addr : List Int → Nat) : OwnTT W base (.slice none 0 0) [] addr := ⟨⟨rfl, .inl ⟨rfl, rfl⟩⟩, by simp⟩
theorem owns_step {w w' : World} {base : Nat} {e : TypeId} {size : Nat} {v : Value} {n : Nat} {xs : List Value} (h : w.ownsRow base e size v n xs) (hb : Below w.heap.size w w') : w'.ownsRow base e size v n xs := by
  refine ⟨h.1, ?_⟩
  rcases h.2 with hn | ⟨g, cap, cur, rfl, hg0, hg, rest⟩
  · exact .inl hn
  · exact .inr ⟨g, cap, cur, rfl, hg0, (hb.block g (Array.getElem?_eq_some_iff.1 hg).1).trans hg, rest⟩
theorem OwnTT.step {W W' : World} {base : Nat} {v : Value} {L : List (List Int)} {addr : List Int → Nat} (h : OwnTT W base v L addr) (hb : Below W.heap.size W W') : OwnTT W' base v L addr :=
  ⟨owns_step h.1 hb, fun x hx => ⟨(h.2 x hx).1, (h.2 x hx).2.1, (h.2 x hx).2.2.1.step hb, (h.2 x hx).2.2.2⟩⟩
theorem OwnTT.grown {W W' : World} {base : Nat} {v : Value} {L : List (List Int)} {addr : List Int → Nat} {r : Nat} (h : OwnTT W base v L addr) (hg : W.grownBy W' (some r)) (hr : r < base) : OwnTT W' base v L addr :=
  ⟨World.ownsRow.kept h.1 hg (.inr (fun e => by have := (own_in h.1 _ e).1; omega)), fun x hx => ⟨(h.2 x hx).1, (h.2 x hx).2.1, (h.2 x hx).2.2.1.grown hg (by have := (h.2 x hx).2.1; intro e; injection e with e; omega), (h.2 x hx).2.2.2⟩⟩
theorem OwnTT.mono {W : World} {base base' : Nat} {v : Value} {L : List (List Int)} {addr : List Int → Nat} (h : OwnTT W base v L addr) (hb : base' ≤ base) : OwnTT W base' v L addr := by
  refine ⟨⟨h.1.1, ?_⟩, fun x hx => ⟨(h.2 x hx).1, by have := (h.2 x hx).2.1; omega, (h.2 x hx).2.2⟩⟩
  rcases h.1.2 with h0 | ⟨g, cap, cur, e, h1, h2⟩
  · exact .inl h0
  · exact .inr ⟨g, cap, cur, e, by omega, h2⟩
theorem OwnTT.push {W W' : World} {base b : Nat} {v v' : Value} {L : List (List Int)} {addr : List Int → Nat} {x : List Int} (h : OwnTT W base v L addr) (hx : x ∉ L) (h12 : x.length ≤ 12) (hq : Blk W b 3 (ints x).toArray) (hb : base ≤ b) (hne : some b ≠ v.ownBlock)
    (ho : W'.ownsRow base 26 1 v' (L.length + 1) (L.map (tsl addr) ++ [.slice (some ⟨b, 0, none⟩) x.length x.length])) (hg : W.grownBy W' v.ownBlock) (hv : v'.ownBlock = v.ownBlock ∨ ∃ k, v'.ownBlock = some k ∧ W.heap.size ≤ k) :
    OwnTT W' base v' (L ++ [x]) (fun y => if y = x then b else addr y) := by
  have hmap : (L ++ [x]).map (tsl (fun y => if y = x then b else addr y)) = L.map (tsl addr) ++ [.slice (some ⟨b, 0, none⟩) x.length x.length] := by
    rw [List.map_append]
    congr 1
    · refine List.map_congr_left fun y hy => ?_
      have hyx : y ≠ x := fun e => hx (e ▸ hy)
      simp only [tsl, if_neg hyx]
    · simp [tsl]
  refine ⟨by rw [hmap, List.length_append, List.length_singleton]; exact ho, fun y hy => ?_⟩
  rcases List.mem_append.1 hy with hy | hy
  · obtain ⟨a0, a1, a2, a3⟩ := h.2 y hy
    have hyx : y ≠ x := fun e => hx (e ▸ hy)
    simp only [if_neg hyx]
    refine ⟨a0, a1, a2.grown hg a3, ?_⟩
    rcases hv with hv | ⟨k, hv, hk⟩
    · rw [hv]; exact a3
    · rw [hv]; have := a2.lt; intro e; injection e with e; omega
  · have : y = x := by simpa using hy
    subst this
    simp only [if_true]
    refine ⟨h12, hb, hq.grown hg hne, ?_⟩
    rcases hv with hv | ⟨k, hv, hk⟩
    · rw [hv]; exact hne
    · rw [hv]; have := hq.lt; intro e; injection e with e; omega
theorem info26 : (Tryz.prog.info? 26).map (fun i => (i.zero, i.size, i.bytes)) = some (some (.slice none 0 0), 1, 24) := by kernel_rfl
theorem under41 : Tryz.prog.underlying 39 = some (.slice 26) := by kernel_rfl

/-- what sorted hands back -/
def RetTT (s : List (List Int)) (w : World) (e : Ending) (w' : World) : Prop :=
  ∃ v L addr, e = .returned v ∧ AscT L ∧ (∀ x, x ∈ L ↔ x ∈ s) ∧ OwnTT w' w.heap.size v L addr ∧ Below w.heap.size w w'

set_option maxRecDepth 100000 in
set_option maxHeartbeats 4000000 in
theorem sorted_any (b : Nat) (s : List (List Int)) (w : World) (hm : MapK textKey w b s) (hlen : s.length ≤ 900000) : Calls Tryz.prog 32 #[.map (some b)] w (RetTT s w) := by
  have hP := Lib.hid (fun (v : Value) (w' : World) (L : List (List Int)) (addr : List Int → Nat) h1 h2 h3 h4 => (show RetTT s w (.returned v) w' from ⟨v, L, addr, rfl, h1, h2, h3, h4⟩))
  have hS := Lib.hid sortT_any
  have hb := hm.lt
  go_enter Tryz.func32, Tryz.ntmps32
  go_wp2_with (at_range; refine wpList_rangeK _ under66 rfl _ rfl b s rfl hm ?_; intro w1 hit hb1; go_frame)
  have hsz : w.heap.size < w1.heap.size := hit.lt.2
  clear hm
  go_loopg [3] s.length (fun gk s3 wr => ∃ (out : List (List Int)) (addr : List Int → Nat), out.length + gk = s.length ∧ OwnTT wr (w.heap.size + 1) s3 out addr ∧ IterK textKey wr b w.heap.size s out ∧ Below w.heap.size w wr ∧ w.heap.size < wr.heap.size)
  case atStart => exact ⟨[], fun _ => 0, by simp, OwnTT.nil _ _ _, hit, hb1, hsz⟩
  case round =>
    clear hit hb1 hsz
    obtain ⟨out, addr, hlo, ho, hit, hbw, hsz⟩ := hrel
    replace hlo := Lib.hid hlo
    go_wp2_with (at_next; refine wpList_nextK _ rfl _ rfl b w.heap.size s out rfl hit ?_ ?_)
    · intro hall
      obtain ⟨hn, hsub, hns, hok⟩ := hit.parts
      have hol : out.length ≤ 1000000 := by have := hlo.out; omega
      have hsB := Lib.hid (fun x hx => (⟨by have := (ho.2 x hx).1; omega, (ho.2 x hx).2.2⟩ : x.length ≤ 1000000 ∧ Blk wr (addr x) 3 (ints x).toArray ∧ some (addr x) ≠ u3.ownBlock))
      go_wp2_with (go_at_call 50; refine (hS.out out addr u3 (w.heap.size + 1) wr hn hol ho.1 hsB.out).mono ?_; rintro e w3 ⟨rfl, L, hA, hp, ho3, hg3⟩)
      go_ret
      refine hP.out _ _ L addr hA (fun x => ⟨fun h => hsub x (hp.mem_iff.1 h), fun h => hp.mem_iff.2 (hall x h)⟩) (OwnTT.mono ⟨ho3, fun x hx => ?_⟩ (by omega)) (hbw.grown hg3 hbw.size (fun k hk => by have := (own_in ho.1 k hk).1; omega))
      obtain ⟨a0, a1, a2, a3⟩ := ho.2 x (hp.mem_iff.1 hx)
      exact ⟨a0, a1, a2.grown hg3 a3, a3⟩
    · intro x w2 hxs hxo hit2 hen hg2 hsz2
      have hxok : txok x := hit2.parts.2.2.2 x hxs
      have ho2 := ho.grown hg2 (by omega)
      have hb2 : Below w.heap.size w w2 := hbw.grown hg2 hbw.size (fun k hk => by cases hk; exact Nat.le_refl _)
      have hol : out.length < 1000000 := by have := hlo.out; omega
      have hlen2 := nodup_lenT hit2.parts.1 hit2.parts.2.1
      rw [List.length_append, List.length_singleton] at hlen2
      have hsz3 : w.heap.size < w2.heap.size := by omega
      have hen' : (Instr.entry (.pointer (some ⟨w.heap.size, 0, none⟩))).run Tryz.prog w2 = .ok (.tuple #[.agg (txc x), .bool true]) w2 := hen
      replace hsz2 := Lib.hid hsz2
      clear hen hit ho hbw hsz hg2
      go_upto_region 5 with (refine wpList_store_row rfl 59 _ _ rfl w2.heap.size (txc x) rfl rfl 59 (txc []) (Blk.new w2 59 (txc [])) size70 rfl (txc_one _) ?_)
      change Code.wp Tryz.prog _ _ _ (layT w2 x)
      have q := layT_blk w2 x
      have hbl := layT_below w2 x
      have hit3 := hit2.step hbl
      have ho3 := ho2.step hbl
      have hb3 := bStep hb2 hbl
      have hsz4 := Nat.lt_of_lt_of_le hsz3 hbl.size
      clear hit2 hb2 hbl hen' ho2 hsz3
      generalize layT w2 x = W1 at *
      generalize w2.heap.size = B4 at *
      have hlist := Lib.hid (list_any x W1 hxok)
      unfold txv at hlist
      go_wp2_with (first
        | (refine wpList_load_row rfl 59 _ rfl B4 rfl 59 (txc x) (0, 0) _ q underT rfl size70 ?_)
        | (go_at_call 49; refine hlist.out.mono ?_; rintro e w3 ⟨nb, rfl, hnb, hq3, hb31⟩)
        | (at_builtin; refine wpList_push _ rfl _ _ 39 rfl (w.heap.size + 1) 26 (.slice none 0 0) 1 24 under41 info26 rfl (by omega) _ out.length (out.map (tsl addr)) rfl (ho3.step (bAlc hb31 _)).1 _ _ rfl (Blk.new _ _ _) rfl (by simp [Value.oneCell']) hol (by omega) (by have := hb31.size; simp; omega) ?_; intro v' w5 ho5 hg5 hat5 hb5))
      have hb4 : Below W1.heap.size W1 (w3.alloc (.cells #[.slice (some ⟨nb, 0, none⟩) x.length x.length] 26)) := bAlc hb31 _
      have hbo : ∀ k, u3.ownBlock = some k → w.heap.size + 1 ≤ k ∧ k < W1.heap.size := own_in ho3.1
      have hbo2 : some nb ≠ u3.ownBlock := fun e => by have := (hbo nb e.symm).2; omega
      have ho6 := (ho3.step hb4).push hxo hxok.1 (hq3.alloc _) (by omega) hbo2 ho5 hg5 (hat5.imp id fun h => ⟨_, h, Nat.le_refl _⟩)
      have hit5 : IterK textKey w5 b w.heap.size s (out ++ [x]) := (hit3.step hb4).grown hg5 (fun e => by have := (hbo b e.symm).1; omega) (fun e => by have := (hbo _ e.symm).1; omega)
      have hz5 := hg5.size
      have hz6 := hb4.size
      go_roundg (s.length - (out.length + 1))
      case measure => have := hlo.out; omega
      case rel => exact ⟨out ++ [x], _, by rw [List.length_append, List.length_singleton]; omega, ho6, hit5, (bStep hb3 hb4).grown hg5 (by have := hb3.size; omega) (fun k hk => by have := (hbo k hk).1; omega), by omega⟩
end Go.Proofs.YtlngbphchhbpbaaGreat

/- slices.All over the productions, at elements that bear what is known of them. -/
namespace Go.Proofs.YtlngbphchhbpbaaGreat
open Go.RowKit Go.Shelf
set_option linter.unusedVariables false
attribute [local go_sem] Oper.semAt_some

def uptoF {β : Type} (f : Nat → β) (k : Nat) : List β := (List.range k).map f
theorem uptoF_succ {β : Type} (f : Nat → β) (k : Nat) : uptoF f (k + 1) = uptoF f k ++ [f k] := by simp [uptoF, List.range_succ]
theorem uptoF_length {β : Type} (f : Nat → β) (k : Nat) : (uptoF f k).length = k := by simp [uptoF]

set_option maxRecDepth 100000 in
set_option maxHeartbeats 2000000 in
theorem allg1_in {β : Type} (f : Nat → β) (encs : β → Array Value) (n : Nat) (hn : 1 ≤ n) (l Bs n₀ : Nat) (A : Option Addr) (len cap : Nat) (vs : List PV) (hlen : len ≤ 1000000) (hf : ∀ k, k < len → encs (f k) = encP (k, vs.getD k default)) (J Jx : List β → World → Prop)
    (hY : ∀ pre x W, J pre W → pre.length < len → YieldAt Fence.wide (n - 1) Tryz.prog l (encs x) W fun e W' =>
      (e = .returned (.bool true) ∧ J (pre ++ [x]) W' ∧ Below n₀ W W') ∨ (e = .returned (.bool false) ∧ Jx (pre ++ [x]) W'))
    (W : World) (hJ : AbidesFrom W.heap.size J) (hn0 : n₀ ≤ W.heap.size) (hBs : W.cell? ⟨Bs, 0, none⟩ = some (.slice A len cap)) (hR : RdV W n₀ A len vs) (h0 : J [] W) :
    CallsIn Fence.wide n Tryz.prog 93 #[.func (.yield l) #[] #[], .pointer (some ⟨Bs, 0, none⟩)] W fun e W' => (∃ v, e = .returned v) ∧
      ((∃ ys, ys = uptoF f len ∧ J ys W') ∨ (∃ pre, (∃ k, k ≤ len ∧ pre = uptoF f k) ∧ Jx pre W')) := by
  refine callsIn_of_wp Tryz.func93 rfl trivial ?_ rfl
  simp only [Tryz.ntmps93, List.size_toArray, List.length_cons, List.length_nil, Nat.reduceAdd, Nat.reduceSub, Array.replicate_succ, Array.replicate_zero, List.push_toArray, List.append_toArray, List.nil_append, List.cons_append]
  gi_wp2
  gi_loopw [7] (fun i wr => ∃ k : Nat, k ≤ len ∧ i = .int .i64 k ∧ J (uptoF f k) wr ∧ Below n₀ W wr ∧ W.heap.size ≤ wr.heap.size)
    (fun i _ => len - (intOf i).toNat)
  case atStart => exact ⟨0, Nat.zero_le _, rfl, h0, Below.refl _ _, Nat.le_refl _⟩
  case round =>
    obtain ⟨k, hk, rfl, hJs, hnx, hge⟩ := hrel
    by_cases hlt : k < len
    · rcases hR.2 with hz | ⟨b, off, rfl, hb, hcs⟩
      · omega
      have hkl : k < vs.length := by rw [hR.1]; exact hlt
      obtain ⟨h1, h2⟩ := hcs k vs[k] (List.getElem?_eq_getElem hkl)
      have hgd : vs.getD k default = vs[k] := by simp [List.getD_eq_getElem?_getD, hkl]
      have x0 : wr.cell? ⟨b, off + k * 2, none⟩ = some (.int .i64 vs[k].p.left) := (hnx.cell (p := ⟨b, off + k * 2, none⟩) hb).trans h1
      have x1 : wr.cell? ⟨b, off + k * 2 + 1, none⟩ = some (.slice vs[k].ra vs[k].p.right.length vs[k].rc) := (hnx.cell (p := ⟨b, off + k * 2 + 1, none⟩) hb).trans h2
      have hsu := uptoF_succ f k
      have hfk := hf k hlt
      rw [hgd] at hfk
      replace hsu := Lib.hid hsu
      generalize vs[k] = x at *
      replace hgd := Lib.hid hgd
      have hJ1 := hJ _ _ _ none hJs (World.grownBy_alloc wr (.cells #[.int .i64 x.p.left, .slice x.ra x.p.right.length x.rc] 37) none) (by simp)
      have hbA : Below n₀ wr (wr.alloc (.cells #[.int .i64 x.p.left, .slice x.ra x.p.right.length x.rc] 37)) := (Below.refl _ _).alloc (by omega) _
      obtain ⟨fn, tmps, assign, body, hy, hR2⟩ := hY _ (f k) _ hJ1 (by rw [uptoF_length]; exact hlt)
      rw [hfk] at hy
      dsimp only [encP] at hy
      replace hfk := Lib.hid hfk
      gi_wp2
      refine hR2.mono ?_
      rintro e W3 (⟨rfl, hJ3, hk3⟩ | ⟨rfl, hJx3⟩)
      · gi_wp2
        go_roundw
        case rel => exact ⟨k + 1, by omega, by simp, by rw [hsu.out]; exact hJ3, hnx.trans (hbA.trans hk3), by have := hk3.size; simp at this; omega⟩
        case measure => simp [intOf]; omega
      · gi_wp2
        refine bodyPost_ret (results_none rfl _ _ _) rfl ?_
        exact ⟨⟨_, rfl⟩, .inr ⟨_, ⟨k + 1, by omega, hsu.out.symm⟩, hJx3⟩⟩
    · obtain rfl : k = len := by omega
      gi_wp2
      go_end0
      exact ⟨⟨_, rfl⟩, .inl ⟨_, rfl, hJs⟩⟩

theorem allg_stops {β : Type} (f : Nat → β) (encs : β → Array Value) (n : Nat) (hn : 1 ≤ n) (Bs n₀ : Nat) (A : Option Addr) (len cap : Nat) (vs : List PV) (hlen : len ≤ 1000000) (hf : ∀ k, k < len → encs (f k) = encP (k, vs.getD k default)) (w : World) (hBs : Bs < w.heap.size) (hn₀ : n₀ ≤ w.heap.size)
    (hc : w.cell? ⟨Bs, 0, none⟩ = some (.slice A len cap)) (hI : RdV w n₀ A len vs) :
    SeqStopsK Fence.wide n Tryz.prog 93 #[.pointer (some ⟨Bs, 0, none⟩)] encs (Below n₀) (fun ys => ys = uptoF f len) (fun pre => ∃ k, k ≤ len ∧ pre = uptoF f k) len w := fun l J Jx W hW hJ _ hY h0 => by
  have hc' := (hW.cell (p := ⟨Bs, 0, none⟩) hBs).trans hc
  exact allg1_in f encs n hn l Bs n₀ A len cap vs hlen hf J Jx hY W hJ (Nat.le_trans hn₀ hW.size) hc' (hI.below (hW.mono hn₀)) h0

/-- a production that reads, and is not too long -/
def PVk (w : World) (x : PV) : Prop := PVok w w.heap.size x ∧ x.p.right.length ≤ 1000000
/-- a production that is known to read, with its number -/
def PX (w : World) : Type := { x : Nat × PV // PVk w x.2 }
theorem pvok_default (w : World) : PVk w default := ⟨⟨Rd1.nil _ _ _, Nat.le_refl _, by simp [maxLen, show (default : PV).rc = 0 from rfl]⟩, by simp [show (default : PV).p.right = [] from rfl]⟩
theorem pvok_getD {w : World} {vs : List PV} (h : ∀ x ∈ vs, PVk w x) (k : Nat) : PVk w (vs.getD k default) := by
  rw [List.getD_eq_getElem?_getD]
  cases hk : vs[k]? with
  | none => exact pvok_default w
  | some x => exact h x (List.mem_of_getElem? hk)
def pxAt {w : World} {vs : List PV} (h : ∀ x ∈ vs, PVk w x) (k : Nat) : PX w := ⟨(k, vs.getD k default), pvok_getD h k⟩
def encX {w : World} (x : PX w) : Array Value := encP x.1
theorem px_mem {w : World} {vs : List PV} (h : ∀ x ∈ vs, PVk w x) {k : Nat} {y : PX w} (hk : k ≤ vs.length) (hy : y ∈ uptoF (pxAt h) k) : vs[y.1.1]? = some y.1.2 ∧ y.1.1 < k := by
  unfold uptoF at hy
  obtain ⟨j, hj, rfl⟩ := List.mem_map.1 hy
  have hj := List.mem_range.1 hj
  have hl : j < vs.length := by omega
  exact ⟨by simp [pxAt, List.getD_eq_getElem?_getD, hl], hj⟩
theorem px_at {w : World} {vs : List PV} (h : ∀ x ∈ vs, PVk w x) {k : Nat} (hk : k < vs.length) : (pxAt h k).1.2 = vs[k] := by simp [pxAt, List.getD_eq_getElem?_getD, hk]
end Go.Proofs.YtlngbphchhbpbaaGreat

/- grammar.symbols. -/
namespace Go.Proofs.YtlngbphchhbpbaaGreat
open Go.RowKit Go.Shelf
set_option linter.unusedVariables false
attribute [local go_sem] Oper.semAt_some

theorem GB.grown {w : World} {g : Gr} {a : GA} {W W1 : World} {row : Option Nat} (h : GB w g a W) (hg : W.grownBy W1 row) (hr : ∀ k, row = some k → w.heap.size < k) : GB w g a W1 :=
  ⟨h.1.grown hg (fun e => by have := hr _ e.symm; omega), h.2.1.below ((Below.refl _ _).grown hg h.2.2.size (fun k hk => by have := hr k hk; omega)), h.2.2.grown hg h.2.2.size (fun k hk => by have := hr k hk; omega)⟩
theorem keeps_below {B : Nat} {W W1 : World} (h : Below W.heap.size W W1) : KeepsFrom B W W1 := ⟨h.size, fun k o _ hk _ => (h.block k (Array.getElem?_eq_some_iff.1 hk).1).trans hk⟩
/-- between two rounds: what has come is right; the result's box; the grammar -/
def SyI (w : World) (g : Gr) (a : GA) (q : List (PX w) → Bool) (r : Int) (pre : List (PX w)) (W : World) : Prop := q pre = true ∧ Blk W (w.heap.size + 1) 29 #[.int .i64 r] ∧ GB w g a W
def SyX (w : World) (g : Gr) (a : GA) (q : List (PX w) → Bool) (r : Int) (c : Code) (pre : List (PX w)) (W : World) : Prop := (c = .ret ∧ q pre = false) ∧ Blk W (w.heap.size + 1) 29 #[.int .i64 r] ∧ GB w g a W
theorem syI_own {B : Nat} (w : World) (g : Gr) (a : GA) (q : List (PX w) → Bool) (r : Int) (h : w.heap.size + 1 < B) : OwnFrom B (SyI w g a q r) := fun s X Y row hs hg hr =>
  ⟨hs.1, hs.2.1.grown hg (fun e => by have := (hr _ e.symm).1; omega), hs.2.2.grown hg (fun k hk => by have := (hr k hk).1; omega)⟩
theorem syX_own {B : Nat} (w : World) (g : Gr) (a : GA) (q : List (PX w) → Bool) (r : Int) (h : w.heap.size + 1 < B) (c : Code) : OwnFrom B (SyX w g a q r c) := fun s X Y row hs hg hr =>
  ⟨hs.1, hs.2.1.grown hg (fun e => by have := (hr _ e.symm).1; omega), hs.2.2.grown hg (fun k hk => by have := (hr k hk).1; omega)⟩
/-- all that has come is right -/
def allQ {w : World} (q : Pr → Bool) (pre : List (PX w)) : Bool := pre.all fun y => q y.1.2.p
theorem allQ_snoc {w : World} (q : Pr → Bool) (pre : List (PX w)) (x : PX w) : allQ q (pre ++ [x]) = (allQ q pre && q x.1.2.p) := by simp [allQ]
theorem allQ_all {w : World} {vs : List PV} (h : ∀ x ∈ vs, PVk w x) {q : Pr → Bool} (hq : allQ q (uptoF (pxAt h) vs.length) = true) : (vs.map PV.p).all q = true := by
  rw [List.all_eq_true]
  intro p hp
  obtain ⟨x, hx, rfl⟩ := List.mem_map.1 hp
  obtain ⟨i, hi, rfl⟩ := List.mem_iff_getElem.1 hx
  have := (List.all_eq_true.1 hq) (pxAt h i) (List.mem_map.2 ⟨i, List.mem_range.2 hi, rfl⟩)
  rwa [px_at h hi] at this
theorem allQ_not {w : World} {vs : List PV} (h : ∀ x ∈ vs, PVk w x) {q : Pr → Bool} {k : Nat} (hk : k ≤ vs.length) (hq : allQ q (uptoF (pxAt h) k) = false) : (vs.map PV.p).all q = false := by
  rw [List.all_eq_false]
  obtain ⟨y, hy, hyq⟩ := List.all_eq_false.1 hq
  exact ⟨y.1.2.p, List.mem_map_of_mem (List.mem_of_getElem? (px_mem h hk hy).1), hyq⟩

set_option maxRecDepth 100000 in
set_option maxHeartbeats 8000000 in
theorem symbols_any (g : Gr) (a : GA) (w : World) (hg : GrAt w w.heap.size g a) (hs : Small g) :
    Calls Tryz.prog 45 #[gval g a] w fun e w' => e = .returned (.int .i64 (if symB g = false then 14 else 0)) ∧ Below w.heap.size w w' := by
  obtain ⟨ta, tc, na, nc, pa, pc⟩ := a
  obtain ⟨R, hR⟩ : ∃ R : Int, R = if symB g = false then 14 else 0 := ⟨_, rfl⟩
  rw [← hR]
  replace hR := Lib.hid hR
  have hs1 := hs.t
  have hs2 := hs.n
  have hs3 := hs.p
  have hs4 := Lib.hid hs.r
  clear hs
  obtain ⟨vs, hvs1, hvs2, hvs3⟩ := hg.prods.vals
  have hvl : vs.length = g.prods.length := by rw [← hvs1]; simp
  have hvr : ∀ x ∈ vs, x.p.right.length ≤ 1000000 := fun x hx => hs4.out _ (by rw [← hvs1]; exact List.mem_map_of_mem hx)
  replace hvs3 : ∀ x ∈ vs, PVk w x := fun x hx => ⟨hvs3 x hx, hvr x hx⟩
  have hG0 := GB.start hg
  clear hg
  have hPr := Lib.hid (fun w => prods_any g ⟨ta, tc, na, nc, pa, pc⟩ w)
  have hN := Lib.hid (fun s w => nonterm_any g ⟨ta, tc, na, nc, pa, pc⟩ s w (by omega))
  have hS : symB g = (ntB g g.start && (vs.map PV.p).all (prB g)) := by rw [hvs1]; rfl
  have hC := Lib.hid (fun b0 A n c l w hb hr hl => consym_any g ⟨ta, tc, na, nc, pa, pc⟩ b0 A n c l w hb hs1 hs2 hr hl)
  clear hvs1 hs4
  unfold gval at *
  unfold gcells at hPr hN hG0 ⊢
  dsimp only at *
  refine (callsIn_wide (n := 6)).1 ?_
  cases hst : ntB g g.start with
  | false =>
    have hR3 : R = 14 := by rw [hR.out, if_pos]; rw [hS, hst]; rfl
    subst hR3
    have hN2 := Lib.hid (hN.out g.start)
    rw [hst] at hN2
    replace hst := Lib.hid hst
    refine callsIn_wide.2 ?_
    go_enter Tryz.func45, Tryz.ntmps45
    go_wp2_with fail
    refine (hN2.out _).mono ?_
    rintro e w1 ⟨rfl, hb1⟩
    have q2 : Blk w1 (w.heap.size + 1) 29 #[.int .i64 0] := (Blk.newAt _ _ _ _ (by simp)).step hb1
    have r0 := q2.cell 0
    have f0 := q2.frozen 0
    simp only [List.getElem?_toArray, List.getElem?_cons_zero, List.getElem?_cons_succ] at r0
    go_wp2_with fail
    exact bodyPost_ret (results_cell30 rfl _ _ _ _ rfl ((q2.put 0 _).cell 0)) rfl ⟨rfl, bSet (bStep (bAlc hG0.2.2 _) hb1) _ _ (by simp)⟩
  | true =>
    have hR2 : R = if (vs.map PV.p).all (prB g) = false then 14 else 0 := by rw [hR.out, hS, hst, Bool.true_and]
    replace hR2 := Lib.hid hR2
    have hN2 := Lib.hid (hN.out g.start)
    rw [hst] at hN2
    replace hst := Lib.hid hst
    clear hS hR
    refine callsIn_of_wp_marks Tryz.func45 rfl trivial ?_ rfl
    simp only [Tryz.ntmps45, List.size_toArray, List.length_cons, List.length_nil, Nat.reduceAdd, Nat.reduceSub, Array.replicate_succ, Array.replicate_zero, List.push_toArray, List.append_toArray, List.nil_append, List.cons_append]
    replace hvl := Lib.hid hvl
    gi_wp2_with (first
      | (refine ⟨trivial, ?_⟩; gi_at_call 61; refine (callsIn_wide.2 (hN2.out _)).mono ?_; rintro e w1 ⟨rfl, hb1⟩; have hG1 := (hG0.alloc _).step hb1; obtain ⟨c0, c1, c2, c3, c4, c5⟩ := hG1.cells; dsimp only at c1 c3 c5)
      | (refine ⟨trivial, ?_⟩; gi_at_call 64; refine (callsIn_wide.2 (hPr.out _)).mono ?_; rintro e w2 ⟨B, rfl, hB1, hB2, hB3⟩))
    have bR0 : Blk w1 (w.heap.size + 1) 29 #[.int .i64 0] := (Blk.newAt _ _ _ _ (by simp)).step hb1
    have bR := bR0.step hB3
    have hG := hG1.step hB3
    have hw2 := bR.lt
    clear c0 c1 c2 c3 c4 c5 hG0
    refine wpIn_rangeFunc_ownH (F := Fence.wide) rfl (by omega) (gf := 93) (lb := #[.pointer (some ⟨B, 0, none⟩)]) rfl trivial (enters_of Tryz.func93 (by kernel_rfl) rfl)
      (allg_stops (pxAt hvs3) encX 5 (by omega) B w.heap.size pa g.prods.length pc vs (by omega) (fun k hk => rfl) w2 hB2 hG.2.2.size hB1 (hvs2.below hG.2.2)) belowK_t (belowK_b hG.2.2.size) (Below.refl _ _) (fun _ => rfl)
      (SyI w g ⟨ta, tc, na, nc, pa, pc⟩ (allQ (prB g)) 0) (SyX w g ⟨ta, tc, na, nc, pa, pc⟩ (allQ (prB g)) 14) (syI_own w g _ _ 0 hw2) (syX_own w g _ _ 14 hw2)
      ⟨rfl, bR, hG⟩
      (fun x a' W => ∃ Bx, w.heap.size + 1 < Bx ∧ Blk W Bx 37 #[.int .i64 x.1.2.p.left, .slice x.1.2.ra x.1.2.p.right.length x.1.2.rc] ∧ ∃ (u0 u3 u5 u6 u7 u8 u9 u10 u11 u12 u13 u14 u15 u16 u17 u18 u19 u20 u21 u22 u23 u24 : Value), a' = { tmps := #[u0, .pointer (some ⟨w.heap.size, 0, none⟩), .pointer (some ⟨w.heap.size + 1, 0, none⟩), u3, .pointer (some ⟨Bx, 0, none⟩), u5, u6, u7, u8, u9, u10, u11, u12, u13, u14, u15, u16, u17, u18, u19, u20, u21, u22, u23, u24], defers := [] })
      (fun x a' _ X Y row hs hg hr => by obtain ⟨Bx, h1, h2, h3⟩ := hs; exact ⟨Bx, h1, blk_own Bx 37 (fun (_ : Unit) => #[.int .i64 x.1.2.p.left, .slice x.1.2.ra x.1.2.p.right.length x.1.2.rc]) () X Y row h2 hg (fun r e => (hr r e).2), h3⟩)
      ?assign ?body ?done ?stop
    case assign =>
      rintro l pre x W K ⟨hp, bR1, hG1⟩ hK
      dsimp only [encX, encP]
      gi_wp2
      exact hK _ _ ((KeepsOthers.alloc _ _).from _) ((Below.refl _ W).alloc hG1.2.2.size _) ⟨hp, bR1.alloc _, hG1.alloc _⟩ ⟨W.heap.size, by have := bR1.lt; omega, Blk.new W 37 _, _, _, _, _, _, _, _, _, _, _, _, _, _, _, _, _, _, _, _, _, _, _, rfl⟩
    case body =>
      rintro l pre x a' W hl ⟨r, hr⟩ ⟨hp, bR1, hG1⟩ ⟨Bx, hBx, bX, u0, u3, u5, u6, u7, u8, u9, u10, u11, u12, u13, u14, u15, u16, u17, u18, u19, u20, u21, u22, u23, u24, rfl⟩ hlt
      have p0 := bX.cell 0
      have p1 := bX.cell 1
      simp only [List.getElem?_toArray, List.getElem?_cons_zero, List.getElem?_cons_succ] at p0 p1
      obtain ⟨c0, c1, c2, c3, c4, c5⟩ := hG1.cells
      dsimp only at c1 c3 c5
      have hxk := x.2
      obtain ⟨⟨hxr, hxc, hxm⟩, hx6⟩ := hxk
      have hq := Lib.hid (allQ_snoc (prB g) pre x)
      have hN3 := Lib.hid (hN.out x.1.2.p.left)
      have hp' := Lib.hid hp
      clear hp
      cases hnl : ntB g x.1.2.p.left with
      | false =>
        have hpr : prB g x.1.2.p = false := by unfold prB; rw [hnl]; rfl
        have hqF : allQ (prB g) (pre ++ [x]) = false := by rw [hq.out, hpr, Bool.and_false]
        rw [hnl] at hN3
        replace hnl := Lib.hid hnl
        replace hpr := Lib.hid hpr
        replace hqF := Lib.hid hqF
        gi_wp2_with (refine ⟨trivial, ?_⟩; gi_at_call 61; refine (CallsIn.inRound l (callsIn_wide.2 (hN3.out _))).mono ?_; rintro e w3 ⟨rfl, hb3⟩; have bR2 := bR1.step hb3; have r0 := bR2.cell 0; have f0 := bR2.frozen 0; simp only [List.getElem?_toArray, List.getElem?_cons_zero, List.getElem?_cons_succ] at r0)
        refine ⟨trivial, ?_⟩
        gi_wp2
        exact ⟨(keeps_below hb3).trans ((KeepsOthers.setCell _ _ _).from _), ⟨rfl, hqF.out⟩, bR2.put 0 _, (hG1.step hb3).far _ _ (by simp)⟩
      | true =>
        have hpr : prB g x.1.2.p = x.1.2.p.right.all (syB g) := by unfold prB; rw [hnl]; rfl
        rw [hnl] at hN3
        replace hnl := Lib.hid hnl
        cases hall : x.1.2.p.right.all (syB g) with
        | false =>
          have hqF : allQ (prB g) (pre ++ [x]) = false := by rw [hq.out, hpr, hall, Bool.and_false]
          have hC2 := Lib.hid (fun W hb hr => hC.out w.heap.size x.1.2.ra x.1.2.p.right.length x.1.2.rc x.1.2.p.right W hb hr hx6)
          rw [hall] at hC2
          replace hpr := Lib.hid hpr
          replace hqF := Lib.hid hqF
          replace hall := Lib.hid hall
          gi_wp2_with (first
            | (refine ⟨trivial, ?_⟩; gi_at_call 61; refine (CallsIn.inRound l (callsIn_wide.2 (hN3.out _))).mono ?_; rintro e w3 ⟨rfl, hb3⟩; have bX3 := (bX.step hb3).cell 1; have hG3 := hG1.step hb3; simp only [List.getElem?_toArray, List.getElem?_cons_zero, List.getElem?_cons_succ] at bX3)
            | (refine ⟨trivial, ?_⟩; gi_at_call 67; refine (CallsIn.inRound l (callsIn_wide.2 (hC2.out w3 hG3.1 (((hxr.below hG3.2.2)).mono hG3.2.2.size)))).mono ?_; rintro e w4 ⟨rfl, hb4⟩; have bR4 := (bR1.step hb3).step hb4; have r0 := bR4.cell 0; have f0 := bR4.frozen 0; simp only [List.getElem?_toArray, List.getElem?_cons_zero, List.getElem?_cons_succ] at r0))
          exact ⟨((keeps_below hb3).trans (keeps_below hb4)).trans ((KeepsOthers.setCell _ _ _).from _), ⟨rfl, hqF.out⟩, bR4.put 0 _, (hG3.step hb4).far _ _ (by simp)⟩
        | true =>
          have hqT : allQ (prB g) (pre ++ [x]) = true := by rw [hq.out, hp'.out, hpr, hall]; rfl
          have hC2 := Lib.hid (fun W hb hr => hC.out w.heap.size x.1.2.ra x.1.2.p.right.length x.1.2.rc x.1.2.p.right W hb hr hx6)
          rw [hall] at hC2
          replace hpr := Lib.hid hpr
          replace hqT := Lib.hid hqT
          replace hall := Lib.hid hall
          gi_wp2_with (first
            | (refine ⟨trivial, ?_⟩; gi_at_call 61; refine (CallsIn.inRound l (callsIn_wide.2 (hN3.out _))).mono ?_; rintro e w3 ⟨rfl, hb3⟩; have bX3 := (bX.step hb3).cell 1; have hG3 := hG1.step hb3; simp only [List.getElem?_toArray, List.getElem?_cons_zero, List.getElem?_cons_succ] at bX3)
            | (refine ⟨trivial, ?_⟩; gi_at_call 67; refine (CallsIn.inRound l (callsIn_wide.2 (hC2.out w3 hG3.1 (((hxr.below hG3.2.2)).mono hG3.2.2.size)))).mono ?_; rintro e w4 ⟨rfl, hb4⟩))
          exact ⟨(keeps_below hb3).trans (keeps_below hb4), (bStep hb3 hb4).mono hG1.2.2.size, hqT.out, (bR1.step hb3).step hb4, hG3.step hb4⟩
    case done =>
      rintro D ys W hD rfl ⟨hp, bR1, hG1⟩ hK
      have hR3 : R = 0 := by
        rw [hR2.out, if_neg]
        rw [allQ_all hvs3 (by rw [hvl.out]; exact hp)]; simp
      subst hR3
      have r0 := bR1.cell 0
      have f0 := bR1.frozen 0
      simp only [List.getElem?_toArray, List.getElem?_cons_zero, List.getElem?_cons_succ] at r0
      replace hp := Lib.hid hp
      gi_wp2
      have hK' := (KeepsOthers.setCell W ⟨w.heap.size + 1, 0, none⟩ (.int .i64 0)).same D _ hK rfl
      refine ⟨by simp, .inl ⟨_, _, rfl, run_takeDeferred hK', ?_⟩⟩
      have b2 := (bR1.put 0 (.int .i64 0)).grown (grownBy_putObj' _ D (.deferred none)) (by simp; omega)
      exact ⟨_, results_cell30 rfl _ _ _ _ rfl (b2.cell 0), rfl, (bSet hG1.2.2 _ _ (by simp <;> omega)).trans (belowK_b (w := w) (Nat.le_refl _) _ D _ _ (by omega) hK' rfl rfl)⟩
    case stop =>
      rintro D c pre W hD ⟨k, hk, rfl⟩ ⟨⟨rfl, hqF⟩, bR1, hG1⟩ hK
      have hR3 : R = 14 := by rw [hR2.out, if_pos (allQ_not hvs3 (by rw [hvl.out]; exact hk) hqF)]
      subst hR3
      replace hqF := Lib.hid hqF
      gi_wp2
      refine ⟨by simp, .inl ⟨_, _, rfl, run_takeDeferred hK, ?_⟩⟩
      have b2 := bR1.grown (grownBy_putObj' _ D (.deferred none)) (by simp; omega)
      exact ⟨_, results_cell30 rfl _ _ _ _ rfl (b2.cell 0), rfl, hG1.2.2.trans (belowK_b (w := w) (Nat.le_refl _) _ D _ _ (by omega) hK rfl rfl)⟩
end Go.Proofs.YtlngbphchhbpbaaGreat

/- A drawn region that only reads, inside a round of a range over a function. -/
namespace Go
section
variable {F : Fence} {n : Nat} {P : Program} {ops : Array Oper} {md : Region.Mode} {C : World → Prop}

theorem Oper.wpIn_of_quietR {l : Nat} {o : Oper} {a : Act} {K : Act → Prop} {K' : Act → World → Prop} {Q' : Exit → Act → World → Prop} {w : World} (hro : F.round = some l) (hd : ∀ c, o.op ≠ .defer c) (hw : C w) (h : ∀ a w', C w' → K a → K' a w')
    (ha : o.askedIn F P a C) (hh : o.quietIn F n P a C K) : o.wpIn F n P a w K' Q' := by
  obtain ⟨v, h1, h2⟩ := hh
  have h3 := h1 w hw
  unfold Oper.quietAtIn at h3
  unfold Oper.wpIn
  refine ⟨ha w hw, ?_⟩
  rw [hro, Oper.semAt_some l _ _ hd]
  generalize (execOp a.eval o).run P w = r at *
  cases r with
  | ok x w' =>
    cases x <;> simp only [Oper.quietUponIn] at h3 <;> simp only [Oper.uponIn]
    case value u =>
      obtain ⟨e1, e2⟩ := h3
      rw [e1, e2]
      exact h _ _ hw h2
    case skip =>
      obtain ⟨e1, e2⟩ := h3
      rw [e1, ← e2]
      exact h _ _ hw h2
    case enter f args =>
      obtain ⟨e1, hd, hc⟩ := h3
      rw [e1]
      exact ⟨hd, hc.mono fun e w'' ⟨he, hw''⟩ => by subst he; exact h _ _ hw'' h2⟩
  | halt x w' => simp only [Oper.quietUponIn] at h3

/-- no operation of the region is a defer statement -/
def noDefer (ops : Array Oper) : Bool := ops.all fun o => match o.op with | .defer _ => false | _ => true

theorem noDefer_spec {ops : Array Oper} (h : noDefer ops = true) (i : Nat) (o : Oper) (hi : ops[i]? = some o) : ∀ c, o.op ≠ .defer c := by
  intro c he
  have := Array.all_eq_true'.1 h o (Array.mem_of_getElem? hi)
  simp [he] at this

theorem wpOpIn_of_qOpInR {l i : Nat} {a : Act} {K : Act → Prop} {K' : Act → World → Prop} {Q' : Exit → Act → World → Prop} {w : World} (hro : F.round = some l) (hnd : noDefer ops = true) (hC : C w) (h : ∀ a w', C w' → K a → K' a w')
    (hh : qOpIn F n P ops C i K a) : wpOpIn F n P ops Q' i K' a w := by
  unfold qOpIn at hh
  unfold wpOpIn
  split
  · rename_i ho; simp only [ho] at hh; exact h _ _ hC hh
  · rename_i o ho
    simp only [ho] at hh
    obtain ⟨ha, hh⟩ := hh
    split
    · rename_i hw; simp only [hw, if_true] at hh; exact Oper.wpIn_of_quietR hro (noDefer_spec hnd i o ho) hC h ha hh
    · rename_i hw; simp only [hw] at hh; exact ⟨ha w hC, h _ _ hC hh⟩

theorem wpAnyIn_of_quietR {l : Nat} {Q : Act → Prop} {Q' : Exit → Act → World → Prop} (hro : F.round = some l) (hnd : noDefer ops = true) (hQ : ∀ a w, C w → Q a → Q' .normal a w) : ∀ (fuel : Nat) (listed : Array Bool) (a : Act) (w : World), C w →
    wpAnyQIn F n P md ops C Q fuel listed a → wpAnyIn F n P md ops Q' fuel listed a w
  | 0, _, _, _, hw, h => ⟨h.1, hQ _ _ hw h.2⟩
  | fuel + 1, _, _, _, hw, h => ⟨fun h0 => hQ _ _ hw (h.1 h0), fun i hi => wpOpIn_of_qOpInR hro hnd hw (fun a' w' hw' => wpAnyIn_of_quietR hro hnd hQ fuel _ a' w' hw') (h.2 i hi)⟩

theorem wpIn_region_quietR {id l : Nat} {Q : Exit → Act → World → Prop} {a : Act} {w : World} (hro : F.round = some l) (hnd : noDefer ops = true) (hm : P.follows .mixedOrders = true) (hB : Region.lexB .any ops = true) (hC : C { w with drawn := w.drawn + 1 })
    (h : wpQuietIn F n P ops C (fun a' => ∀ w', C w' → Q .normal a' w') ops.toList a) : (Code.region id ops true).wpIn F n P Q a w := by
  simp only [Region.lexB, Bool.and_eq_true] at hB
  refine wpIn_region_any hm (wpAnyIn_of_quietR (Q := fun a' => ∀ w', C w' → Q .normal a' w') hro hnd (fun _ w' hw' h => h w' hw') _ _ _ _ hC ?_)
  have := wpAnyQIn_lex (F := F) (n := n) (C := C) (md := .any) hB.1 ops.toList 0 (Array.replicate ops.size false) a (by simp) (by simpa using hB.2) h
  simpa using this

theorem wpIn_region_quietR_lit {id l : Nat} {Q : Exit → Act → World → Prop} {a : Act} {w : World} {ol : List Oper} (hro : F.round = some l) (hnd : noDefer ol.toArray = true) (hm : P.follows .mixedOrders = true) (hB : Region.lexB .any ol.toArray = true)
    (h : wpQuietIn F n P ol.toArray (fun w' => ∃ n, w' = w.drewN n) (fun a' => ∀ w', (∃ n, w' = w.drewN n) → Q .normal a' w') ol a) : (Code.region id ol.toArray true).wpIn F n P Q a w :=
  wpIn_region_quietR (C := fun w' => ∃ n, w' = w.drewN n) hro hnd hm hB ⟨1, rfl⟩ (by simpa using h)
end
end Go
