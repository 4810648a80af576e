/- Walks and plain laws, part 3 of 10: grammar.named, grammar.different; grammar.different; slices.All over the productions, at elements that bear what is known of them; grammar.symbols; A drawn region that only reads, inside a round of a range over a function; grammar.ordered; grammar.Check; grammar.Nonterm, follow.nonterm; follow.plus; follow.joined; follow.joined: the walk; slices.Compare, cmp.Or, cmp.Compare at ints; the order of a set's looks; the order of a set's looks: the closure of sorted; slices.SortFunc at the looks of a set; (follow.set).sorted. Conditions: none beyond those that each theorem states. -/
import Derived.Test.YtnnkfgekiaaehaaGreatC2
import Derived.Deep.RegionLawGrows
import Derived.Sort.QuietIn
import Derived.Sort.Grow
import Derived.Shelf.SlSortCmp.NoneTotal
import Derived.Shelf.Lay
import Derived.Ground.SlsfProg
/- grammar.named, grammar.different. -/
namespace Go.Proofs.YtnnkfgekiaaehaaGreat
open Go.ChangeShapes Go.WideShapes Go.ChangeAt Go.RowKit
set_option linter.unusedVariables false
def SP (w : World) (g : Gr) (a : GA) (w' : World) : Prop := GB w g a w'
theorem SP.all {w : World} {g : Gr} {a : GA} {w' : World} (h : SP w g a w') : w'.cell? ⟨w.heap.size, 1, none⟩ = some (.slice a.ta g.toks.length a.tc) ∧ w'.cell? ⟨w.heap.size, 2, none⟩ = some (.string g.sep) ∧ w'.cell? ⟨w.heap.size, 3, none⟩ = some (.slice a.na g.names.length a.nc) ∧ SP w g a w' :=
  ⟨h.1.cell 1, h.1.cell 2, h.1.cell 3, h⟩
theorem SP.drew {w : World} {g : Gr} {a : GA} {w' : World} (h : SP w g a w') : SP w g a w'.drew := GB.drewN h 1
theorem SP.alloc {w : World} {g : Gr} {a : GA} {w' : World} (h : SP w g a w') (o : Obj) : SP w g a (w'.alloc o) := GB.alloc h o
theorem SP.grown0 {w : World} {g : Gr} {a : GA} {w' w1 : World} (h : SP w g a w') (hg : w'.grownBy w1 none) : SP w g a w1 := GB.step h ((Below.refl _ _).grown hg (Nat.le_refl _) (by simp))
theorem add_lit0 (b o j : Nat) : (⟨b, o, none⟩ : Addr).add j = ⟨b, o + j, none⟩ := by unfold Addr.add; split <;> simp_all
theorem rd1_olds {W : World} {B : Nat} {A : Option Addr} {n : Nat} {vs : List Value} (h : Rd1 W B A n vs) : ∀ b, A = some b → ∀ j u, vs[j]? = some u → W.cell? (b.add j) = some u := by
  intro b hb j u hu
  obtain ⟨b', off, hA, _, hc⟩ := h.get hu
  rw [hb] at hA; cases hA
  rw [add_lit0]; exact hc
theorem blk_news {W : World} {g : Nat} {e : TypeId} {k : Value} (h : Blk W g e #[k]) : ∀ j u, [k][j]? = some u → W.cell? ((⟨g, 0, none⟩ : Addr).add j) = some u := by
  intro j u hu
  have : j = 0 := by have := (List.getElem?_eq_some_iff.1 hu).1; simp at this; omega
  subst this
  rw [add_lit0, Nat.zero_add, h.cell]
  simpa using hu
set_option maxHeartbeats 2000000 in
theorem named_any (g : Gr) (a : GA) (w : World) (hg : GrAt w w.heap.size g a) (hs : Small g) :
    Calls Tryz.prog 63 #[gval g a] w fun e w' => e = .returned (.int .i64 (if shortB g = true then 5 else if nameB g = false then 12 else 0)) ∧ Below w.heap.size w w' := by
  obtain ⟨ta, tc, na, nc, pa, pc⟩ := a
  obtain ⟨R, hR⟩ : ∃ R : Int, R = if shortB g = true then 5 else if nameB g = false then 12 else 0 := ⟨_, rfl⟩
  rw [← hR]
  replace hR := Lib.hid hR
  have hs1 := hs.t
  have hs2 := hs.n
  clear hs
  have hG0 := GB.start hg
  clear hg
  have htc := hG0.2.1.tc
  have htm := hG0.2.1.tm
  unfold gval at *
  unfold gcells at *
  dsimp only at *
  by_cases ht0 : g.toks.length = 0
  · have hR2 : R = 5 := by rw [hR.out, if_pos]; simp [shortB, ht0]
    subst hR2
    have htb : ((g.toks.length : Int) == 0) = true := by simp [ht0]
    clear ht0
    go_enter Tryz.func63, Tryz.ntmps63
    go_wp2_with fail
    go_ret
    exact ⟨rfl, hG0.2.2⟩
  have htb : ((g.toks.length : Int) == 0) = false := by simpa using ht0
  by_cases hn0 : g.names.length = 0
  · have hR2 : R = 5 := by rw [hR.out, if_pos]; simp [shortB, hn0]
    subst hR2
    have hnb : ((g.names.length : Int) == 0) = true := by simp [hn0]
    clear ht0 hn0
    go_enter Tryz.func63, Tryz.ntmps63
    go_wp2_with fail
    go_ret
    exact ⟨rfl, hG0.2.2⟩
  have hnb : ((g.names.length : Int) == 0) = false := by simpa using hn0
  have hsh : shortB g = false := by unfold shortB; rw [decide_eq_false ht0, decide_eq_false hn0]; rfl
  have hR1 : R = if nameB g = false then 12 else 0 := by rw [hR.out, if_neg (by rw [hsh]; simp)]
  replace hR1 := Lib.hid hR1
  clear hsh hR
  obtain ⟨tb, toff, hta, htlt, htcells⟩ : ∃ b off, ta = some ⟨b, off, none⟩ ∧ b < w.heap.size ∧ True := by
    rcases hG0.2.1.toks.2 with h | ⟨b, off, h, hlt, _⟩
    · exact absurd h ht0
    · exact ⟨b, off, h, hlt, trivial⟩
  clear ht0 hn0 htcells
  subst hta
  have hz0 : (0 : Int) ≤ g.toks.length := by omega
  have hz1 : (g.toks.length : Int) ≤ tc := by omega
  have hz2 : (g.toks.length : Int) ≤ g.toks.length := by omega
  go_enter Tryz.func63, Tryz.ntmps63
  go_wp2_with fail
  obtain ⟨w0, hw0⟩ : ∃ w0, w0 = w.alloc (.cells #[.int .i64 g.k, .slice (some ⟨tb, toff, none⟩) g.toks.length tc, .string g.sep, .slice na g.names.length nc, .int .i64 g.start, .slice pa g.prods.length pc] 25) := ⟨_, rfl⟩
  rw [← hw0] at hG0 ⊢
  clear hw0
  have hlt := hG0.lt
  have hsn : SP w g ⟨some ⟨tb, toff, none⟩, tc, na, nc, pa, pc⟩ w0 := hG0
  clear hG0
  go_cut [29, 30, 31] (fun s29 s30 s31 wx => Own1 wx w.heap.size 9 s29 (strs (g.toks ++ [g.sep])) ∧ s30 = .int .i64 (g.toks.length + 1 : Nat) ∧ s31 = .int .i64 0 ∧ SP w g ⟨some ⟨tb, toff, none⟩, tc, na, nc, pa, pc⟩ wx)
  case first =>
    have hsq : SP w g ⟨some ⟨tb, toff, none⟩, tc, na, nc, pa, pc⟩ (w0.alloc (.cells #[.string g.sep] 9)).drew := (hsn.alloc _).drew
    have holds := rd1_olds hsq.2.1.toks
    have hnews : ∀ j u, [Value.string g.sep][j]? = some u → (w0.alloc (.cells #[.string g.sep] 9)).drew.cell? ((⟨w0.heap.size, 0, none⟩ : Addr).add j) = some u := blk_news (W := (w0.alloc (.cells #[.string g.sep] 9)).drew) (Blk.new w0 9 #[.string g.sep])
    obtain ⟨i0, hi0, hq0, hq1, hq2⟩ := info_parts info9
    have hos : w.heap.size ≤ (w0.alloc (.cells #[.string g.sep] 9)).drew.heap.size := by simp; omega
    go_region_held3 (fun w' => w'.cell? ⟨w.heap.size, 1, none⟩ = some (.slice (some ⟨tb, toff, none⟩) g.toks.length tc) ∧ w'.cell? ⟨w.heap.size, 2, none⟩ = some (.string g.sep) ∧ w'.cell? ⟨w.heap.size, 3, none⟩ = some (.slice na g.names.length nc) ∧ SP w g ⟨some ⟨tb, toff, none⟩, tc, na, nc, pa, pc⟩ w')
      ((refine SP.all (a := ⟨some ⟨tb, toff, none⟩, tc, na, nc, pa, pc⟩) ?_; first | assumption | exact SP.drew hsn | exact hsq))
      ((refine step_append_grows (by rfl) _ _ 22 (by rfl) 9 i0 _ 1 16 under23 hi0 hq0 hq1 hq2 (by rfl) (by omega) (some ⟨tb, toff, none⟩) g.toks.length g.toks.length (strs g.toks) (by rfl) (by simp) (by simp [strs]) holds ⟨w0.heap.size, 0, none⟩ 1 1 [.string g.sep] (by rfl) (by rfl) hnews (by simp [Value.oneCell']) (by omega) (by unfold maxLen; omega) (by omega) ?_; intro v1 w1 hown1 hg1; obtain ⟨g1, cap1, hv1⟩ := ownsRow_succ hown1; subst hv1; have hs1 : SP w g ⟨some ⟨tb, toff, none⟩, tc, na, nc, pa, pc⟩ w1 := hsq.grown0 hg1))
    all_goals
      go_wp2_with fail
      go_meet
      refine ⟨?_, rfl, rfl, hs1⟩
      have := Own1.mono (base := (w0.alloc (.cells #[.string g.sep] 9)).drew.heap.size) (l := strs g.toks ++ [.string g.sep]) (by unfold Own1; rw [show (strs g.toks ++ [Value.string g.sep]).length = g.toks.length + 1 by simp [strs]]; exact hown1) hos
      rw [show strs (g.toks ++ [g.sep]) = strs g.toks ++ [.string g.sep] by simp [strs]]
      exact this
  case rest =>
    clear hsn hlt
    obtain ⟨ho, rfl, rfl, hG⟩ := hcut
    obtain ⟨A, c, rfl, hrd, hc1, hc2, hbl⟩ := ho.reads
    have hG : GB w g ⟨some ⟨tb, toff, none⟩, tc, na, nc, pa, pc⟩ wc := hG
    have hsl : (strs (g.toks ++ [g.sep])).length = (g.toks ++ [g.sep]).length := by simp [strs]
    rw [hsl] at hrd hc1
    rw [hsl]
    clear hsl ho
    have hsz : ∀ s ∈ g.toks ++ [g.sep], s.size ≤ maxLen := by
      intro s hs
      rcases List.mem_append.1 hs with h | h
      · exact hG.2.1.ts s h
      · simp at h; rw [h]; exact hG.2.1.sep
    have hsn : ∀ s ∈ g.names, s.size ≤ maxLen := hG.2.1.ns
    obtain ⟨L, hL⟩ : ∃ L, L = g.toks ++ [g.sep] := ⟨_, rfl⟩
    have hNB : nameB g = (L.all smallB && g.names.all capB) := by rw [hL]; rfl
    have hLl : L.length = g.toks.length + 1 := by rw [hL]; simp
    rw [← hL] at hrd hc1 hsz ⊢
    clear hL
    rw [← hLl]
    have hLn : L.length ≤ 100001 := by omega
    replace hLl := Lib.hid hLl
    replace hNB := Lib.hid hNB
    have hcap := Lib.hid (fun (s : ByteArray) (hs : s ∈ g.names) (w : World) => cap_any s w (hsn s hs))
    have hsm := Lib.hid (fun (s : ByteArray) (hs : s ∈ L) (w : World) => small_any s w (hsz s hs))
    clear hz0 hz1 hz2
    go_wp2_with fail
    go_loopg [31] L.length (fun gk s31 wr => ∃ i : Nat, s31 = .int .i64 i ∧ i + gk = L.length ∧ (∀ s ∈ L.take i, smallB s = true) ∧ Rd1 wr wc.heap.size A L.length (strs L) ∧ GB w g ⟨some ⟨tb, toff, none⟩, tc, na, nc, pa, pc⟩ wr ∧ Below wc.heap.size wc wr)
    case atStart => exact ⟨0, rfl, by omega, by simp, hrd, hG, Below.refl _ _⟩
    case round =>
      clear hrd hG
      obtain ⟨i, rfl, hi, hP, hrd, hG, hbc⟩ := hrel
      replace hi := Lib.hid hi
      replace hP := Lib.hid hP
      by_cases hin : i < L.length
      · have hxi : L[i]? = some L[i] := List.getElem?_eq_getElem hin
        obtain ⟨b, off, rfl, hbt, x0⟩ := hrd.get (i := i) (v := .string L[i]) (by simp [strs, hxi])
        have hmem := List.getElem_mem hin
        have htk : L.take (i + 1) = L.take i ++ [L[i]] := List.take_succ_eq_append_getElem hin
        have hsi := Lib.hid (hsm.out L[i] hmem)
        generalize L[i] = x at *
        have hzi : (0 : Int) ≤ i := by omega
        have hzn : (i : Int) < L.length := by omega
        replace hxi := Lib.hid hxi
        replace htk := Lib.hid htk
        replace hmem := Lib.hid hmem
        cases hsb : smallB x with
        | true =>
          have hGG := Lib.hid (show ∀ s ∈ L.take (i + 1), smallB s = true by
            intro s hs
            rw [htk.out] at hs
            rcases List.mem_append.1 hs with h | h
            · exact hP.out s h
            · simp at h; rw [h]; exact hsb)
          rw [hsb] at hsi
          replace hsb := Lib.hid hsb
          go_wp2_with (go_at_call 101; refine (hsi.out _).mono ?_; rintro e w' ⟨rfl, hb1⟩)
          go_roundg (L.length - (i + 1))
          case measure => have := hi.out; omega
          case rel => exact ⟨i + 1, by go_num, by have := hi.out; omega, hGG.out, hrd.below (hb1.mono hbc.size), hG.step hb1, bStep hbc hb1⟩
        | false =>
          have hnF : R = 12 := by
            rw [hR1.out, if_pos]
            rw [hNB.out, Bool.and_eq_false_iff]
            left
            rw [List.all_eq_false]
            exact ⟨x, hmem.out, by simp [hsb]⟩
          subst hnF
          rw [hsb] at hsi
          replace hsb := Lib.hid hsb
          go_wp2_with (go_at_call 101; refine (hsi.out _).mono ?_; rintro e w' ⟨rfl, hb1⟩)
          go_ret
          exact ⟨rfl, bStep hG.2.2 hb1⟩
      · have hAll : L.all smallB = true := by
          rw [List.all_eq_true]
          intro s hs
          refine hP.out s ?_
          rwa [List.take_of_length_le (by omega)]
        have hNB2 := hNB.out
        rw [hAll, Bool.true_and] at hNB2
        replace hNB2 := Lib.hid hNB2
        clear hAll hNB
        obtain ⟨c0, c1, c2, c3, c4, c5⟩ := hG.cells
        dsimp only at c1 c3 c5
        go_wp2_with fail
        go_loopg [42] g.names.length (fun gk s42 wr2 => ∃ i : Nat, s42 = .int .i64 i ∧ i + gk = g.names.length ∧ (∀ s ∈ g.names.take i, capB s = true) ∧ GB w g ⟨some ⟨tb, toff, none⟩, tc, na, nc, pa, pc⟩ wr2)
        case atStart => exact ⟨0, rfl, by omega, by simp, hG⟩
        case round =>
          clear hrd hG hbc c0 c1 c2 c3 c4 c5
          obtain ⟨i, rfl, hi, hP, hG⟩ := hrel
          replace hi := Lib.hid hi
          replace hP := Lib.hid hP
          by_cases hin : i < g.names.length
          · have hxi : g.names[i]? = some g.names[i] := List.getElem?_eq_getElem hin
            obtain ⟨b, off, hA, hbt, x0⟩ := hG.2.1.names.get (i := i) (v := .string g.names[i]) (by simp [strs, hxi])
            dsimp only at hA
            subst hA
            have hmem := List.getElem_mem hin
            have htk : g.names.take (i + 1) = g.names.take i ++ [g.names[i]] := List.take_succ_eq_append_getElem hin
            have hsi := Lib.hid (hcap.out g.names[i] hmem)
            generalize g.names[i] = x at *
            have hzi : (0 : Int) ≤ i := by omega
            have hzn : (i : Int) < g.names.length := by omega
            replace hxi := Lib.hid hxi
            replace htk := Lib.hid htk
            replace hmem := Lib.hid hmem
            cases hsb : capB x with
            | true =>
              have hGG := Lib.hid (show ∀ s ∈ g.names.take (i + 1), capB s = true by
                intro s hs
                rw [htk.out] at hs
                rcases List.mem_append.1 hs with h | h
                · exact hP.out s h
                · simp at h; rw [h]; exact hsb)
              rw [hsb] at hsi
              replace hsb := Lib.hid hsb
              go_wp2_with (go_at_call 102; refine (hsi.out _).mono ?_; rintro e w' ⟨rfl, hb1⟩)
              go_roundg (g.names.length - (i + 1))
              case measure => have := hi.out; omega
              case rel => exact ⟨i + 1, by go_num, by have := hi.out; omega, hGG.out, hG.step hb1⟩
            | false =>
              have hnF : R = 12 := by
                rw [hR1.out, if_pos]
                rw [hNB2.out, List.all_eq_false]
                exact ⟨x, hmem.out, by simp [hsb]⟩
              subst hnF
              rw [hsb] at hsi
              replace hsb := Lib.hid hsb
              go_wp2_with (go_at_call 102; refine (hsi.out _).mono ?_; rintro e w' ⟨rfl, hb1⟩)
              go_ret
              exact ⟨rfl, bStep hG.2.2 hb1⟩
          · have hAll : g.names.all capB = true := by
              rw [List.all_eq_true]
              intro s hs
              refine hP.out s ?_
              rwa [List.take_of_length_le (by omega)]
            have hR2 : R = 0 := by rw [hR1.out, if_neg (by rw [hNB2.out, hAll]; simp)]
            subst hR2
            go_wp2_with fail
            go_ret
            exact ⟨rfl, hG.2.2⟩
end Go.Proofs.YtnnkfgekiaaehaaGreat

/- grammar.different. -/
namespace Go.Proofs.YtnnkfgekiaaehaaGreat
open Go.ChangeShapes Go.WideShapes Go.ChangeAt Go.RowKit
set_option linter.unusedVariables false
def SD (w : World) (g : Gr) (a : GA) (w' : World) : Prop := GB w g a w' ∧ MapK strKey w' (w.heap.size + 1) []
theorem SD.all {w : World} {g : Gr} {a : GA} {w' : World} (h : SD w g a w') : w'.cell? ⟨w.heap.size, 1, none⟩ = some (.slice a.ta g.toks.length a.tc) ∧ w'.cell? ⟨w.heap.size, 2, none⟩ = some (.string g.sep) ∧ w'.cell? ⟨w.heap.size, 3, none⟩ = some (.slice a.na g.names.length a.nc) ∧ SD w g a w' :=
  ⟨h.1.1.cell 1, h.1.1.cell 2, h.1.1.cell 3, h⟩
theorem SD.step {w : World} {g : Gr} {a : GA} {w' w1 : World} (h : SD w g a w') (hb : Below w'.heap.size w' w1) : SD w g a w1 := ⟨h.1.step hb, h.2.step hb⟩
theorem SD.drew {w : World} {g : Gr} {a : GA} {w' : World} (h : SD w g a w') : SD w g a w'.drew := h.step (Below.refl _ _).drew
theorem SD.alloc {w : World} {g : Gr} {a : GA} {w' : World} (h : SD w g a w') (o : Obj) : SD w g a (w'.alloc o) := h.step ((Below.refl _ _).alloc (Nat.le_refl _) o)
theorem SD.grown {w : World} {g : Gr} {a : GA} {w' w1 : World} {row : Option Nat} (h : SD w g a w') (hg : w'.grownBy w1 row) (hr : ∀ k, row = some k → w.heap.size + 1 < k) : SD w g a w1 :=
  ⟨⟨h.1.1.grown hg (fun e => by have := hr _ e.symm; omega), h.1.2.1.below ((Below.refl _ _).grown hg h.1.2.2.size (fun k hk => by have := hr k hk; omega)), h.1.2.2.grown hg h.1.2.2.size (fun k hk => by have := hr k hk; omega)⟩, h.2.grown hg (fun e => by have := hr _ e.symm; omega)⟩
theorem Rd1.grown {w w' : World} {B : Nat} {A : Option Addr} {n : Nat} {l : List Value} {row : Option Nat} (h : Rd1 w B A n l) (hg : w.grownBy w' row) (hB : B ≤ w.heap.size) (hne : ∀ a, A = some a → some a.block ≠ row) : Rd1 w' B A n l := by
  refine ⟨h.1, ?_⟩
  rcases h.2 with h0 | ⟨b, off, rfl, hlt, hc⟩
  · exact .inl h0
  · exact .inr ⟨b, off, rfl, hlt, fun i x hx => (World.cell?_of_block (a := ⟨b, off + i, none⟩) (hg.block b (by omega) (hne _ rfl))).trans (hc i x hx)⟩
theorem own_map_ne {α : Type} {E : KeyEnc α} {w : World} {base b : Nat} {e : TypeId} {v : Value} {vs : List Value} {s : List α} (h : Own1 w base e v vs) (hm : MapK E w b s) : ∀ k, v.ownBlock = some k → k ≠ b := by
  intro k hk e'
  subst e'
  obtain ⟨es, clock, hb, _⟩ := hm
  rcases h.2 with ⟨rfl, _⟩ | ⟨g, cap, cur, rfl, _, hg, _⟩
  · cases hk
  · simp [Value.ownBlock] at hk
    subst hk
    rw [hb] at hg; cases hg
theorem mapk_new {α : Type} (E : KeyEnc α) (w : World) (b : Nat) (hb : b = w.heap.size) : MapK E (w.alloc (.map #[] 0)) b [] := by
  subst hb
  exact ⟨#[], 0, heap_alloc_new w _, by simp, by simp, by simp, by simp, (MapKept.stamped_iff _ _).2 (by simp)⟩
theorem under107 : Tryz.prog.underlying 142 = some (.map 9 4) := by kernel_rfl
set_option maxHeartbeats 4000000 in
theorem different_any (g : Gr) (a : GA) (w : World) (hg : GrAt w w.heap.size g a) (hs : Small g) (ht0 : g.toks.length ≠ 0) :
    Calls Tryz.prog 64 #[gval g a] w fun e w' => e = .returned (.int .i64 (if ((g.toks ++ [g.sep]) ++ g.names).Nodup then 0 else 8)) ∧ Below w.heap.size w w' := by
  obtain ⟨ta, tc, na, nc, pa, pc⟩ := a
  obtain ⟨R, hR⟩ : ∃ R : Int, R = if ((g.toks ++ [g.sep]) ++ g.names).Nodup then 0 else 8 := ⟨_, rfl⟩
  rw [← hR]
  replace hR := Lib.hid hR
  have hs1 := hs.t
  have hs2 := hs.n
  clear hs
  have hG0 := GB.start hg
  clear hg
  have htc := hG0.2.1.tc
  have htm := hG0.2.1.tm
  unfold gval at *
  unfold gcells at *
  dsimp only at *
  obtain ⟨tb, toff, hta, htlt, htcells⟩ : ∃ b off, ta = some ⟨b, off, none⟩ ∧ b < w.heap.size ∧ True := by
    rcases hG0.2.1.toks.2 with h | ⟨b, off, h, hlt, _⟩
    · exact absurd h ht0
    · exact ⟨b, off, h, hlt, trivial⟩
  clear ht0 htcells
  subst hta
  have hz0 : (0 : Int) ≤ g.toks.length := by omega
  have hz1 : (g.toks.length : Int) ≤ tc := by omega
  have hz2 : (g.toks.length : Int) ≤ g.toks.length := by omega
  have hmm := @run_makeMap Tryz.prog
  go_enter Tryz.func64, Tryz.ntmps64
  go_wp2_with fail
  obtain ⟨w0, hw0⟩ : ∃ w0, w0 = (w.alloc (.cells #[.int .i64 g.k, .slice (some ⟨tb, toff, none⟩) g.toks.length tc, .string g.sep, .slice na g.names.length nc, .int .i64 g.start, .slice pa g.prods.length pc] 25)).alloc (.map #[] 0) := ⟨_, rfl⟩
  have hsn : SD w g ⟨some ⟨tb, toff, none⟩, tc, na, nc, pa, pc⟩ w0 := by rw [hw0]; exact ⟨hG0.alloc _, mapk_new _ _ _ (by simp)⟩
  rw [← hw0]
  clear hw0 hG0 hmm
  have hlt := hsn.2.lt
  go_cut [22, 23, 24] (fun s22 s23 s24 wx => Own1 wx w.heap.size 9 s22 (strs ((g.toks ++ [g.sep]) ++ g.names)) ∧ s23 = .int .i64 (((g.toks ++ [g.sep]) ++ g.names).length : Nat) ∧ s24 = .int .i64 0 ∧ SD w g ⟨some ⟨tb, toff, none⟩, tc, na, nc, pa, pc⟩ wx ∧ w.heap.size + 1 < wx.heap.size)
  case first =>
    have hsq : SD w g ⟨some ⟨tb, toff, none⟩, tc, na, nc, pa, pc⟩ (w0.alloc (.cells #[.string g.sep] 9)).drew := (hsn.alloc _).drew
    have holds := rd1_olds hsq.1.2.1.toks
    have hnews : ∀ j u, [Value.string g.sep][j]? = some u → (w0.alloc (.cells #[.string g.sep] 9)).drew.cell? ((⟨w0.heap.size, 0, none⟩ : Addr).add j) = some u := blk_news (W := (w0.alloc (.cells #[.string g.sep] 9)).drew) (Blk.new w0 9 #[.string g.sep])
    obtain ⟨i0, hi0, hq0, hq1, hq2⟩ := info_parts info9
    have hos : w.heap.size + 2 ≤ (w0.alloc (.cells #[.string g.sep] 9)).drew.heap.size := by simp; omega
    have hsl1 : (strs g.toks ++ [Value.string g.sep]).length = g.toks.length + 1 := by simp [strs]
    have hsl2 : (strs g.toks ++ [Value.string g.sep]).length + g.names.length ≤ 1000000 := by rw [hsl1]; omega
    have hsl3 : (strs g.toks ++ [Value.string g.sep] ++ strs g.names).length = ((g.toks ++ [g.sep]) ++ g.names).length := by simp [strs]
    have hsl4 : strs ((g.toks ++ [g.sep]) ++ g.names) = strs g.toks ++ [Value.string g.sep] ++ strs g.names := by simp [strs]
    replace hsl4 := Lib.hid hsl4
    obtain ⟨N, hN⟩ : ∃ N, N = (strs g.toks ++ [Value.string g.sep] ++ strs g.names).length := ⟨_, rfl⟩
    replace hN := Lib.hid hN
    replace hsl1 := Lib.hid hsl1
    replace hsl3 := Lib.hid hsl3
    go_region_held3 (fun w' => w'.cell? ⟨w.heap.size, 1, none⟩ = some (.slice (some ⟨tb, toff, none⟩) g.toks.length tc) ∧ w'.cell? ⟨w.heap.size, 2, none⟩ = some (.string g.sep) ∧ w'.cell? ⟨w.heap.size, 3, none⟩ = some (.slice na g.names.length nc) ∧ SD w g ⟨some ⟨tb, toff, none⟩, tc, na, nc, pa, pc⟩ w')
      ((refine SD.all (a := ⟨some ⟨tb, toff, none⟩, tc, na, nc, pa, pc⟩) ?_; first | assumption | exact SD.drew hsn | exact hsq))
      (first
        | (refine step_append_grows (by rfl) _ _ 22 (by rfl) 9 i0 _ 1 16 under23 hi0 hq0 hq1 hq2 (by rfl) (by omega) (some ⟨tb, toff, none⟩) g.toks.length g.toks.length (strs g.toks) (by rfl) (by simp) (by simp [strs]) holds ⟨w0.heap.size, 0, none⟩ 1 1 [.string g.sep] (by rfl) (by rfl) hnews (by simp [Value.oneCell']) (by omega) (by unfold maxLen; omega) (by omega) ?_; intro v1 w1 hown1 hg1
           have hs1 : SD w g ⟨some ⟨tb, toff, none⟩, tc, na, nc, pa, pc⟩ w1 := hsq.grown hg1 (by simp)
           have ho1 : Own1 w1 (w.heap.size + 2) 9 v1 (strs g.toks ++ [.string g.sep]) := Own1.mono (base := (w0.alloc (.cells #[.string g.sep] 9)).drew.heap.size) (by unfold Own1; rw [hsl1.out]; exact hown1) hos)
        | (refine step_of_wp _ (by rfl) (wp_join1 _ _ _ 22 (by rfl) (w.heap.size + 2) 9 _ 16 under23 info9 (by rfl) v1 _ (by rfl) ho1 w.heap.size na g.names.length nc (strs g.names) (by rfl) hs1.1.2.1.names strs_one hsl2 (by simp) (by have := hg1.size; omega) ?_); intro v2 w2 hown2 hg2 hat2 hb2; obtain ⟨A2, k2, hv2, hd2, hk2, hm2, hbb2⟩ := hown2.reads; rw [← hN.out] at hv2; subst hv2
           have hs2 : SD w g ⟨some ⟨tb, toff, none⟩, tc, na, nc, pa, pc⟩ w2 := hs1.grown hg2 (fun k hk => by have := (own_in ho1 k hk).1; omega)))
    all_goals
      go_wp2_with fail
      go_meet
      refine ⟨?_, ?_, rfl, hs2, hs2.2.lt⟩
      · rw [hsl4.out]; exact Own1.mono (base := w.heap.size + 2) hown2 (by omega)
      · rw [← hsl3.out, hN.out]
  case rest =>
    clear hsn hlt
    obtain ⟨ho, rfl, rfl, hG, hmlt⟩ := hcut
    obtain ⟨A, c, rfl, hrd, hc1, hc2, hbl⟩ := ho.reads
    have hsl : (strs ((g.toks ++ [g.sep]) ++ g.names)).length = ((g.toks ++ [g.sep]) ++ g.names).length := by simp [strs]
    rw [hsl] at hrd hc1
    rw [hsl]
    have hnm : ∀ a, A = some a → a.block ≠ w.heap.size + 1 := fun a ha => own_map_ne ho hG.2 a.block (by rw [ha]; rfl)
    clear hsl ho
    have hsz : ∀ s ∈ (g.toks ++ [g.sep]) ++ g.names, s.size ≤ maxLen := by
      intro s hs
      rcases List.mem_append.1 hs with h | h
      · rcases List.mem_append.1 h with h | h
        · exact hG.1.2.1.ts s h
        · simp at h; rw [h]; exact hG.1.2.1.sep
      · exact hG.1.2.1.ns s h
    obtain ⟨L, hL⟩ : ∃ L, L = (g.toks ++ [g.sep]) ++ g.names := ⟨_, rfl⟩
    have hLl : L.length ≤ 200001 := by rw [hL]; simp; omega
    rw [← hL] at hrd hc1 hsz hR ⊢
    clear hL hz0 hz1 hz2
    replace hsz := Lib.hid hsz
    have hG1 := hG.1
    have hG2 := hG.2
    clear hG
    go_wp2_with fail
    go_loopg [24] L.length (fun gk s24 wr => ∃ i : Nat, s24 = .int .i64 i ∧ i + gk = L.length ∧ MapK strKey wr (w.heap.size + 1) (L.take i) ∧ Rd1 wr wc.heap.size A L.length (strs L) ∧ Below w.heap.size w wr ∧ (∀ a, A = some a → a.block ≠ w.heap.size + 1) ∧ wc.heap.size ≤ wr.heap.size)
    case atStart => exact ⟨0, rfl, by omega, by simpa using hG2, hrd, hG1.2.2, hnm, Nat.le_refl _⟩
    case round =>
      clear hrd hG1 hG2 hnm
      obtain ⟨i, rfl, hi, hM, hrd, hb, hne, hle⟩ := hrel
      replace hi := Lib.hid hi
      by_cases hin : i < L.length
      · have hxi : L[i]? = some L[i] := List.getElem?_eq_getElem hin
        obtain ⟨b, off, rfl, hbt, x0⟩ := hrd.get (i := i) (v := .string L[i]) (by simp [strs, hxi])
        have hmem := List.getElem_mem hin
        have htk : L.take (i + 1) = L.take i ++ [L[i]] := List.take_succ_eq_append_getElem hin
        have hok : strKey.ok L[i] := hsz.out _ hmem
        have hnod : L[i] ∈ L.take i → ¬ L.Nodup := by
          intro hm hn
          rw [← List.take_append_drop i L, List.nodup_append] at hn
          exact hn.2.2 _ hm _ (by rw [List.drop_eq_getElem_cons hin]; exact List.mem_cons_self) rfl
        generalize L[i] = x at *
        have hzi : (0 : Int) ≤ i := by omega
        have hzn : (i : Int) < L.length := by omega
        replace hxi := Lib.hid hxi
        replace htk := Lib.hid htk
        replace hmem := Lib.hid hmem
        replace hnod := Lib.hid hnod
        replace hne := Lib.hid hne
        by_cases hxm : x ∈ L.take i
        · have hR2 : R = 8 := by rw [hR.out, if_neg (hnod.out hxm)]
          subst hR2
          have hd : true = true ↔ x ∈ L.take i := ⟨fun _ => hxm, fun _ => rfl⟩
          replace hd := Lib.hid hd
          replace hxm := Lib.hid hxm
          go_wp2_with (at_lookup; refine wpList_lookK (E := strKey) _ under107 rfl _ _ rfl (w.heap.size + 1) (L.take i) x true hd.out rfl rfl hM hok ?_)
          go_ret
          exact ⟨rfl, hb⟩
        · have hd : false = true ↔ x ∈ L.take i := ⟨fun h => (by cases h), fun h => absurd h hxm⟩
          have hif : (x ∈ L.take i ∧ L.take (i + 1) = L.take i) ∨ (x ∉ L.take i ∧ L.take (i + 1) = L.take i ++ [x]) := .inr ⟨hxm, htk.out⟩
          replace hd := Lib.hid hd
          replace hif := Lib.hid hif
          replace hxm := Lib.hid hxm
          go_wp2_with (first | (at_lookup; refine wpList_lookK (E := strKey) _ under107 rfl _ _ rfl (w.heap.size + 1) (L.take i) x false hd.out rfl rfl hM hok ?_) | (at_mapUpdate; refine wpList_layK (E := strKey) _ under107 rfl _ _ _ rfl (w.heap.size + 1) (L.take i) (L.take (i + 1)) x hif.out rfl rfl rfl hM hok ?_; intro w1 hM1 ht1))
          have hg1 := turned_grown ht1
          go_roundg (L.length - (i + 1))
          case measure => have := hi.out; omega
          case rel => exact ⟨i + 1, by go_num, by have := hi.out; omega, hM1, hrd.grown hg1 hle (fun a ha => by have := hne.out a ha; simpa using this), hb.grown hg1 hb.size (by intro k hk; cases hk; omega), hne.out, Nat.le_trans hle hg1.size⟩
      · have hR2 : R = 0 := by
          rw [hR.out, if_pos]
          have := hM
          obtain ⟨_, _, _, _, _, _, hn, _⟩ := this
          rwa [List.take_of_length_le (by omega)] at hn
        subst hR2
        go_wp2_with fail
        go_ret
        exact ⟨rfl, hb⟩
end Go.Proofs.YtnnkfgekiaaehaaGreat

/- slices.All over the productions, at elements that bear what is known of them. -/
namespace Go.Proofs.YtnnkfgekiaaehaaGreat
open Go.RowKit Go.Shelf
set_option linter.unusedVariables false
attribute [local go_sem] Oper.semAt_some
def uptoF {β : Type} (f : Nat → β) (k : Nat) : List β := (List.range k).map f
theorem uptoF_succ {β : Type} (f : Nat → β) (k : Nat) : uptoF f (k + 1) = uptoF f k ++ [f k] := by simp [uptoF, List.range_succ]
theorem uptoF_length {β : Type} (f : Nat → β) (k : Nat) : (uptoF f k).length = k := by simp [uptoF]
set_option maxRecDepth 100000 in
set_option maxHeartbeats 2000000 in
theorem allg1_in {β : Type} (f : Nat → β) (encs : β → Array Value) (n : Nat) (hn : 1 ≤ n) (l Bs n₀ : Nat) (A : Option Addr) (len cap : Nat) (vs : List PV) (hlen : len ≤ 1000000) (hf : ∀ k, k < len → encs (f k) = encP (k, vs.getD k default)) (J Jx : List β → World → Prop)
    (hY : ∀ pre x W, J pre W → pre.length < len → YieldAt Fence.wide (n - 1) Tryz.prog l (encs x) W fun e W' =>
      (e = .returned (.bool true) ∧ J (pre ++ [x]) W' ∧ Below n₀ W W') ∨ (e = .returned (.bool false) ∧ Jx (pre ++ [x]) W'))
    (W : World) (hJ : AbidesFrom W.heap.size J) (hn0 : n₀ ≤ W.heap.size) (hBs : W.cell? ⟨Bs, 0, none⟩ = some (.slice A len cap)) (hR : RdV W n₀ A len vs) (h0 : J [] W) :
    CallsIn Fence.wide n Tryz.prog 160 #[.func (.yield l) #[] #[], .pointer (some ⟨Bs, 0, none⟩)] W fun e W' => (∃ v, e = .returned v) ∧
      ((∃ ys, ys = uptoF f len ∧ J ys W') ∨ (∃ pre, (∃ k, k ≤ len ∧ pre = uptoF f k) ∧ Jx pre W')) := by
  refine callsIn_of_wp Tryz.func160 rfl trivial ?_ rfl
  simp only [Tryz.ntmps160, List.size_toArray, List.length_cons, List.length_nil, Nat.reduceAdd, Nat.reduceSub, Array.replicate_succ, Array.replicate_zero, List.push_toArray, List.append_toArray, List.nil_append, List.cons_append]
  gi_wp2
  gi_loopw [7] (fun i wr => ∃ k : Nat, k ≤ len ∧ i = .int .i64 k ∧ J (uptoF f k) wr ∧ Below n₀ W wr ∧ W.heap.size ≤ wr.heap.size)
    (fun i _ => len - (intOf i).toNat)
  case atStart => exact ⟨0, Nat.zero_le _, rfl, h0, Below.refl _ _, Nat.le_refl _⟩
  case round =>
    obtain ⟨k, hk, rfl, hJs, hnx, hge⟩ := hrel
    by_cases hlt : k < len
    · rcases hR.2 with hz | ⟨b, off, rfl, hb, hcs⟩
      · omega
      have hkl : k < vs.length := by rw [hR.1]; exact hlt
      obtain ⟨h1, h2⟩ := hcs k vs[k] (List.getElem?_eq_getElem hkl)
      have hgd : vs.getD k default = vs[k] := by simp [List.getD_eq_getElem?_getD, hkl]
      have x0 : wr.cell? ⟨b, off + k * 2, none⟩ = some (.int .i64 vs[k].p.left) := (hnx.cell (p := ⟨b, off + k * 2, none⟩) hb).trans h1
      have x1 : wr.cell? ⟨b, off + k * 2 + 1, none⟩ = some (.slice vs[k].ra vs[k].p.right.length vs[k].rc) := (hnx.cell (p := ⟨b, off + k * 2 + 1, none⟩) hb).trans h2
      have hsu := uptoF_succ f k
      have hfk := hf k hlt
      rw [hgd] at hfk
      replace hsu := Lib.hid hsu
      generalize vs[k] = x at *
      replace hgd := Lib.hid hgd
      have hJ1 := hJ _ _ _ none hJs (World.grownBy_alloc wr (.cells #[.int .i64 x.p.left, .slice x.ra x.p.right.length x.rc] 47) none) (by simp)
      have hbA : Below n₀ wr (wr.alloc (.cells #[.int .i64 x.p.left, .slice x.ra x.p.right.length x.rc] 47)) := (Below.refl _ _).alloc (by omega) _
      obtain ⟨fn, tmps, assign, body, hy, hR2⟩ := hY _ (f k) _ hJ1 (by rw [uptoF_length]; exact hlt)
      rw [hfk] at hy
      dsimp only [encP] at hy
      replace hfk := Lib.hid hfk
      gi_wp2
      refine hR2.mono ?_
      rintro e W3 (⟨rfl, hJ3, hk3⟩ | ⟨rfl, hJx3⟩)
      · gi_wp2
        go_roundw
        case rel => exact ⟨k + 1, by omega, by simp, by rw [hsu.out]; exact hJ3, hnx.trans (hbA.trans hk3), by have := hk3.size; simp at this; omega⟩
        case measure => simp [intOf]; omega
      · gi_wp2
        refine bodyPost_ret (results_none rfl _ _ _) rfl ?_
        exact ⟨⟨_, rfl⟩, .inr ⟨_, ⟨k + 1, by omega, hsu.out.symm⟩, hJx3⟩⟩
    · obtain rfl : k = len := by omega
      gi_wp2
      go_end0
      exact ⟨⟨_, rfl⟩, .inl ⟨_, rfl, hJs⟩⟩
theorem allg_stops {β : Type} (f : Nat → β) (encs : β → Array Value) (n : Nat) (hn : 1 ≤ n) (Bs n₀ : Nat) (A : Option Addr) (len cap : Nat) (vs : List PV) (hlen : len ≤ 1000000) (hf : ∀ k, k < len → encs (f k) = encP (k, vs.getD k default)) (w : World) (hBs : Bs < w.heap.size) (hn₀ : n₀ ≤ w.heap.size)
    (hc : w.cell? ⟨Bs, 0, none⟩ = some (.slice A len cap)) (hI : RdV w n₀ A len vs) :
    SeqStopsK Fence.wide n Tryz.prog 160 #[.pointer (some ⟨Bs, 0, none⟩)] encs (Below n₀) (fun ys => ys = uptoF f len) (fun pre => ∃ k, k ≤ len ∧ pre = uptoF f k) len w := fun l J Jx W hW hJ _ hY h0 => by
  have hc' := (hW.cell (p := ⟨Bs, 0, none⟩) hBs).trans hc
  exact allg1_in f encs n hn l Bs n₀ A len cap vs hlen hf J Jx hY W hJ (Nat.le_trans hn₀ hW.size) hc' (hI.below (hW.mono hn₀)) h0
def PVk (w : World) (x : PV) : Prop := PVok w w.heap.size x ∧ x.p.right.length ≤ 1000000
def PX (w : World) : Type := { x : Nat × PV // PVk w x.2 }
theorem pvok_default (w : World) : PVk w default := ⟨⟨Rd1.nil _ _ _, Nat.le_refl _, by simp [maxLen, show (default : PV).rc = 0 from rfl]⟩, by simp [show (default : PV).p.right = [] from rfl]⟩
theorem pvok_getD {w : World} {vs : List PV} (h : ∀ x ∈ vs, PVk w x) (k : Nat) : PVk w (vs.getD k default) := by
  rw [List.getD_eq_getElem?_getD]
  cases hk : vs[k]? with
  | none => exact pvok_default w
  | some x => exact h x (List.mem_of_getElem? hk)
def pxAt {w : World} {vs : List PV} (h : ∀ x ∈ vs, PVk w x) (k : Nat) : PX w := ⟨(k, vs.getD k default), pvok_getD h k⟩
def encX {w : World} (x : PX w) : Array Value := encP x.1
theorem px_mem {w : World} {vs : List PV} (h : ∀ x ∈ vs, PVk w x) {k : Nat} {y : PX w} (hk : k ≤ vs.length) (hy : y ∈ uptoF (pxAt h) k) : vs[y.1.1]? = some y.1.2 ∧ y.1.1 < k := by
  unfold uptoF at hy
  obtain ⟨j, hj, rfl⟩ := List.mem_map.1 hy
  have hj := List.mem_range.1 hj
  have hl : j < vs.length := by omega
  exact ⟨by simp [pxAt, List.getD_eq_getElem?_getD, hl], hj⟩
theorem px_at {w : World} {vs : List PV} (h : ∀ x ∈ vs, PVk w x) {k : Nat} (hk : k < vs.length) : (pxAt h k).1.2 = vs[k] := by simp [pxAt, List.getD_eq_getElem?_getD, hk]
end Go.Proofs.YtnnkfgekiaaehaaGreat

/- grammar.symbols. -/
namespace Go.Proofs.YtnnkfgekiaaehaaGreat
open Go.RowKit Go.Shelf
set_option linter.unusedVariables false
attribute [local go_sem] Oper.semAt_some
theorem GB.grown {w : World} {g : Gr} {a : GA} {W W1 : World} {row : Option Nat} (h : GB w g a W) (hg : W.grownBy W1 row) (hr : ∀ k, row = some k → w.heap.size < k) : GB w g a W1 :=
  ⟨h.1.grown hg (fun e => by have := hr _ e.symm; omega), h.2.1.below ((Below.refl _ _).grown hg h.2.2.size (fun k hk => by have := hr k hk; omega)), h.2.2.grown hg h.2.2.size (fun k hk => by have := hr k hk; omega)⟩
theorem keeps_below {B : Nat} {W W1 : World} (h : Below W.heap.size W W1) : KeepsFrom B W W1 := ⟨h.size, fun k o _ hk _ => (h.block k (Array.getElem?_eq_some_iff.1 hk).1).trans hk⟩
def SyI (w : World) (g : Gr) (a : GA) (q : List (PX w) → Bool) (r : Int) (pre : List (PX w)) (W : World) : Prop := q pre = true ∧ Blk W (w.heap.size + 1) 29 #[.int .i64 r] ∧ GB w g a W
def SyX (w : World) (g : Gr) (a : GA) (q : List (PX w) → Bool) (r : Int) (c : Code) (pre : List (PX w)) (W : World) : Prop := (c = .ret ∧ q pre = false) ∧ Blk W (w.heap.size + 1) 29 #[.int .i64 r] ∧ GB w g a W
theorem syI_own {B : Nat} (w : World) (g : Gr) (a : GA) (q : List (PX w) → Bool) (r : Int) (h : w.heap.size + 1 < B) : OwnFrom B (SyI w g a q r) := fun s X Y row hs hg hr =>
  ⟨hs.1, hs.2.1.grown hg (fun e => by have := (hr _ e.symm).1; omega), hs.2.2.grown hg (fun k hk => by have := (hr k hk).1; omega)⟩
theorem syX_own {B : Nat} (w : World) (g : Gr) (a : GA) (q : List (PX w) → Bool) (r : Int) (h : w.heap.size + 1 < B) (c : Code) : OwnFrom B (SyX w g a q r c) := fun s X Y row hs hg hr =>
  ⟨hs.1, hs.2.1.grown hg (fun e => by have := (hr _ e.symm).1; omega), hs.2.2.grown hg (fun k hk => by have := (hr k hk).1; omega)⟩
def allQ {w : World} (q : Pr → Bool) (pre : List (PX w)) : Bool := pre.all fun y => q y.1.2.p
theorem allQ_snoc {w : World} (q : Pr → Bool) (pre : List (PX w)) (x : PX w) : allQ q (pre ++ [x]) = (allQ q pre && q x.1.2.p) := by simp [allQ]
theorem allQ_all {w : World} {vs : List PV} (h : ∀ x ∈ vs, PVk w x) {q : Pr → Bool} (hq : allQ q (uptoF (pxAt h) vs.length) = true) : (vs.map PV.p).all q = true := by
  rw [List.all_eq_true]
  intro p hp
  obtain ⟨x, hx, rfl⟩ := List.mem_map.1 hp
  obtain ⟨i, hi, rfl⟩ := List.mem_iff_getElem.1 hx
  have := (List.all_eq_true.1 hq) (pxAt h i) (List.mem_map.2 ⟨i, List.mem_range.2 hi, rfl⟩)
  rwa [px_at h hi] at this
theorem allQ_not {w : World} {vs : List PV} (h : ∀ x ∈ vs, PVk w x) {q : Pr → Bool} {k : Nat} (hk : k ≤ vs.length) (hq : allQ q (uptoF (pxAt h) k) = false) : (vs.map PV.p).all q = false := by
  rw [List.all_eq_false]
  obtain ⟨y, hy, hyq⟩ := List.all_eq_false.1 hq
  exact ⟨y.1.2.p, List.mem_map_of_mem (List.mem_of_getElem? (px_mem h hk hy).1), hyq⟩
set_option maxRecDepth 100000 in
set_option maxHeartbeats 8000000 in
theorem symbols_any (g : Gr) (a : GA) (w : World) (hg : GrAt w w.heap.size g a) (hs : Small g) :
    Calls Tryz.prog 65 #[gval g a] w fun e w' => e = .returned (.int .i64 (if symB g = false then 14 else 0)) ∧ Below w.heap.size w w' := by
  obtain ⟨ta, tc, na, nc, pa, pc⟩ := a
  obtain ⟨R, hR⟩ : ∃ R : Int, R = if symB g = false then 14 else 0 := ⟨_, rfl⟩
  rw [← hR]
  replace hR := Lib.hid hR
  have hs1 := hs.t
  have hs2 := hs.n
  have hs3 := hs.p
  have hs4 := Lib.hid hs.r
  clear hs
  obtain ⟨vs, hvs1, hvs2, hvs3⟩ := hg.prods.vals
  have hvl : vs.length = g.prods.length := by rw [← hvs1]; simp
  have hvr : ∀ x ∈ vs, x.p.right.length ≤ 1000000 := fun x hx => hs4.out _ (by rw [← hvs1]; exact List.mem_map_of_mem hx)
  replace hvs3 : ∀ x ∈ vs, PVk w x := fun x hx => ⟨hvs3 x hx, hvr x hx⟩
  have hG0 := GB.start hg
  clear hg
  have hPr := Lib.hid (fun w => prods_any g ⟨ta, tc, na, nc, pa, pc⟩ w)
  have hN := Lib.hid (fun s w => nonterm_any g ⟨ta, tc, na, nc, pa, pc⟩ s w (by omega))
  have hS : symB g = (ntB g g.start && (vs.map PV.p).all (prB g)) := by rw [hvs1]; rfl
  have hC := Lib.hid (fun b0 A n c l w hb hr hl => consym_any g ⟨ta, tc, na, nc, pa, pc⟩ b0 A n c l w hb hs1 hs2 hr hl)
  clear hvs1 hs4
  unfold gval at *
  unfold gcells at hPr hN hG0 ⊢
  dsimp only at *
  refine (callsIn_wide (n := 6)).1 ?_
  cases hst : ntB g g.start with
  | false =>
    have hR3 : R = 14 := by rw [hR.out, if_pos]; rw [hS, hst]; rfl
    subst hR3
    have hN2 := Lib.hid (hN.out g.start)
    rw [hst] at hN2
    replace hst := Lib.hid hst
    refine callsIn_wide.2 ?_
    go_enter Tryz.func65, Tryz.ntmps65
    go_wp2_with fail
    refine (hN2.out _).mono ?_
    rintro e w1 ⟨rfl, hb1⟩
    have q2 : Blk w1 (w.heap.size + 1) 29 #[.int .i64 0] := (Blk.newAt _ _ _ _ (by simp)).step hb1
    have r0 := q2.cell 0
    have f0 := q2.frozen 0
    simp only [List.getElem?_toArray, List.getElem?_cons_zero, List.getElem?_cons_succ] at r0
    go_wp2_with fail
    exact bodyPost_ret (results_cell30 rfl _ _ _ _ rfl ((q2.put 0 _).cell 0)) rfl ⟨rfl, bSet (bStep (bAlc hG0.2.2 _) hb1) _ _ (by simp)⟩
  | true =>
    have hR2 : R = if (vs.map PV.p).all (prB g) = false then 14 else 0 := by rw [hR.out, hS, hst, Bool.true_and]
    replace hR2 := Lib.hid hR2
    have hN2 := Lib.hid (hN.out g.start)
    rw [hst] at hN2
    replace hst := Lib.hid hst
    clear hS hR
    refine callsIn_of_wp_marks Tryz.func65 rfl trivial ?_ rfl
    simp only [Tryz.ntmps65, List.size_toArray, List.length_cons, List.length_nil, Nat.reduceAdd, Nat.reduceSub, Array.replicate_succ, Array.replicate_zero, List.push_toArray, List.append_toArray, List.nil_append, List.cons_append]
    replace hvl := Lib.hid hvl
    gi_wp2_with (first
      | (refine ⟨trivial, ?_⟩; gi_at_call 103; refine (callsIn_wide.2 (hN2.out _)).mono ?_; rintro e w1 ⟨rfl, hb1⟩; have hG1 := (hG0.alloc _).step hb1; obtain ⟨c0, c1, c2, c3, c4, c5⟩ := hG1.cells; dsimp only at c1 c3 c5)
      | (refine ⟨trivial, ?_⟩; gi_at_call 100; refine (callsIn_wide.2 (hPr.out _)).mono ?_; rintro e w2 ⟨B, rfl, hB1, hB2, hB3⟩))
    have bR0 : Blk w1 (w.heap.size + 1) 29 #[.int .i64 0] := (Blk.newAt _ _ _ _ (by simp)).step hb1
    have bR := bR0.step hB3
    have hG := hG1.step hB3
    have hw2 := bR.lt
    clear c0 c1 c2 c3 c4 c5 hG0
    refine wpIn_rangeFunc_ownH (F := Fence.wide) rfl (by omega) (gf := 160) (lb := #[.pointer (some ⟨B, 0, none⟩)]) rfl trivial (enters_of Tryz.func160 (by kernel_rfl) rfl)
      (allg_stops (pxAt hvs3) encX 5 (by omega) B w.heap.size pa g.prods.length pc vs (by omega) (fun k hk => rfl) w2 hB2 hG.2.2.size hB1 (hvs2.below hG.2.2)) belowK_t (belowK_b hG.2.2.size) (Below.refl _ _) (fun _ => rfl)
      (SyI w g ⟨ta, tc, na, nc, pa, pc⟩ (allQ (prB g)) 0) (SyX w g ⟨ta, tc, na, nc, pa, pc⟩ (allQ (prB g)) 14) (syI_own w g _ _ 0 hw2) (syX_own w g _ _ 14 hw2)
      ⟨rfl, bR, hG⟩
      (fun x a' W => ∃ Bx, w.heap.size + 1 < Bx ∧ Blk W Bx 47 #[.int .i64 x.1.2.p.left, .slice x.1.2.ra x.1.2.p.right.length x.1.2.rc] ∧ ∃ (u0 u3 u5 u6 u7 u8 u9 u10 u11 u12 u13 u14 u15 u16 u17 u18 u19 u20 u21 u22 u23 u24 : Value), a' = { tmps := #[u0, .pointer (some ⟨w.heap.size, 0, none⟩), .pointer (some ⟨w.heap.size + 1, 0, none⟩), u3, .pointer (some ⟨Bx, 0, none⟩), u5, u6, u7, u8, u9, u10, u11, u12, u13, u14, u15, u16, u17, u18, u19, u20, u21, u22, u23, u24], defers := [] })
      (fun x a' _ X Y row hs hg hr => by obtain ⟨Bx, h1, h2, h3⟩ := hs; exact ⟨Bx, h1, blk_own Bx 47 (fun (_ : Unit) => #[.int .i64 x.1.2.p.left, .slice x.1.2.ra x.1.2.p.right.length x.1.2.rc]) () X Y row h2 hg (fun r e => (hr r e).2), h3⟩)
      ?assign ?body ?done ?stop
    case assign =>
      rintro l pre x W K ⟨hp, bR1, hG1⟩ hK
      dsimp only [encX, encP]
      gi_wp2
      exact hK _ _ ((KeepsOthers.alloc _ _).from _) ((Below.refl _ W).alloc hG1.2.2.size _) ⟨hp, bR1.alloc _, hG1.alloc _⟩ ⟨W.heap.size, by have := bR1.lt; omega, Blk.new W 47 _, _, _, _, _, _, _, _, _, _, _, _, _, _, _, _, _, _, _, _, _, _, _, rfl⟩
    case body =>
      rintro l pre x a' W hl ⟨r, hr⟩ ⟨hp, bR1, hG1⟩ ⟨Bx, hBx, bX, u0, u3, u5, u6, u7, u8, u9, u10, u11, u12, u13, u14, u15, u16, u17, u18, u19, u20, u21, u22, u23, u24, rfl⟩ hlt
      have p0 := bX.cell 0
      have p1 := bX.cell 1
      simp only [List.getElem?_toArray, List.getElem?_cons_zero, List.getElem?_cons_succ] at p0 p1
      obtain ⟨c0, c1, c2, c3, c4, c5⟩ := hG1.cells
      dsimp only at c1 c3 c5
      have hxk := x.2
      obtain ⟨⟨hxr, hxc, hxm⟩, hx6⟩ := hxk
      have hq := Lib.hid (allQ_snoc (prB g) pre x)
      have hN3 := Lib.hid (hN.out x.1.2.p.left)
      have hp' := Lib.hid hp
      clear hp
      cases hnl : ntB g x.1.2.p.left with
      | false =>
        have hpr : prB g x.1.2.p = false := by unfold prB; rw [hnl]; rfl
        have hqF : allQ (prB g) (pre ++ [x]) = false := by rw [hq.out, hpr, Bool.and_false]
        rw [hnl] at hN3
        replace hnl := Lib.hid hnl
        replace hpr := Lib.hid hpr
        replace hqF := Lib.hid hqF
        gi_wp2_with (refine ⟨trivial, ?_⟩; gi_at_call 103; refine (CallsIn.inRound l (callsIn_wide.2 (hN3.out _))).mono ?_; rintro e w3 ⟨rfl, hb3⟩; have bR2 := bR1.step hb3; have r0 := bR2.cell 0; have f0 := bR2.frozen 0; simp only [List.getElem?_toArray, List.getElem?_cons_zero, List.getElem?_cons_succ] at r0)
        refine ⟨trivial, ?_⟩
        gi_wp2
        exact ⟨(keeps_below hb3).trans ((KeepsOthers.setCell _ _ _).from _), ⟨rfl, hqF.out⟩, bR2.put 0 _, (hG1.step hb3).far _ _ (by simp)⟩
      | true =>
        have hpr : prB g x.1.2.p = x.1.2.p.right.all (syB g) := by unfold prB; rw [hnl]; rfl
        rw [hnl] at hN3
        replace hnl := Lib.hid hnl
        cases hall : x.1.2.p.right.all (syB g) with
        | false =>
          have hqF : allQ (prB g) (pre ++ [x]) = false := by rw [hq.out, hpr, hall, Bool.and_false]
          have hC2 := Lib.hid (fun W hb hr => hC.out w.heap.size x.1.2.ra x.1.2.p.right.length x.1.2.rc x.1.2.p.right W hb hr hx6)
          rw [hall] at hC2
          replace hpr := Lib.hid hpr
          replace hqF := Lib.hid hqF
          replace hall := Lib.hid hall
          gi_wp2_with (first
            | (refine ⟨trivial, ?_⟩; gi_at_call 103; refine (CallsIn.inRound l (callsIn_wide.2 (hN3.out _))).mono ?_; rintro e w3 ⟨rfl, hb3⟩; have bX3 := (bX.step hb3).cell 1; have hG3 := hG1.step hb3; simp only [List.getElem?_toArray, List.getElem?_cons_zero, List.getElem?_cons_succ] at bX3)
            | (refine ⟨trivial, ?_⟩; gi_at_call 104; refine (CallsIn.inRound l (callsIn_wide.2 (hC2.out w3 hG3.1 (((hxr.below hG3.2.2)).mono hG3.2.2.size)))).mono ?_; rintro e w4 ⟨rfl, hb4⟩; have bR4 := (bR1.step hb3).step hb4; have r0 := bR4.cell 0; have f0 := bR4.frozen 0; simp only [List.getElem?_toArray, List.getElem?_cons_zero, List.getElem?_cons_succ] at r0))
          exact ⟨((keeps_below hb3).trans (keeps_below hb4)).trans ((KeepsOthers.setCell _ _ _).from _), ⟨rfl, hqF.out⟩, bR4.put 0 _, (hG3.step hb4).far _ _ (by simp)⟩
        | true =>
          have hqT : allQ (prB g) (pre ++ [x]) = true := by rw [hq.out, hp'.out, hpr, hall]; rfl
          have hC2 := Lib.hid (fun W hb hr => hC.out w.heap.size x.1.2.ra x.1.2.p.right.length x.1.2.rc x.1.2.p.right W hb hr hx6)
          rw [hall] at hC2
          replace hpr := Lib.hid hpr
          replace hqT := Lib.hid hqT
          replace hall := Lib.hid hall
          gi_wp2_with (first
            | (refine ⟨trivial, ?_⟩; gi_at_call 103; refine (CallsIn.inRound l (callsIn_wide.2 (hN3.out _))).mono ?_; rintro e w3 ⟨rfl, hb3⟩; have bX3 := (bX.step hb3).cell 1; have hG3 := hG1.step hb3; simp only [List.getElem?_toArray, List.getElem?_cons_zero, List.getElem?_cons_succ] at bX3)
            | (refine ⟨trivial, ?_⟩; gi_at_call 104; refine (CallsIn.inRound l (callsIn_wide.2 (hC2.out w3 hG3.1 (((hxr.below hG3.2.2)).mono hG3.2.2.size)))).mono ?_; rintro e w4 ⟨rfl, hb4⟩))
          exact ⟨(keeps_below hb3).trans (keeps_below hb4), (bStep hb3 hb4).mono hG1.2.2.size, hqT.out, (bR1.step hb3).step hb4, hG3.step hb4⟩
    case done =>
      rintro D ys W hD rfl ⟨hp, bR1, hG1⟩ hK
      have hR3 : R = 0 := by
        rw [hR2.out, if_neg]
        rw [allQ_all hvs3 (by rw [hvl.out]; exact hp)]; simp
      subst hR3
      have r0 := bR1.cell 0
      have f0 := bR1.frozen 0
      simp only [List.getElem?_toArray, List.getElem?_cons_zero, List.getElem?_cons_succ] at r0
      replace hp := Lib.hid hp
      gi_wp2
      have hK' := (KeepsOthers.setCell W ⟨w.heap.size + 1, 0, none⟩ (.int .i64 0)).same D _ hK rfl
      refine ⟨by simp, .inl ⟨_, _, rfl, run_takeDeferred hK', ?_⟩⟩
      have b2 := (bR1.put 0 (.int .i64 0)).grown (grownBy_putObj' _ D (.deferred none)) (by simp; omega)
      exact ⟨_, results_cell30 rfl _ _ _ _ rfl (b2.cell 0), rfl, (bSet hG1.2.2 _ _ (by simp <;> omega)).trans (belowK_b (w := w) (Nat.le_refl _) _ D _ _ (by omega) hK' rfl rfl)⟩
    case stop =>
      rintro D c pre W hD ⟨k, hk, rfl⟩ ⟨⟨rfl, hqF⟩, bR1, hG1⟩ hK
      have hR3 : R = 14 := by rw [hR2.out, if_pos (allQ_not hvs3 (by rw [hvl.out]; exact hk) hqF)]
      subst hR3
      replace hqF := Lib.hid hqF
      gi_wp2
      refine ⟨by simp, .inl ⟨_, _, rfl, run_takeDeferred hK, ?_⟩⟩
      have b2 := bR1.grown (grownBy_putObj' _ D (.deferred none)) (by simp; omega)
      exact ⟨_, results_cell30 rfl _ _ _ _ rfl (b2.cell 0), rfl, hG1.2.2.trans (belowK_b (w := w) (Nat.le_refl _) _ D _ _ (by omega) hK rfl rfl)⟩
end Go.Proofs.YtnnkfgekiaaehaaGreat

/- A drawn region that only reads, inside a round of a range over a function. -/
namespace Go
section
variable {F : Fence} {n : Nat} {P : Program} {ops : Array Oper} {md : Region.Mode} {C : World → Prop}
theorem Oper.wpIn_of_quietR {l : Nat} {o : Oper} {a : Act} {K : Act → Prop} {K' : Act → World → Prop} {Q' : Exit → Act → World → Prop} {w : World} (hro : F.round = some l) (hd : ∀ c, o.op ≠ .defer c) (hw : C w) (h : ∀ a w', C w' → K a → K' a w')
    (ha : o.askedIn F P a C) (hh : o.quietIn F n P a C K) : o.wpIn F n P a w K' Q' := by
  obtain ⟨v, h1, h2⟩ := hh
  have h3 := h1 w hw
  unfold Oper.quietAtIn at h3
  unfold Oper.wpIn
  refine ⟨ha w hw, ?_⟩
  rw [hro, Oper.semAt_some l _ _ hd]
  generalize (execOp a.eval o).run P w = r at *
  cases r with
  | ok x w' =>
    cases x <;> simp only [Oper.quietUponIn] at h3 <;> simp only [Oper.uponIn]
    case value u =>
      obtain ⟨e1, e2⟩ := h3
      rw [e1, e2]
      exact h _ _ hw h2
    case skip =>
      obtain ⟨e1, e2⟩ := h3
      rw [e1, ← e2]
      exact h _ _ hw h2
    case enter f args =>
      obtain ⟨e1, hd, hc⟩ := h3
      rw [e1]
      exact ⟨hd, hc.mono fun e w'' ⟨he, hw''⟩ => by subst he; exact h _ _ hw'' h2⟩
  | halt x w' => simp only [Oper.quietUponIn] at h3
def noDefer (ops : Array Oper) : Bool := ops.all fun o => match o.op with | .defer _ => false | _ => true
theorem noDefer_spec {ops : Array Oper} (h : noDefer ops = true) (i : Nat) (o : Oper) (hi : ops[i]? = some o) : ∀ c, o.op ≠ .defer c := by
  intro c he
  have := Array.all_eq_true'.1 h o (Array.mem_of_getElem? hi)
  simp [he] at this
theorem wpOpIn_of_qOpInR {l i : Nat} {a : Act} {K : Act → Prop} {K' : Act → World → Prop} {Q' : Exit → Act → World → Prop} {w : World} (hro : F.round = some l) (hnd : noDefer ops = true) (hC : C w) (h : ∀ a w', C w' → K a → K' a w')
    (hh : qOpIn F n P ops C i K a) : wpOpIn F n P ops Q' i K' a w := by
  unfold qOpIn at hh
  unfold wpOpIn
  split
  · rename_i ho; simp only [ho] at hh; exact h _ _ hC hh
  · rename_i o ho
    simp only [ho] at hh
    obtain ⟨ha, hh⟩ := hh
    split
    · rename_i hw; simp only [hw, if_true] at hh; exact Oper.wpIn_of_quietR hro (noDefer_spec hnd i o ho) hC h ha hh
    · rename_i hw; simp only [hw] at hh; exact ⟨ha w hC, h _ _ hC hh⟩
theorem wpAnyIn_of_quietR {l : Nat} {Q : Act → Prop} {Q' : Exit → Act → World → Prop} (hro : F.round = some l) (hnd : noDefer ops = true) (hQ : ∀ a w, C w → Q a → Q' .normal a w) : ∀ (fuel : Nat) (listed : Array Bool) (a : Act) (w : World), C w →
    wpAnyQIn F n P md ops C Q fuel listed a → wpAnyIn F n P md ops Q' fuel listed a w
  | 0, _, _, _, hw, h => ⟨h.1, hQ _ _ hw h.2⟩
  | fuel + 1, _, _, _, hw, h => ⟨fun h0 => hQ _ _ hw (h.1 h0), fun i hi => wpOpIn_of_qOpInR hro hnd hw (fun a' w' hw' => wpAnyIn_of_quietR hro hnd hQ fuel _ a' w' hw') (h.2 i hi)⟩
theorem wpIn_region_quietR {id l : Nat} {Q : Exit → Act → World → Prop} {a : Act} {w : World} (hro : F.round = some l) (hnd : noDefer ops = true) (hm : P.follows .mixedOrders = true) (hB : Region.lexB .any ops = true) (hC : C { w with drawn := w.drawn + 1 })
    (h : wpQuietIn F n P ops C (fun a' => ∀ w', C w' → Q .normal a' w') ops.toList a) : (Code.region id ops true).wpIn F n P Q a w := by
  simp only [Region.lexB, Bool.and_eq_true] at hB
  refine wpIn_region_any hm (wpAnyIn_of_quietR (Q := fun a' => ∀ w', C w' → Q .normal a' w') hro hnd (fun _ w' hw' h => h w' hw') _ _ _ _ hC ?_)
  have := wpAnyQIn_lex (F := F) (n := n) (C := C) (md := .any) hB.1 ops.toList 0 (Array.replicate ops.size false) a (by simp) (by simpa using hB.2) h
  simpa using this
theorem wpIn_region_quietR_lit {id l : Nat} {Q : Exit → Act → World → Prop} {a : Act} {w : World} {ol : List Oper} (hro : F.round = some l) (hnd : noDefer ol.toArray = true) (hm : P.follows .mixedOrders = true) (hB : Region.lexB .any ol.toArray = true)
    (h : wpQuietIn F n P ol.toArray (fun w' => ∃ n, w' = w.drewN n) (fun a' => ∀ w', (∃ n, w' = w.drewN n) → Q .normal a' w') ol a) : (Code.region id ol.toArray true).wpIn F n P Q a w :=
  wpIn_region_quietR (C := fun w' => ∃ n, w' = w.drewN n) hro hnd hm hB ⟨1, rfl⟩ (by simpa using h)
end
end Go

/- grammar.ordered. -/
namespace Go.Proofs.YtnnkfgekiaaehaaGreat
open Go.RowKit Go.Shelf
set_option linter.unusedVariables false
attribute [local go_sem] Oper.semAt_some
def OX (n : Nat) : Type := { x : Nat × PV // x.1 ≤ n }
def oxAt (vs : List PV) (k : Nat) : OX vs.length := ⟨(min k vs.length, vs.getD k default), Nat.min_le_right _ _⟩
def encO {n : Nat} (x : OX n) : Array Value := encP x.1
def oxOk (vs : List PV) (x : OX vs.length) : Bool := decide (x.1.1 = 0) || decide ((vs.getD (x.1.1 - 1) default).p.left ≤ x.1.2.p.left)
def oxAll (vs : List PV) (pre : List (OX vs.length)) : Bool := pre.all (oxOk vs)
theorem oxAll_snoc (vs : List PV) (pre : List (OX vs.length)) (x : OX vs.length) : oxAll vs (pre ++ [x]) = (oxAll vs pre && oxOk vs x) := by simp [oxAll]
def OrI (w : World) (g : Gr) (a : GA) (vs : List PV) (r : Int) (pre : List (OX vs.length)) (W : World) : Prop := oxAll vs pre = true ∧ Blk W (w.heap.size + 1) 29 #[.int .i64 r] ∧ GB w g a W
def OrX (w : World) (g : Gr) (a : GA) (vs : List PV) (r : Int) (c : Code) (pre : List (OX vs.length)) (W : World) : Prop := (c = .ret ∧ oxAll vs pre = false) ∧ Blk W (w.heap.size + 1) 29 #[.int .i64 r] ∧ GB w g a W
theorem orI_own {B : Nat} (w : World) (g : Gr) (a : GA) (vs : List PV) (r : Int) (h : w.heap.size + 1 < B) : OwnFrom B (OrI w g a vs r) := fun s X Y row hs hg hr =>
  ⟨hs.1, hs.2.1.grown hg (fun e => by have := (hr _ e.symm).1; omega), hs.2.2.grown hg (fun k hk => by have := (hr k hk).1; omega)⟩
theorem orX_own {B : Nat} (w : World) (g : Gr) (a : GA) (vs : List PV) (r : Int) (h : w.heap.size + 1 < B) (c : Code) : OwnFrom B (OrX w g a vs r c) := fun s X Y row hs hg hr =>
  ⟨hs.1, hs.2.1.grown hg (fun e => by have := (hr _ e.symm).1; omega), hs.2.2.grown hg (fun k hk => by have := (hr k hk).1; omega)⟩
theorem ox_ord (g : Gr) (vs : List PV) (hvs : vs.map PV.p = g.prods) (k : Nat) (hk : k ≤ vs.length) : (oxAll vs (uptoF (oxAt vs) k) = true ↔ ∀ (j : Nat) (p q : Pr), j + 1 < k → g.prods[j]? = some p → g.prods[j + 1]? = some q → p.left ≤ q.left) := by
  unfold oxAll
  rw [List.all_eq_true]
  constructor
  · intro h j p q hjk hp hq
    have hj1 : j + 1 < vs.length := by omega
    have := h (oxAt vs (j + 1)) (List.mem_map.2 ⟨j + 1, List.mem_range.2 hjk, rfl⟩)
    have hm : min (j + 1) vs.length = j + 1 := by omega
    simp only [oxOk, oxAt, hm] at this
    rw [← hvs, List.getElem?_map] at hp hq
    have hj0 : j < vs.length := by omega
    simp [hj0] at hp
    simp [hj1] at hq
    subst hp; subst hq
    simpa [List.getD_eq_getElem?_getD, hj0, hj1] using this
  · intro h y hy
    unfold uptoF at hy
    obtain ⟨i, hi, rfl⟩ := List.mem_map.1 hy
    have hi := List.mem_range.1 hi
    have hm : min i vs.length = i := by omega
    cases i with
    | zero => simp [oxOk, oxAt]
    | succ j =>
      have hj0 : j < vs.length := by omega
      have hj1 : j + 1 < vs.length := by omega
      have := h j vs[j].p vs[j + 1].p hi (by rw [← hvs]; simp [hj0]) (by rw [← hvs]; simp [hj1])
      simp only [oxOk, oxAt, hm]
      simpa [List.getD_eq_getElem?_getD, hj0, hj1] using this
set_option maxRecDepth 100000 in
set_option maxHeartbeats 8000000 in
theorem ordered_any (g : Gr) (a : GA) (w : World) (hg : GrAt w w.heap.size g a) (hs : Small g) :
    Calls Tryz.prog 66 #[gval g a] w fun e w' => e = .returned (.int .i64 (if ordB g = false then 9 else 0)) ∧ Below w.heap.size w w' := by
  obtain ⟨ta, tc, na, nc, pa, pc⟩ := a
  obtain ⟨R, hR⟩ : ∃ R : Int, R = if ordB g = false then 9 else 0 := ⟨_, rfl⟩
  rw [← hR]
  replace hR := Lib.hid hR
  have hs3 := hs.p
  clear hs
  obtain ⟨vs, hvs1, hvs2, hvs3⟩ := hg.prods.vals
  have hvl : vs.length = g.prods.length := by rw [← hvs1]; simp
  have hG0 := GB.start hg
  clear hg hvs3
  have hO := Lib.hid (ord_iff g)
  have hX := Lib.hid (ox_ord g vs hvs1)
  have hPr := Lib.hid (fun w => prods_any g ⟨ta, tc, na, nc, pa, pc⟩ w)
  have hVp := Lib.hid (show ∀ j, j < vs.length → ∃ p, g.prods[j]? = some p ∧ (vs.getD j default).p.left = p.left from fun j hj => ⟨vs[j].p, by rw [← hvs1]; simp [hj], by simp [List.getD_eq_getElem?_getD, hj]⟩)
  clear hvs1
  unfold gval at *
  unfold gcells at *
  dsimp only at *
  refine (callsIn_wide (n := 6)).1 ?_
  refine callsIn_of_wp_marks Tryz.func66 rfl trivial ?_ rfl
  simp only [Tryz.ntmps66, List.size_toArray, List.length_cons, List.length_nil, Nat.reduceAdd, Nat.reduceSub, Array.replicate_succ, Array.replicate_zero, List.push_toArray, List.append_toArray, List.nil_append, List.cons_append]
  replace hvl := Lib.hid hvl
  gi_wp2_with (refine ⟨trivial, ?_⟩; gi_at_call 100; refine (callsIn_wide.2 (hPr.out _)).mono ?_; rintro e w2 ⟨B, rfl, hB1, hB2, hB3⟩)
  have bR : Blk w2 (w.heap.size + 1) 29 #[.int .i64 0] := (Blk.newAt _ _ _ _ (by simp)).step hB3
  have hG := (hG0.alloc _).step hB3
  have hw2 := bR.lt
  clear hG0
  refine wpIn_rangeFunc_ownH (F := Fence.wide) rfl (by omega) (gf := 160) (lb := #[.pointer (some ⟨B, 0, none⟩)]) rfl trivial (enters_of Tryz.func160 (by kernel_rfl) rfl)
    (allg_stops (oxAt vs) encO 5 (by omega) B w.heap.size pa g.prods.length pc vs (by omega) (fun k hk => by have := hvl.out; show encP (min k vs.length, vs.getD k default) = _; rw [show min k vs.length = k by omega]) w2 hB2 hG.2.2.size hB1 (hvs2.below hG.2.2)) belowK_t (belowK_b hG.2.2.size) (Below.refl _ _) (fun _ => rfl)
    (OrI w g ⟨ta, tc, na, nc, pa, pc⟩ vs 0) (OrX w g ⟨ta, tc, na, nc, pa, pc⟩ vs 9) (orI_own w g _ _ 0 hw2) (orX_own w g _ _ 9 hw2)
    ⟨rfl, bR, hG⟩
    (fun x a' W => ∃ Bx, w.heap.size + 1 < Bx ∧ Blk W Bx 47 #[.int .i64 x.1.2.p.left, .slice x.1.2.ra x.1.2.p.right.length x.1.2.rc] ∧ ∃ (u0 u5 u6 u7 u8 u9 u10 u11 u12 u13 u14 u15 u16 u17 u18 u19 u20 u21 u22 : Value), a' = { tmps := #[u0, .pointer (some ⟨w.heap.size, 0, none⟩), .pointer (some ⟨w.heap.size + 1, 0, none⟩), .int .i64 (x.1.1 : Int), .pointer (some ⟨Bx, 0, none⟩), u5, u6, u7, u8, u9, u10, u11, u12, u13, u14, u15, u16, u17, u18, u19, u20, u21, u22], defers := [] })
    (fun x a' _ X Y row hs hg hr => by obtain ⟨Bx, h1, h2, h3⟩ := hs; exact ⟨Bx, h1, blk_own Bx 47 (fun (_ : Unit) => #[.int .i64 x.1.2.p.left, .slice x.1.2.ra x.1.2.p.right.length x.1.2.rc]) () X Y row h2 hg (fun r e => (hr r e).2), h3⟩)
    ?assign ?body ?done ?stop
  case assign =>
    rintro l pre x W K ⟨hp, bR1, hG1⟩ hK
    dsimp only [encO, encP]
    gi_wp2
    exact hK _ _ ((KeepsOthers.alloc _ _).from _) ((Below.refl _ W).alloc hG1.2.2.size _) ⟨hp, bR1.alloc _, hG1.alloc _⟩ ⟨W.heap.size, by have := bR1.lt; omega, Blk.new W 47 _, _, _, _, _, _, _, _, _, _, _, _, _, _, _, _, _, _, _, _, rfl⟩
  case body =>
    rintro l pre x a' W hl ⟨r, hr⟩ ⟨hp, bR1, hG1⟩ ⟨Bx, hBx, bX, u0, u5, u6, u7, u8, u9, u10, u11, u12, u13, u14, u15, u16, u17, u18, u19, u20, u21, u22, rfl⟩ hlt
    have p0 := bX.cell 0
    have r0 := bR1.cell 0
    have f0 := bR1.frozen 0
    simp only [List.getElem?_toArray, List.getElem?_cons_zero, List.getElem?_cons_succ] at p0 r0
    obtain ⟨c0, c1, c2, c3, c4, c5⟩ := hG1.cells
    dsimp only at c1 c3 c5
    have hq := Lib.hid (oxAll_snoc vs pre x)
    have hp' := Lib.hid hp
    clear hp
    obtain ⟨⟨i, y⟩, hix⟩ := x
    dsimp only at hix p0 bX ⊢
    cases i with
    | zero =>
      have hqT : oxAll vs (pre ++ [⟨(0, y), hix⟩]) = true := by rw [hq.out, hp'.out]; simp [oxOk]
      replace hqT := Lib.hid hqT
      gi_wp2
      refine wpIn_region_quietR_lit rfl (by kernel_rfl) (by kernel_rfl) (by kernel_rfl) ?_
      repeat (gi_big_quiet_step (fail))
      refine wpQuietIn_nil ?_
      intro _ hw'
      obtain ⟨nq, hw''⟩ := hw'
      subst hw''
      gi_wp2
      exact ⟨keeps_below (bDrwN' W _), (bDrwN' W _).mono hG1.2.2.size, hqT.out, bR1.drewN _, hG1.drewN _⟩
    | succ j =>
      have hjn : j < g.prods.length := by have := hvl.out; omega
      obtain ⟨p, hpj, hpl⟩ := hVp.out j (by omega)
      obtain ⟨b, off, hA, hbt, z0, RA, rc, z1, hz2, hz3, hz4⟩ := hG1.2.1.prods.get hpj
      dsimp only at hA
      subst hA
      replace hpl := Lib.hid hpl
      replace hpj := Lib.hid hpj
      have zI : ((j + 1 : Nat) : Int) - 1 = (j : Int) := by omega
      have zw : IntKind.i64.wrap (j : Int) = j := IntWalk.i64_in _ (by omega)
      have z0' : (0 : Int) < ((j + 1 : Nat) : Int) := by omega
      have z2 : (0 : Int) ≤ j := by omega
      have z5 : (j : Int) < g.prods.length := by omega
      generalize p.left = pl at *
      generalize hyl : y.p.left = yl at *
      by_cases hle : yl < pl
      · have hqF : oxAll vs (pre ++ [⟨(j + 1, y), hix⟩]) = false := by
          rw [hq.out, hp'.out, Bool.true_and]
          simp only [oxOk]
          rw [show j + 1 - 1 = j from rfl, hpl.out, hyl]
          simp; omega
        replace hqF := Lib.hid hqF
        replace hyl := Lib.hid hyl
        gi_wp2
        refine wpIn_region_quietR_lit rfl (by kernel_rfl) (by kernel_rfl) (by kernel_rfl) ?_
        repeat (gi_big_quiet_step (fail))
        refine wpQuietIn_nil ?_
        intro _ hw'
        obtain ⟨nq, hw''⟩ := hw'
        subst hw''
        gi_wp2
        exact ⟨(keeps_below (bDrwN' W _)).trans ((KeepsOthers.setCell _ _ _).from _), ⟨rfl, hqF.out⟩, (bR1.drewN _).put 0 _, (hG1.drewN _).far _ _ (by simp)⟩
      · have hqT : oxAll vs (pre ++ [⟨(j + 1, y), hix⟩]) = true := by
          rw [hq.out, hp'.out, Bool.true_and]
          simp only [oxOk]
          rw [show j + 1 - 1 = j from rfl, hpl.out, hyl]
          simp; omega
        replace hqT := Lib.hid hqT
        replace hyl := Lib.hid hyl
        gi_wp2
        refine wpIn_region_quietR_lit rfl (by kernel_rfl) (by kernel_rfl) (by kernel_rfl) ?_
        repeat (gi_big_quiet_step (fail))
        refine wpQuietIn_nil ?_
        intro _ hw'
        obtain ⟨nq, hw''⟩ := hw'
        subst hw''
        gi_wp2
        exact ⟨keeps_below (bDrwN' W _), (bDrwN' W _).mono hG1.2.2.size, hqT.out, bR1.drewN _, hG1.drewN _⟩
  case done =>
    rintro D ys W hD rfl ⟨hp, bR1, hG1⟩ hK
    have hoT : ordB g = true := by
      rw [hO.out]
      intro j p q hp1 hq1
      have := (List.getElem?_eq_some_iff.1 hq1).1
      exact (hX.out g.prods.length (by have := hvl.out; omega)).1 hp j p q (by omega) hp1 hq1
    have hR3 : R = 0 := by rw [hR.out, if_neg (by rw [hoT]; simp)]
    subst hR3
    have r0 := bR1.cell 0
    have f0 := bR1.frozen 0
    simp only [List.getElem?_toArray, List.getElem?_cons_zero, List.getElem?_cons_succ] at r0
    replace hp := Lib.hid hp
    replace hoT := Lib.hid hoT
    gi_wp2
    have hK' := (KeepsOthers.setCell W ⟨w.heap.size + 1, 0, none⟩ (.int .i64 0)).same D _ hK rfl
    refine ⟨by simp, .inl ⟨_, _, rfl, run_takeDeferred hK', ?_⟩⟩
    have b2 := (bR1.put 0 (.int .i64 0)).grown (grownBy_putObj' _ D (.deferred none)) (by simp; omega)
    exact ⟨_, results_cell30 rfl _ _ _ _ rfl (b2.cell 0), rfl, (bSet hG1.2.2 _ _ (by simp <;> omega)).trans (belowK_b (w := w) (Nat.le_refl _) _ D _ _ (by omega) hK' rfl rfl)⟩
  case stop =>
    rintro D c pre W hD ⟨k, hk, rfl⟩ ⟨⟨rfl, hqF⟩, bR1, hG1⟩ hK
    have hoF : ordB g = false := by
      cases ho : ordB g with
      | false => rfl
      | true =>
        have := (hX.out k (by have := hvl.out; omega)).2 (fun j p q _ h1 h2 => (hO.out.1 ho) j p q h1 h2)
        rw [this] at hqF; cases hqF
    have hR3 : R = 9 := by rw [hR.out, if_pos hoF]
    subst hR3
    replace hqF := Lib.hid hqF
    replace hoF := Lib.hid hoF
    gi_wp2
    refine ⟨by simp, .inl ⟨_, _, rfl, run_takeDeferred hK, ?_⟩⟩
    have b2 := bR1.grown (grownBy_putObj' _ D (.deferred none)) (by simp; omega)
    exact ⟨_, results_cell30 rfl _ _ _ _ rfl (b2.cell 0), rfl, hG1.2.2.trans (belowK_b (w := w) (Nat.le_refl _) _ D _ _ (by omega) hK rfl rfl)⟩
end Go.Proofs.YtnnkfgekiaaehaaGreat

/- grammar.Check. -/
namespace Go.Proofs.YtnnkfgekiaaehaaGreat
open Go.ChangeShapes Go.WideShapes Go.ChangeAt Go.RowKit
set_option linter.unusedVariables false
def stepE (g : Gr) : Nat → Int
  | 0 => if fullB g = false then 6 else 0
  | 1 => if shortB g = true then 5 else if nameB g = false then 12 else 0
  | 2 => if ((g.toks ++ [g.sep]) ++ g.names).Nodup then 0 else 8
  | 3 => if symB g = false then 14 else 0
  | 4 => if ordB g = false then 9 else 0
  | _ => if compB g = false then 7 else 0
theorem small_not_cap (s : ByteArray) (h1 : smallB s = true) (h2 : capB s = true) : False := by
  unfold smallB at h1; unfold capB at h2
  simp only [Bool.and_eq_true, decide_eq_true_eq] at h1 h2
  omega
theorem diff_of_name (g : Gr) (h : nameB g = true) : (((g.toks ++ [g.sep]) ++ g.names).Nodup ↔ diffB g = true) := by
  unfold nameB at h
  unfold diffB
  rw [Bool.and_eq_true, List.all_eq_true, List.all_eq_true] at h
  rw [List.nodup_append]
  simp only [Bool.and_eq_true, decide_eq_true_eq]
  constructor
  · intro hh; exact ⟨hh.1, hh.2.1⟩
  · intro hh; exact ⟨hh.1, hh.2, fun a ha b hb e => small_not_cap a (h.1 a ha) (by rw [e]; exact h.2 b hb)⟩
theorem gchk_step (g : Gr) (hk : ¬ (g.k < 1 ∨ 4 < g.k)) (j : Nat) (hj : j < 6) (h0 : ∀ i, i < j → stepE g i = 0) (h1 : stepE g j ≠ 0) : gchk g = stepE g j := by
  have a0 := fun h => h0 0 h
  have a1 := fun h => h0 1 h
  have a2 := fun h => h0 2 h
  have a3 := fun h => h0 3 h
  have a4 := fun h => h0 4 h
  unfold gchk
  rw [if_neg hk]
  have hd := diff_of_name g
  have e4 : nameB g = true → (diffB g = false ↔ ¬ ((g.toks ++ [g.sep]) ++ g.names).Nodup) := fun h => by rw [hd h]; simp
  simp only [List.append_assoc, List.cons_append, List.nil_append] at e4
  clear hd
  rcases (show j = 0 ∨ j = 1 ∨ j = 2 ∨ j = 3 ∨ j = 4 ∨ j = 5 by omega) with rfl | rfl | rfl | rfl | rfl | rfl <;>
    simp [stepE] at a0 a1 a2 a3 a4 h1 ⊢ <;> (cases hsh : shortB g <;> cases hnm : nameB g <;> simp_all)
theorem gchk_last (g : Gr) (hk : ¬ (g.k < 1 ∨ 4 < g.k)) (h0 : ∀ i, i < 6 → stepE g i = 0) : gchk g = 0 := by
  have a0 := h0 0 (by omega)
  have a1 := h0 1 (by omega)
  have a2 := h0 2 (by omega)
  have a3 := h0 3 (by omega)
  have a4 := h0 4 (by omega)
  have a5 := h0 5 (by omega)
  unfold gchk
  rw [if_neg hk]
  have hd := diff_of_name g
  have e4 : nameB g = true → (diffB g = false ↔ ¬ ((g.toks ++ [g.sep]) ++ g.names).Nodup) := fun h => by rw [hd h]; simp
  simp only [List.append_assoc, List.cons_append, List.nil_append] at e4
  clear hd
  simp [stepE] at a0 a1 a2 a3 a4 a5 ⊢
  cases hsh : shortB g <;> cases hnm : nameB g <;> simp_all
theorem zeros_succ {f : Nat → Int} {n : Nat} (h : ∀ i, i < n → f i = 0) (h2 : f n = 0) : ∀ i, i < n + 1 → f i = 0 := fun i hi => by
  rcases Nat.lt_succ_iff_lt_or_eq.1 hi with h3 | rfl
  · exact h i h3
  · exact h2
def chkFuns : Array Value := #[.func (.func 62) #[] #[], .func (.func 63) #[] #[], .func (.func 64) #[] #[], .func (.func 65) #[] #[], .func (.func 66) #[] #[], .func (.func 67) #[] #[]]
set_option maxHeartbeats 4000000 in
theorem gcheck_any (g : Gr) (a : GA) (w : World) (hg : GrAt w w.heap.size g a) (hs : Small g) : Calls Tryz.prog 33 #[gval g a] w fun e w' => e = .returned (.int .i64 (gchk g)) ∧ Below w.heap.size w w' := by
  obtain ⟨ta, tc, na, nc, pa, pc⟩ := a
  obtain ⟨R, hR⟩ : ∃ R : Int, R = gchk g := ⟨_, rfl⟩
  rw [← hR]
  replace hR := Lib.hid hR
  have hG0 := GB.start hg
  have hS := Lib.hid (gchk_step g)
  have hL := Lib.hid (gchk_last g)
  have hA := Lib.hid (fun W (h : GrAt W W.heap.size g ⟨ta, tc, na, nc, pa, pc⟩) => show Calls Tryz.prog 62 #[gval g ⟨ta, tc, na, nc, pa, pc⟩] W fun e w' => e = .returned (.int .i64 (stepE g 0)) ∧ Below W.heap.size W w' from many_any g ⟨ta, tc, na, nc, pa, pc⟩ W h hs)
  have hB := Lib.hid (fun W (h : GrAt W W.heap.size g ⟨ta, tc, na, nc, pa, pc⟩) => show Calls Tryz.prog 63 #[gval g ⟨ta, tc, na, nc, pa, pc⟩] W fun e w' => e = .returned (.int .i64 (stepE g 1)) ∧ Below W.heap.size W w' from named_any g ⟨ta, tc, na, nc, pa, pc⟩ W h hs)
  have hC := Lib.hid (fun W (h : GrAt W W.heap.size g ⟨ta, tc, na, nc, pa, pc⟩) (h1 : stepE g 1 = 0) => show Calls Tryz.prog 64 #[gval g ⟨ta, tc, na, nc, pa, pc⟩] W fun e w' => e = .returned (.int .i64 (stepE g 2)) ∧ Below W.heap.size W w' from different_any g ⟨ta, tc, na, nc, pa, pc⟩ W h hs (fun h0 => by simp [stepE, shortB, h0] at h1))
  have hD := Lib.hid (fun W (h : GrAt W W.heap.size g ⟨ta, tc, na, nc, pa, pc⟩) => show Calls Tryz.prog 65 #[gval g ⟨ta, tc, na, nc, pa, pc⟩] W fun e w' => e = .returned (.int .i64 (stepE g 3)) ∧ Below W.heap.size W w' from symbols_any g ⟨ta, tc, na, nc, pa, pc⟩ W h hs)
  have hE := Lib.hid (fun W (h : GrAt W W.heap.size g ⟨ta, tc, na, nc, pa, pc⟩) => show Calls Tryz.prog 66 #[gval g ⟨ta, tc, na, nc, pa, pc⟩] W fun e w' => e = .returned (.int .i64 (stepE g 4)) ∧ Below W.heap.size W w' from ordered_any g ⟨ta, tc, na, nc, pa, pc⟩ W h hs)
  have hF := Lib.hid (fun W (h : GrAt W W.heap.size g ⟨ta, tc, na, nc, pa, pc⟩) => show Calls Tryz.prog 67 #[gval g ⟨ta, tc, na, nc, pa, pc⟩] W fun e w' => e = .returned (.int .i64 (stepE g 5)) ∧ Below W.heap.size W w' from complete_any g ⟨ta, tc, na, nc, pa, pc⟩ W h hs)
  clear hg hs
  unfold gval at *
  unfold gcells at hA hB hC hD hE hF hG0 ⊢
  dsimp only at *
  go_enter Tryz.func33, Tryz.ntmps33
  go_wp2_with fail
  go_step3
  go_upto_region 1 with (fail)
  obtain ⟨W, hW⟩ : ∃ W, W = w.alloc (.cells #[.int .i64 g.k, .slice ta g.toks.length tc, .string g.sep, .slice na g.names.length nc, .int .i64 g.start, .slice pa g.prods.length pc] 25) := ⟨_, rfl⟩
  rw [← hW] at hG0 ⊢
  clear hW
  obtain ⟨c0, c1, c2, c3, c4, c5⟩ := hG0.cells
  dsimp only at c1 c3 c5
  by_cases k1 : g.k < 1
  · have hR1 : R = 2 := hR.out.trans (gchk_1 (.inl k1))
    subst hR1
    go_wp2_with fail
    try rw [Exit.noGoto_ret]
    go_ret
    exact ⟨rfl, hG0.2.2⟩
  by_cases k2 : 4 < g.k
  · have hR1 : R = 2 := hR.out.trans (gchk_1 (.inr k2))
    subst hR1
    go_wp2_with fail
    try rw [Exit.noGoto_ret]
    go_ret
    exact ⟨rfl, hG0.2.2⟩
  have hk : ¬ (g.k < 1 ∨ 4 < g.k) := by omega
  replace hk := Lib.hid hk
  obtain ⟨B, hB0⟩ : ∃ B, B = W.heap.size := ⟨_, rfl⟩
  have hbF : Blk (W.alloc (.cells chkFuns 64)) B 64 chkFuns := Blk.newAt _ _ _ _ hB0
  have hG := hG0.alloc (.cells chkFuns 64)
  have hBw : w.heap.size < B := by rw [hB0]; exact hG0.lt
  clear hG0
  unfold chkFuns at hbF hG
  replace hB0 := Lib.hid hB0
  go_wp2_with fail
  go_step3
  go_wp2_with fail
  rw [← hB0.out]
  clear hB0 c0 c1 c2 c3 c4 c5
  go_loopg [15, 2] 6 (fun gk s15 s2 wr => ∃ j : Nat, s15 = .int .i64 j ∧ s2 = .int .i64 0 ∧ j + gk = 6 ∧ GB w g ⟨ta, tc, na, nc, pa, pc⟩ wr ∧ Blk wr B 64 #[.func (.func 62) #[] #[], .func (.func 63) #[] #[], .func (.func 64) #[] #[], .func (.func 65) #[] #[], .func (.func 66) #[] #[], .func (.func 67) #[] #[]] ∧ ∀ i, i < j → stepE g i = 0)
  case atStart => exact ⟨0, rfl, rfl, rfl, hG, hbF, by intro i h; omega⟩
  case round =>
    clear hG hbF
    obtain ⟨j, rfl, rfl, hj, hG, hbF, h0⟩ := hrel
    replace h0 := Lib.hid h0
    have cB0 := hbF.cell 0
    have cB1 := hbF.cell 1
    have cB2 := hbF.cell 2
    have cB3 := hbF.cell 3
    have cB4 := hbF.cell 4
    have cB5 := hbF.cell 5
    simp only [List.getElem?_toArray, List.getElem?_cons_zero, List.getElem?_cons_succ] at cB0 cB1 cB2 cB3 cB4 cB5
    obtain ⟨c0, c1, c2, c3, c4, c5⟩ := hG.cells
    dsimp only at c1 c3 c5
    by_cases hj6 : j = 6
    · subst hj6
      have hR3 : R = 0 := hR.out.trans (hL.out hk.out h0.out)
      subst hR3
      go_wp2_with fail
      try rw [Exit.noGoto_ret]
      go_ret
      exact ⟨rfl, hG.2.2⟩
    rcases (show j = 0 ∨ j = 1 ∨ j = 2 ∨ j = 3 ∨ j = 4 ∨ j = 5 by omega) with rfl | rfl | rfl | rfl | rfl | rfl
    · obtain ⟨E, hE0⟩ : ∃ E, E = stepE g 0 := ⟨_, rfl⟩
      have hc := Lib.hid (hA.out wr (hG.2.1.mono hG.2.2.size))
      rw [← hE0] at hc
      replace hE0 := Lib.hid hE0
      by_cases hz : E = 0
      · have hzz := Lib.hid (hE0.out.symm.trans hz)
        subst hz
        go_wp2_with (go_at_call 62; refine hc.out.mono ?_; rintro e w3 ⟨rfl, hb3⟩)
        go_roundg (6 - (0 + 1))
        case measure => omega
        case rel => exact ⟨0 + 1, by go_num, rfl, by omega, hG.step hb3, hbF.step hb3, zeros_succ h0.out hzz.out⟩
      · have hR3 : R = E := by rw [hR.out, hS.out hk.out 0 (by omega) h0.out (by rw [← hE0.out]; exact hz), ← hE0.out]
        subst hR3
        have hzb : (R == 0) = false := by simpa using hz
        go_wp2_with (go_at_call 62; refine hc.out.mono ?_; rintro e w3 ⟨rfl, hb3⟩)
        try rw [Exit.noGoto_ret]
        go_ret
        exact ⟨rfl, (hG.step hb3).2.2⟩
    · obtain ⟨E, hE0⟩ : ∃ E, E = stepE g 1 := ⟨_, rfl⟩
      have hc := Lib.hid (hB.out wr (hG.2.1.mono hG.2.2.size))
      rw [← hE0] at hc
      replace hE0 := Lib.hid hE0
      by_cases hz : E = 0
      · have hzz := Lib.hid (hE0.out.symm.trans hz)
        subst hz
        go_wp2_with (go_at_call 63; refine hc.out.mono ?_; rintro e w3 ⟨rfl, hb3⟩)
        go_roundg (6 - (1 + 1))
        case measure => omega
        case rel => exact ⟨1 + 1, by go_num, rfl, by omega, hG.step hb3, hbF.step hb3, zeros_succ h0.out hzz.out⟩
      · have hR3 : R = E := by rw [hR.out, hS.out hk.out 1 (by omega) h0.out (by rw [← hE0.out]; exact hz), ← hE0.out]
        subst hR3
        have hzb : (R == 0) = false := by simpa using hz
        go_wp2_with (go_at_call 63; refine hc.out.mono ?_; rintro e w3 ⟨rfl, hb3⟩)
        try rw [Exit.noGoto_ret]
        go_ret
        exact ⟨rfl, (hG.step hb3).2.2⟩
    · obtain ⟨E, hE0⟩ : ∃ E, E = stepE g 2 := ⟨_, rfl⟩
      have hc := Lib.hid (hC.out wr (hG.2.1.mono hG.2.2.size) (h0.out 1 (by omega)))
      rw [← hE0] at hc
      replace hE0 := Lib.hid hE0
      by_cases hz : E = 0
      · have hzz := Lib.hid (hE0.out.symm.trans hz)
        subst hz
        go_wp2_with (go_at_call 64; refine hc.out.mono ?_; rintro e w3 ⟨rfl, hb3⟩)
        go_roundg (6 - (2 + 1))
        case measure => omega
        case rel => exact ⟨2 + 1, by go_num, rfl, by omega, hG.step hb3, hbF.step hb3, zeros_succ h0.out hzz.out⟩
      · have hR3 : R = E := by rw [hR.out, hS.out hk.out 2 (by omega) h0.out (by rw [← hE0.out]; exact hz), ← hE0.out]
        subst hR3
        have hzb : (R == 0) = false := by simpa using hz
        go_wp2_with (go_at_call 64; refine hc.out.mono ?_; rintro e w3 ⟨rfl, hb3⟩)
        try rw [Exit.noGoto_ret]
        go_ret
        exact ⟨rfl, (hG.step hb3).2.2⟩
    · obtain ⟨E, hE0⟩ : ∃ E, E = stepE g 3 := ⟨_, rfl⟩
      have hc := Lib.hid (hD.out wr (hG.2.1.mono hG.2.2.size))
      rw [← hE0] at hc
      replace hE0 := Lib.hid hE0
      by_cases hz : E = 0
      · have hzz := Lib.hid (hE0.out.symm.trans hz)
        subst hz
        go_wp2_with (go_at_call 65; refine hc.out.mono ?_; rintro e w3 ⟨rfl, hb3⟩)
        go_roundg (6 - (3 + 1))
        case measure => omega
        case rel => exact ⟨3 + 1, by go_num, rfl, by omega, hG.step hb3, hbF.step hb3, zeros_succ h0.out hzz.out⟩
      · have hR3 : R = E := by rw [hR.out, hS.out hk.out 3 (by omega) h0.out (by rw [← hE0.out]; exact hz), ← hE0.out]
        subst hR3
        have hzb : (R == 0) = false := by simpa using hz
        go_wp2_with (go_at_call 65; refine hc.out.mono ?_; rintro e w3 ⟨rfl, hb3⟩)
        try rw [Exit.noGoto_ret]
        go_ret
        exact ⟨rfl, (hG.step hb3).2.2⟩
    · obtain ⟨E, hE0⟩ : ∃ E, E = stepE g 4 := ⟨_, rfl⟩
      have hc := Lib.hid (hE.out wr (hG.2.1.mono hG.2.2.size))
      rw [← hE0] at hc
      replace hE0 := Lib.hid hE0
      by_cases hz : E = 0
      · have hzz := Lib.hid (hE0.out.symm.trans hz)
        subst hz
        go_wp2_with (go_at_call 66; refine hc.out.mono ?_; rintro e w3 ⟨rfl, hb3⟩)
        go_roundg (6 - (4 + 1))
        case measure => omega
        case rel => exact ⟨4 + 1, by go_num, rfl, by omega, hG.step hb3, hbF.step hb3, zeros_succ h0.out hzz.out⟩
      · have hR3 : R = E := by rw [hR.out, hS.out hk.out 4 (by omega) h0.out (by rw [← hE0.out]; exact hz), ← hE0.out]
        subst hR3
        have hzb : (R == 0) = false := by simpa using hz
        go_wp2_with (go_at_call 66; refine hc.out.mono ?_; rintro e w3 ⟨rfl, hb3⟩)
        try rw [Exit.noGoto_ret]
        go_ret
        exact ⟨rfl, (hG.step hb3).2.2⟩
    · obtain ⟨E, hE0⟩ : ∃ E, E = stepE g 5 := ⟨_, rfl⟩
      have hc := Lib.hid (hF.out wr (hG.2.1.mono hG.2.2.size))
      rw [← hE0] at hc
      replace hE0 := Lib.hid hE0
      by_cases hz : E = 0
      · have hzz := Lib.hid (hE0.out.symm.trans hz)
        subst hz
        go_wp2_with (go_at_call 67; refine hc.out.mono ?_; rintro e w3 ⟨rfl, hb3⟩)
        go_roundg (6 - (5 + 1))
        case measure => omega
        case rel => exact ⟨5 + 1, by go_num, rfl, by omega, hG.step hb3, hbF.step hb3, zeros_succ h0.out hzz.out⟩
      · have hR3 : R = E := by rw [hR.out, hS.out hk.out 5 (by omega) h0.out (by rw [← hE0.out]; exact hz), ← hE0.out]
        subst hR3
        have hzb : (R == 0) = false := by simpa using hz
        go_wp2_with (go_at_call 67; refine hc.out.mono ?_; rintro e w3 ⟨rfl, hb3⟩)
        try rw [Exit.noGoto_ret]
        go_ret
        exact ⟨rfl, (hG.step hb3).2.2⟩
end Go.Proofs.YtnnkfgekiaaehaaGreat

/- grammar.Nonterm, follow.nonterm. -/
namespace Go.Proofs.YtnnkfgekiaaehaaGreat
open Go.ChangeShapes Go.WideShapes Go.ChangeAt Go.RowKit
set_option linter.unusedVariables false
def nonE (g : Gr) (s : Int) : Int := if gchk g = 0 then (if ntB g s then 0 else 14) else gchk g
def nonV (g : Gr) (s : Int) : Int := if nonE g s = 0 then s - 16 else 0
set_option maxHeartbeats 2000000 in
theorem nonterm42_any (g : Gr) (a : GA) (s : Int) (w : World) (hg : GrAt w w.heap.size g a) (hs : Small g) (h64 : -1000000 ≤ s) (h64' : s ≤ 1000000) :
    Calls Tryz.prog 96 #[gval g a, .int .i64 s] w fun e w' => e = .returned (.tuple #[.int .i64 (nonV g s), .int .i64 (nonE g s)]) ∧ Below w.heap.size w w' := by
  obtain ⟨ta, tc, na, nc, pa, pc⟩ := a
  obtain ⟨V, hV⟩ : ∃ V : Int, V = nonV g s := ⟨_, rfl⟩
  obtain ⟨E, hE⟩ : ∃ E : Int, E = nonE g s := ⟨_, rfl⟩
  rw [← hV, ← hE]
  have hV' := hV
  have hE' := hE
  rw [nonV, ← hE] at hV
  rw [nonE] at hE
  have hG0 := GB.start hg
  have hC := Lib.hid (fun W (h : GrAt W W.heap.size g ⟨ta, tc, na, nc, pa, pc⟩) => gcheck_any g ⟨ta, tc, na, nc, pa, pc⟩ W h hs)
  have hN := Lib.hid (fun W => nonterm_any g ⟨ta, tc, na, nc, pa, pc⟩ s W (by have := hs.n; omega))
  clear hg hs hV' hE'
  obtain ⟨C, hCv⟩ : ∃ C : Int, C = gchk g := ⟨_, rfl⟩
  rw [← hCv] at hE hC
  clear hCv
  unfold gval gcells at *
  dsimp only at *
  go_enter Tryz.func96, Tryz.ntmps96
  go_upto_region 1 with (fail)
  obtain ⟨W, hW⟩ : ∃ W, W = w.alloc (.cells #[.int .i64 g.k, .slice ta g.toks.length tc, .string g.sep, .slice na g.names.length nc, .int .i64 g.start, .slice pa g.prods.length pc] 25) := ⟨_, rfl⟩
  rw [← hW] at hG0 ⊢
  clear hW
  obtain ⟨c0, c1, c2, c3, c4, c5⟩ := hG0.cells
  dsimp only at c1 c3 c5
  by_cases hz : C = 0
  · subst hz
    rw [if_pos rfl] at hE
    cases hn : ntB g s with
    | true =>
      rw [hn] at hN
      rw [hn, if_pos rfl] at hE
      subst hE
      rw [if_pos rfl] at hV
      subst hV
      replace hn := Lib.hid hn
      go_wp2_with (first
        | (go_at_call 33; refine (hC.out _ (hG0.2.1.mono hG0.2.2.size)).mono ?_; rintro e w1 ⟨rfl, hb1⟩; have hG1 := hG0.step hb1; obtain ⟨d0, d1, d2, d3, d4, d5⟩ := hG1.cells; dsimp only at d1 d3 d5)
        | (go_at_call 103; refine (hN.out _).mono ?_; rintro e w2 ⟨rfl, hb2⟩))
      go_ret2
      exact ⟨rfl, (hG1.step hb2).2.2⟩
    | false =>
      rw [hn] at hN
      rw [hn, if_neg (by simp)] at hE
      subst hE
      rw [if_neg (by simp)] at hV
      subst hV
      replace hn := Lib.hid hn
      go_wp2_with (first
        | (go_at_call 33; refine (hC.out _ (hG0.2.1.mono hG0.2.2.size)).mono ?_; rintro e w1 ⟨rfl, hb1⟩; have hG1 := hG0.step hb1; obtain ⟨d0, d1, d2, d3, d4, d5⟩ := hG1.cells; dsimp only at d1 d3 d5)
        | (go_at_call 103; refine (hN.out _).mono ?_; rintro e w2 ⟨rfl, hb2⟩))
      go_ret2
      exact ⟨rfl, (hG1.step hb2).2.2⟩
  · rw [if_neg hz] at hE
    subst hE
    rw [if_neg hz] at hV
    subst hV
    have hzb : (E == 0) = false := by simpa using hz
    have hzn : (E != 0) = true := by simpa using hz
    go_wp2_with (go_at_call 33; refine (hC.out _ (hG0.2.1.mono hG0.2.2.size)).mono ?_; rintro e w1 ⟨rfl, hb1⟩)
    go_ret2
    exact ⟨rfl, (hG0.step hb1).2.2⟩
set_option maxHeartbeats 2000000 in
theorem nonterm24_any (g : Gr) (a : GA) (s : Int) (w : World) (hg : GrAt w w.heap.size g a) (hs : Small g) (h64 : -1000000 ≤ s) (h64' : s ≤ 1000000) :
    Calls Tryz.prog 48 #[gval g a, .int .i64 s] w fun e w' => e = .returned (.tuple #[.int .i64 (nonV g s), .int .i64 (nonE g s)]) ∧ Below w.heap.size w w' := by
  obtain ⟨ta, tc, na, nc, pa, pc⟩ := a
  obtain ⟨V, hV⟩ : ∃ V : Int, V = nonV g s := ⟨_, rfl⟩
  obtain ⟨E, hE⟩ : ∃ E : Int, E = nonE g s := ⟨_, rfl⟩
  have hN := Lib.hid (fun W (h : GrAt W W.heap.size g ⟨ta, tc, na, nc, pa, pc⟩) => nonterm42_any g ⟨ta, tc, na, nc, pa, pc⟩ s W h hs h64 h64')
  rw [← hV, ← hE] at hN ⊢
  have hG0 := GB.start hg
  have hC := Lib.hid (fun W (h : GrAt W W.heap.size g ⟨ta, tc, na, nc, pa, pc⟩) => gcheck_any g ⟨ta, tc, na, nc, pa, pc⟩ W h hs)
  obtain ⟨C, hCv⟩ : ∃ C : Int, C = gchk g := ⟨_, rfl⟩
  have hCE : C ≠ 0 → E = C ∧ V = 0 := fun h => by
    have e : nonE g s = C := by unfold nonE; rw [← hCv, if_neg h]
    rw [hE, hV]; unfold nonV; rw [e, if_neg h]; exact ⟨rfl, rfl⟩
  rw [← hCv] at hC
  replace hCE := Lib.hid hCE
  clear hCv hV hE hg hs
  unfold gval gcells at *
  dsimp only at *
  go_enter Tryz.func48, Tryz.ntmps48
  go_upto_region 1 with (fail)
  obtain ⟨W, hW⟩ : ∃ W, W = w.alloc (.cells #[.int .i64 g.k, .slice ta g.toks.length tc, .string g.sep, .slice na g.names.length nc, .int .i64 g.start, .slice pa g.prods.length pc] 25) := ⟨_, rfl⟩
  rw [← hW] at hG0 ⊢
  clear hW
  obtain ⟨c0, c1, c2, c3, c4, c5⟩ := hG0.cells
  dsimp only at c1 c3 c5
  by_cases hz : C = 0
  · subst hz
    go_wp2_with (first
      | (go_at_call 33; refine (hC.out _ (hG0.2.1.mono hG0.2.2.size)).mono ?_; rintro e w1 ⟨rfl, hb1⟩; have hG1 := hG0.step hb1; obtain ⟨d0, d1, d2, d3, d4, d5⟩ := hG1.cells; dsimp only at d1 d3 d5)
      | (go_at_call 96; refine (hN.out _ (hG1.2.1.mono hG1.2.2.size)).mono ?_; rintro e w2 ⟨rfl, hb2⟩))
    go_ret2
    exact ⟨rfl, (hG1.step hb2).2.2⟩
  · obtain ⟨rfl, rfl⟩ := hCE.out hz
    have hzb : (E == 0) = false := by simpa using hz
    have hzn : (E != 0) = true := by simpa using hz
    go_wp2_with (go_at_call 33; refine (hC.out _ (hG0.2.1.mono hG0.2.2.size)).mono ?_; rintro e w1 ⟨rfl, hb1⟩)
    go_ret2
    exact ⟨rfl, (hG0.step hb1).2.2⟩
end Go.Proofs.YtnnkfgekiaaehaaGreat

/- follow.plus. -/
namespace Go.Proofs.YtnnkfgekiaaehaaGreat
open Go.ChangeShapes Go.WideShapes Go.ChangeAt Go.RowKit
set_option linter.unusedVariables false
set_option maxHeartbeats 2000000 in
theorem plus_any (k : Nat) (x y : Lk) (Bk : Nat) (w : World) (hk : k ≤ 4) (hx : x.right 8) (hy : y.right 8) (hxk : x.l.length ≤ k) (hc : w.cell? ⟨Bk, 0, none⟩ = some (.int .i64 k)) (hBk : Bk < w.heap.size) :
    Calls Tryz.prog 75 #[x.v, y.v, .pointer (some ⟨Bk, 0, none⟩)] w fun e w' => e = .returned (lplus k x y).v ∧ Below w.heap.size w w' := by
  have hD := Lib.hid (Lk.cellAt y)
  have h2 := ((right_iff y 8).1 hy).2.1
  have hY := Lib.hid (fun i => s_getD hy i)
  have hlx := (right_l hx).1
  have hly := (right_l hy).1
  have hxo := (right_l hx).2.2.1
  obtain ⟨m, hm⟩ := Int.eq_ofNat_of_zero_le h2.1
  clear hx hy
  have hR : lplus k x y = Lk.of ((x.l ++ y.l).take k) := rfl
  rw [hR]
  clear hR
  generalize x.l = t at *
  subst hxo
  unfold Lk.v
  generalize y.l = u at *
  rw [hm] at hly
  obtain rfl : m = u.length := by omega
  clear hly hlx
  generalize y.s = s' at *
  generalize y.n = yn at *
  subst hm
  obtain ⟨x, hxt⟩ : ∃ x, x = Lk.of t := ⟨_, rfl⟩
  have hx0 : x.cells = (Lk.of t).cells := by rw [hxt]
  rw [← hxt]
  replace hxt := Lib.hid hxt
  unfold Lk.cells at hx0
  replace hx0 := Lib.hid hx0
  go_enter Tryz.func75, Tryz.ntmps75
  go_wp2_with fail
  have q0 : Blk (((w.alloc (.cells #[.int .i64 x.n, .int .i64 x.a, .int .i64 x.b, .int .i64 x.c, .int .i64 x.d] 41)).alloc (.cells #[.int .i64 u.length, .int .i64 y.a, .int .i64 y.b, .int .i64 y.c, .int .i64 y.d] 41)).alloc (.cells #[.int .i64 0, .int .i64 0, .int .i64 0, .int .i64 0, .int .i64 0] 41)) w.heap.size 41 (Lk.of (t ++ u.take 0)).cells := by
    have := ((Blk.new w 41 #[.int .i64 x.n, .int .i64 x.a, .int .i64 x.b, .int .i64 x.c, .int .i64 x.d]).alloc (.cells #[.int .i64 u.length, .int .i64 y.a, .int .i64 y.b, .int .i64 y.c, .int .i64 y.d] 41)).alloc (.cells #[.int .i64 0, .int .i64 0, .int .i64 0, .int .i64 0, .int .i64 0] 41)
    rw [hx0.out] at this ⊢
    simpa [Lk.cells] using this
  have q1 : Blk (((w.alloc (.cells #[.int .i64 x.n, .int .i64 x.a, .int .i64 x.b, .int .i64 x.c, .int .i64 x.d] 41)).alloc (.cells #[.int .i64 u.length, .int .i64 y.a, .int .i64 y.b, .int .i64 y.c, .int .i64 y.d] 41)).alloc (.cells #[.int .i64 0, .int .i64 0, .int .i64 0, .int .i64 0, .int .i64 0] 41)) (w.heap.size + 1) 41 #[.int .i64 u.length, .int .i64 y.a, .int .i64 y.b, .int .i64 y.c, .int .i64 y.d] := (Blk.newAt _ _ _ _ (by simp)).alloc _
  have q2 : Blk (((w.alloc (.cells #[.int .i64 x.n, .int .i64 x.a, .int .i64 x.b, .int .i64 x.c, .int .i64 x.d] 41)).alloc (.cells #[.int .i64 u.length, .int .i64 y.a, .int .i64 y.b, .int .i64 y.c, .int .i64 y.d] 41)).alloc (.cells #[.int .i64 0, .int .i64 0, .int .i64 0, .int .i64 0, .int .i64 0] 41)) (w.heap.size + 1 + 1) 41 (Lk.of []).cells := Blk.newAt _ _ _ _ (by simp)
  have q4 := bAlc (bAlc (bAlc (Below.refl w.heap.size w) (.cells #[.int .i64 x.n, .int .i64 x.a, .int .i64 x.b, .int .i64 x.c, .int .i64 x.d] 41)) (.cells #[.int .i64 u.length, .int .i64 y.a, .int .i64 y.b, .int .i64 y.c, .int .i64 y.d] 41)) (.cells #[.int .i64 0, .int .i64 0, .int .i64 0, .int .i64 0, .int .i64 0] 41)
  go_loopg [6] u.length (fun gk i wr => ∃ r : Nat, i = .int .i64 r ∧ t.length + r ≤ k ∧ r + gk = u.length ∧
    Blk wr w.heap.size 41 (Lk.of (t ++ u.take r)).cells ∧ Blk wr (w.heap.size + 1) 41 #[.int .i64 u.length, .int .i64 y.a, .int .i64 y.b, .int .i64 y.c, .int .i64 y.d] ∧
    Blk wr (w.heap.size + 1 + 1) 41 (Lk.of []).cells ∧ Below w.heap.size w wr)
  case atStart => exact ⟨0, rfl, by omega, by omega, q0, q1, q2, q4⟩
  case round =>
    clear q0 q1 q2 q4
    obtain ⟨r, rfl, hk1, hr, q0, q1, q2, q4⟩ := hrel
    have c10 := q1.cell 0
    have c00 := q0.cell 0
    have hck : wr.cell? ⟨Bk, 0, none⟩ = some (.int .i64 k) := (q4.cell (p := ⟨Bk, 0, none⟩) hBk).trans hc
    have hr' := Lib.hid hr
    clear hr
    have hul : (u.take r).length = r := by rw [List.length_take]; have := hr'.out; omega
    have hpr : (t ++ u.take r).length = t.length + r := by rw [List.length_append, hul]
    rw [of_cell0, hpr] at c00
    replace hul := Lib.hid hul
    simp only [List.getElem?_toArray, List.getElem?_cons_zero, List.getElem?_cons_succ] at c10
    by_cases hrk : r < u.length ∧ t.length + r < k
    · obtain ⟨hr1, hr2⟩ := hrk
      have hr4 : r < 4 := by omega
      have c1r := q1.cell (1 + r)
      rw [hD.out r hr4] at c1r
      have c0r := q0.cell (1 + (t.length + r))
      have e3 : (Lk.of (t ++ u.take r)).cells[1 + (t.length + r)]? = some (.int .i64 ((Lk.of (t ++ u.take r)).s (t.length + r))) := Lk.cellAt _ (t.length + r) (by omega)
      rw [e3] at c0r
      have f0r := q0.frozen (1 + (t.length + r))
      have f00 := q0.frozen 0
      replace hpr := Lib.hid hpr
      clear e3
      go_wp2_with fail
      go_region
      all_goals go_wp2_with fail
      have hq := plus_put (v := s' r) q0.drew hpr.out (by omega)
      have hts := take_snocI u r hr1
      rw [← hY.out r] at hts
      rw [List.append_assoc, ← hts, Int.natCast_add] at hq
      go_roundg (u.length - (r + 1))
      case measure => have := hr'.out; omega
      case rel =>
        exact ⟨r + 1, by go_num, by omega, by have := hr'.out; omega, hq, (q1.drew.far (by simp <;> omega) _).far (by simp <;> omega) _, (q2.drew.far (by simp <;> omega) _).far (by simp <;> omega) _, bSet (bSet (bDrw q4) _ _ (by simp <;> omega)) _ _ (by simp <;> omega)⟩
    · have hend : t ++ u.take r = (t ++ u).take k := by
        have := hr'.out
        rw [List.take_append, List.take_of_length_le (by omega : t.length ≤ k)]
        congr 1
        by_cases hru : r < u.length
        · rw [show k - t.length = r by omega]
        · rw [List.take_of_length_le (by omega), List.take_of_length_le (by omega)]
      replace hend := Lib.hid hend
      have d0 := q0.cell 0
      have d1 := q0.cell 1
      have d2 := q0.cell 2
      have d3 := q0.cell 3
      have d4 := q0.cell 4
      have z0 := q2.frozen 0
      have z1 := q2.frozen 1
      have z2 := q2.frozen 2
      have z3 := q2.frozen 3
      have z4 := q2.frozen 4
      have y0 := q2.cell 0
      have y1 := q2.cell 1
      have y2 := q2.cell 2
      have y3 := q2.cell 3
      have y4 := q2.cell 4
      clear c00
      have hfn : (Lk.of (t ++ u.take r)).n = ((t.length + r : Nat) : Int) := by rw [of_n, hpr]
      replace hfn := Lib.hid hfn
      generalize t ++ u.take r = f at *
      simp only [Lk.cells, List.getElem?_toArray, List.getElem?_cons_zero, List.getElem?_cons_succ] at d0 d1 d2 d3 d4 y0 y1 y2 y3 y4
      by_cases hr1 : r < u.length
      · have hk4 : ¬ (Lk.of f).n < (k : Int) := by rw [hfn.out]; intro h; exact hrk ⟨hr1, by omega⟩
        clear hrk
        go_wp2_with fail
        exact bodyPost_ret (results_look rfl _ _ _ (Lk.of f) rfl (put5 q2 (Lk.of f))) rfl ⟨by rw [← hend.out]; rfl, bSet5 q4 (by omega) _ _ _ _ _⟩
      · clear hrk
        go_wp2_with fail
        exact bodyPost_ret (results_look rfl _ _ _ (Lk.of f) rfl (put5 q2 (Lk.of f))) rfl ⟨by rw [← hend.out]; rfl, bSet5 q4 (by omega) _ _ _ _ _⟩
def RetP (w : World) (k : Nat) (e : Ending) (w' : World) : Prop :=
  ∃ B, e = .returned (.func (.func 75) #[] #[.pointer (some ⟨B, 0, none⟩)]) ∧ w'.cell? ⟨B, 0, none⟩ = some (.int .i64 k) ∧ w.heap.size ≤ B ∧ B < w'.heap.size ∧ Below w.heap.size w w'
theorem mkplus_any (k : Nat) (w : World) : Calls Tryz.prog 38 #[.int .i64 k] w (RetP w k) := by
  have hP := Lib.hid (fun (B : Nat) (w' : World) (h1 : w'.cell? ⟨B, 0, none⟩ = some (.int .i64 k)) (h0 : w.heap.size ≤ B) (h2 : B < w'.heap.size) (h3 : Below w.heap.size w w') =>
    (show RetP w k (.returned (.func (.func 75) #[] #[.pointer (some ⟨B, 0, none⟩)])) w' from ⟨B, rfl, h1, h0, h2, h3⟩))
  go_enter Tryz.func38, Tryz.ntmps38
  go_wp2_with fail
  go_ret
  exact hP.out _ _ (by simp) (Nat.le_refl _) (by simp) (bAlc (Below.refl _ _) _)
end Go.Proofs.YtnnkfgekiaaehaaGreat

/- follow.joined. -/
namespace Go.Proofs.YtnnkfgekiaaehaaGreat
open Go.ChangeShapes Go.WideShapes Go.ChangeAt Go.RowKit
set_option linter.unusedVariables false
def addL (s : List Lk) (z : Lk) : List Lk := if z ∈ s then s else s ++ [z]
def addAll (s l : List Lk) : List Lk := l.foldl addL s
def rowJ (k : Nat) (x : Lk) (lb : List Lk) : List Lk := lb.map (lplus k x)
def sumsJ (k : Nat) (la lb : List Lk) : List Lk := la.flatMap fun x => rowJ k x lb
theorem addL_len (s : List Lk) (z : Lk) : s.length ≤ (addL s z).length := by unfold addL; split <;> simp
theorem addAll_snoc (s l : List Lk) (z : Lk) : addAll s (l ++ [z]) = addL (addAll s l) z := by simp [addAll]
theorem addAll_app (s l m : List Lk) : addAll s (l ++ m) = addAll (addAll s l) m := by simp [addAll]
theorem addAll_len (s l : List Lk) : s.length ≤ (addAll s l).length := by
  induction l generalizing s with
  | nil => exact Nat.le_refl _
  | cons z l ih => exact Nat.le_trans (addL_len s z) (ih _)
theorem addL_mem (s : List Lk) (z x : Lk) : x ∈ addL s z ↔ x ∈ s ∨ x = z := by
  unfold addL
  split
  · rename_i h
    exact ⟨.inl, fun h' => h'.elim id (fun e => e ▸ h)⟩
  · simp
theorem addAll_mem (s l : List Lk) (x : Lk) : x ∈ addAll s l ↔ x ∈ s ∨ x ∈ l := by
  induction l generalizing s with
  | nil => simp [addAll]
  | cons z l ih =>
    have : addAll s (z :: l) = addAll (addL s z) l := rfl
    rw [this, ih, addL_mem, List.mem_cons]
    constructor <;> intro h <;> rcases h with h | h
    · rcases h with h | h
      · exact .inl h
      · exact .inr (.inl h)
    · exact .inr (.inr h)
    · exact .inl (.inl h)
    · rcases h with h | h
      · exact .inl (.inr h)
      · exact .inr h
theorem addAll_same (s l : List Lk) (h : (addAll s l).length = s.length) : addAll s l = s ∧ ∀ x ∈ l, x ∈ s := by
  have key : ∀ (l s : List Lk), ∃ e, addAll s l = s ++ e := by
    intro l
    induction l with
    | nil => intro s; exact ⟨[], by simp [addAll]⟩
    | cons z l ih =>
      intro s
      obtain ⟨e, he⟩ := ih (addL s z)
      have h1 : addAll s (z :: l) = addAll (addL s z) l := rfl
      rw [h1, he]
      unfold addL
      split
      · exact ⟨e, rfl⟩
      · exact ⟨z :: e, by simp⟩
  obtain ⟨e, he⟩ := key l s
  have : e = [] := by
    rw [he, List.length_append] at h
    exact List.eq_nil_of_length_eq_zero (by omega)
  subst this
  rw [List.append_nil] at he
  exact ⟨he, fun x hx => by rw [← he]; exact (addAll_mem s l x).2 (.inr hx)⟩
def lookKey : KeyEnc Lk where
  K := 41
  enc := Lk.v
  ok := Lk.wf
  keyed := lookKeyed
  key := look_key
  inj := fun _ _ h => Lk.v_inj h
def lay5 (W : World) (x : Lk) : World := W.alloc (.cells #[.int .i64 x.n, .int .i64 x.a, .int .i64 x.b, .int .i64 x.c, .int .i64 x.d] 41)
theorem lay5_blk (W : World) (x : Lk) : Blk (lay5 W x) W.heap.size 41 x.cells := Blk.new W 41 _
theorem lay5_below (W : World) (x : Lk) : Below W.heap.size W (lay5 W x) := bAlc (Below.refl _ _) _
theorem grown_of_below {W W' : World} (h : Below W.heap.size W W') : W.grownBy W' none := ⟨h.os, h.tape, h.output, h.size, fun i hi _ => h.block i hi⟩
def JW (w : World) (b Bk k : Nat) (A1 A2 : Option Addr) (n1 n2 : Nat) (la lb : List Lk) (cur : List Lk) (W : World) : Prop :=
  MapK lookKey W b cur ∧ w.grownBy W (some b) ∧ RdL W w.heap.size A1 n1 la ∧ RdL W w.heap.size A2 n2 lb ∧ W.cell? ⟨Bk, 0, none⟩ = some (.int .i64 k) ∧ b < w.heap.size ∧ Bk < w.heap.size
section
variable {w W W' : World} {b Bk k : Nat} {A1 A2 : Option Addr} {n1 n2 : Nat} {la lb cur cur' : List Lk}
theorem JW.step (h : JW w b Bk k A1 A2 n1 n2 la lb cur W) (hb : Below W.heap.size W W') : JW w b Bk k A1 A2 n1 n2 la lb cur W' :=
  ⟨h.1.step hb, h.2.1.andThen (grown_of_below hb) (fun j hj => by cases hj), h.2.2.1.below (hb.mono h.2.1.size), h.2.2.2.1.below (hb.mono h.2.1.size), cell_later hb h.2.2.2.2.1, h.2.2.2.2.2⟩
theorem rdl_map {A : Option Addr} {n B : Nat} {l : List Lk} (h : RdL W B A n l) (hm : MapK lookKey W b cur) (hg : W.grownBy W' (some b)) (hB : B ≤ W.heap.size) : RdL W' B A n l := by
  refine ⟨h.1, ?_⟩
  rcases h.2 with h0 | ⟨g, off, rfl, hlt, hc⟩
  · exact .inl h0
  · by_cases hn : l = []
    · left; rw [← h.1, hn]; rfl
    · refine .inr ⟨g, off, rfl, hlt, fun i x hx j hj => ?_⟩
      have hcc := hc i x hx j hj
      have hne : g ≠ b := by
        rintro rfl
        obtain ⟨es, clock, hb, _⟩ := hm
        have hj5 : ∃ v, x.cells[j]? = some v := ⟨x.cells[j]'(by simpa [Lk.cells] using hj), by simp⟩
        obtain ⟨v, hv⟩ := hj5
        rw [hv] at hcc
        simp [World.cell?, hb] at hcc
      exact (World.cell?_of_block (a := ⟨g, off + i * 5 + j, none⟩) (hg.block g (by omega) (by simpa using hne))).trans hcc
theorem cell_map {a : Addr} {v : Value} (h : W.cell? a = some v) (hm : MapK lookKey W b cur) (hg : W.grownBy W' (some b)) : W'.cell? a = some v := by
  refine hg.cell h ?_
  intro e
  injection e with e
  obtain ⟨es, clock, hb, _⟩ := hm
  rw [← e] at hb
  simp [World.cell?, hb] at h
theorem JW.turned (h : JW w b Bk k A1 A2 n1 n2 la lb cur W) (ht : W.mapTurned W' b) (hm : MapK lookKey W' b cur') : JW w b Bk k A1 A2 n1 n2 la lb cur' W' :=
  ⟨hm, h.2.1.andThen (turned_grown ht) (fun j hj => by cases hj; exact .inr rfl), rdl_map h.2.2.1 h.1 (turned_grown ht) h.2.1.size, rdl_map h.2.2.2.1 h.1 (turned_grown ht) h.2.1.size, cell_map h.2.2.2.2.1 h.1 (turned_grown ht), h.2.2.2.2.2⟩
end
end Go.Proofs.YtnnkfgekiaaehaaGreat

/- follow.joined: the walk. -/
namespace Go.Proofs.YtnnkfgekiaaehaaGreat
open Go.ChangeShapes Go.WideShapes Go.ChangeAt Go.RowKit
set_option linter.unusedVariables false
theorem sumsJ_snoc (k : Nat) (la lb : List Lk) (i : Nat) (x : Lk) (h : la.take (i + 1) = la.take i ++ [x]) : sumsJ k (la.take (i + 1)) lb = sumsJ k (la.take i) lb ++ rowJ k x lb := by
  rw [h]; simp [sumsJ]
theorem rowJ_snoc (k : Nat) (x : Lk) (lb : List Lk) (j : Nat) (y : Lk) (h : lb.take (j + 1) = lb.take j ++ [y]) : rowJ k x (lb.take (j + 1)) = rowJ k x (lb.take j) ++ [lplus k x y] := by
  rw [h]; simp [rowJ]
def RetJ (w : World) (b : Nat) (s cur : List Lk) (e : Ending) (w' : World) : Prop := e = .returned (.bool (decide (cur.length ≠ s.length))) ∧ MapK lookKey w' b cur ∧ w.grownBy w' (some b)
set_option maxHeartbeats 4000000 in
theorem joined_any (k : Nat) (A1 A2 : Option Addr) (n1 n2 c1 c2 : Nat) (la lb s : List Lk) (b Bk : Nat) (w : World) (hk : k ≤ 4) (ha : RdL w w.heap.size A1 n1 la) (hb : RdL w w.heap.size A2 n2 lb) (ra : ∀ x ∈ la, x.right 8) (rb : ∀ x ∈ lb, x.right 8) (hak : ∀ x ∈ la, x.l.length ≤ k)
    (hn1 : n1 ≤ 1000000) (hn2 : n2 ≤ 1000000) (hm : MapK lookKey w b s) (hc : w.cell? ⟨Bk, 0, none⟩ = some (.int .i64 k)) (hBk : Bk < w.heap.size) :
    Calls Tryz.prog 35 #[.map (some b), .slice A1 n1 c1, .slice A2 n2 c2, .func (.func 75) #[] #[.pointer (some ⟨Bk, 0, none⟩)]] w (RetJ w b s (addAll s (sumsJ k la lb))) := by
  have hP := Lib.hid (fun (g : Bool) (w' : World) (cur : List Lk) (hcur : cur = addAll s (sumsJ k la lb)) (hg : g = decide (cur.length ≠ s.length)) (h1 : MapK lookKey w' b cur) (h2 : w.grownBy w' (some b)) =>
    (show RetJ w b s (addAll s (sumsJ k la lb)) (.returned (.bool g)) w' from ⟨by rw [hg, hcur], hcur ▸ h1, h2⟩))
  have hA := Lib.hid ha.1
  have hB := Lib.hid hb.1
  have hJ0 : JW w b Bk k A1 A2 n1 n2 la lb s w := ⟨hm, ⟨rfl, rfl, rfl, Nat.le_refl _, fun _ _ _ => rfl⟩, ha, hb, hc, hm.lt, hBk⟩
  have hC := Lib.hid (fun (x y : Lk) (hx : x ∈ la) (hy : y ∈ lb) (W : World) (h1 : W.cell? ⟨Bk, 0, none⟩ = some (.int .i64 k)) (h2 : Bk < W.heap.size) => plus_any k x y Bk W hk (ra x hx) (rb y hy) (hak x hx) h1 h2)
  have hwf := Lib.hid (fun (x y : Lk) (hx : x ∈ la) (hy : y ∈ lb) => right_wf (lplus_right hk (ra x hx) (rb y hy)))
  clear ha hb ra rb hak hm hc
  unfold Lk.v at hC
  go_enter Tryz.func35, Tryz.ntmps35
  go_wp2_with fail
  go_loopg [17, 9] n1 (fun gk s17 s9 wr => ∃ (i : Nat) (g : Bool) (cur : List Lk), s17 = .int .i64 i ∧ s9 = .bool g ∧ i + gk = n1 ∧ Hid (cur = addAll s (sumsJ k (la.take i) lb)) ∧ Hid (g = decide (cur.length ≠ s.length)) ∧ JW w b Bk k A1 A2 n1 n2 la lb cur wr)
  case atStart => exact ⟨0, false, s, rfl, rfl, by omega, Lib.hid (by simp [sumsJ, addAll]), Lib.hid (by simp), hJ0⟩
  case round =>
    clear hJ0
    obtain ⟨i, g, cur, rfl, rfl, hi, hcur, hg, hJ⟩ := hrel
    replace hi := Lib.hid hi
    by_cases hin : i < n1
    · have hil : i < la.length := by have := hA.out; omega
      have hxi : la[i]? = some la[i] := List.getElem?_eq_getElem hil
      obtain ⟨ab, aoff, rfl, habt, x0, x1, x2, x3, x4⟩ := hJ.2.2.1.get hxi
      have htk : la.take (i + 1) = la.take i ++ [la[i]] := List.take_succ_eq_append_getElem hil
      have hmem : la[i] ∈ la := List.getElem_mem hil
      generalize la[i] = x at *
      have hC1 := Lib.hid (fun y hy => hC.out x y hmem hy)
      have hw1 := Lib.hid (fun y hy => hwf.out x y hmem hy)
      have hzi : (0 : Int) ≤ i := by omega
      have hzn : (i : Int) < n1 := by omega
      replace hxi := Lib.hid hxi
      replace htk := Lib.hid htk
      replace hmem := Lib.hid hmem
      go_upto_region 5 with (fail)
      change Code.wp Tryz.prog _ _ _ (lay5 wr x)
      have hJ1 := hJ.step (lay5_below wr x)
      have q11 := lay5_blk wr x
      have hlt := hJ.2.1.size
      clear hJ x0 x1 x2 x3 x4
      generalize lay5 wr x = W1 at *
      generalize wr.heap.size = B11 at *
      go_wp2_with fail
      go_loopg [23, 9] n2 (fun gk2 s23 s9 wr2 => ∃ (j : Nat) (g2 : Bool) (cur2 : List Lk), s23 = .int .i64 j ∧ s9 = .bool g2 ∧ j + gk2 = n2 ∧ Hid (cur2 = addAll cur (rowJ k x (lb.take j))) ∧ Hid (g2 = decide (cur2.length ≠ s.length)) ∧ JW w b Bk k (some ⟨ab, aoff, none⟩) A2 n1 n2 la lb cur2 wr2 ∧ Blk wr2 B11 41 x.cells)
      case atStart => exact ⟨0, g, cur, rfl, rfl, by omega, Lib.hid (by simp [rowJ, addAll]), hg, hJ1, q11⟩
      case round =>
        clear hJ1 q11
        obtain ⟨j, g2, cur2, rfl, rfl, hj, hcur2, hg2, hJ, q11⟩ := hrel
        replace hj := Lib.hid hj
        by_cases hjn : j < n2
        · have hjl : j < lb.length := by have := hB.out; omega
          have hyi : lb[j]? = some lb[j] := List.getElem?_eq_getElem hjl
          obtain ⟨bb, boff, rfl, hbbt, y0, y1, y2, y3, y4⟩ := hJ.2.2.2.1.get hyi
          have htk2 : lb.take (j + 1) = lb.take j ++ [lb[j]] := List.take_succ_eq_append_getElem hjl
          have hmem2 : lb[j] ∈ lb := List.getElem_mem hjl
          generalize lb[j] = y at *
          have hC2 := Lib.hid (hC1.out y hmem2)
          have hz0 := Lib.hid (hw1.out y hmem2)
          have hsn := Lib.hid (rowJ_snoc k x lb j y htk2)
          have hzj : (0 : Int) ≤ j := by omega
          have hznj : (j : Int) < n2 := by omega
          replace hyi := Lib.hid hyi
          replace htk2 := Lib.hid htk2
          replace hmem2 := Lib.hid hmem2
          generalize hzz : lplus k x y = z at *
          replace hzz := Lib.hid hzz
          go_upto_region 8 with (fail)
          change Code.wp Tryz.prog _ _ _ (lay5 wr y)
          have hJ2 := hJ.step (lay5_below wr y)
          have q13 := lay5_blk wr y
          have q11' := q11.step (lay5_below wr y)
          clear hJ y0 y1 y2 y3 y4 q11
          generalize lay5 wr y = W2 at *
          generalize wr.heap.size = B13 at *
          have d0 := q11'.cell 0
          have d1 := q11'.cell 1
          have d2 := q11'.cell 2
          have d3 := q11'.cell 3
          have d4 := q11'.cell 4
          have e0 := q13.cell 0
          have e1 := q13.cell 1
          have e2 := q13.cell 2
          have e3 := q13.cell 3
          have e4 := q13.cell 4
          simp only [Lk.cells, List.getElem?_toArray, List.getElem?_cons_zero, List.getElem?_cons_succ] at d0 d1 d2 d3 d4 e0 e1 e2 e3 e4
          go_upto_region 9 with (go_at_call 75; refine (hC2.out W2 hJ2.2.2.2.2.1 (by have := hJ2.2.1.size; omega)).mono ?_; rintro e w3 ⟨rfl, hb3⟩)
          change Code.wp Tryz.prog _ _ _ (lay5 w3 z)
          have hJ3 := (hJ2.step hb3).step (lay5_below w3 z)
          have q14 := lay5_blk w3 z
          have q11 := (q11'.step hb3).step (lay5_below w3 z)
          clear hJ2 q13 q11' d0 d1 d2 d3 d4 e0 e1 e2 e3 e4 hb3
          generalize lay5 w3 z = W4 at *
          generalize w3.heap.size = B14 at *
          have d0 := q14.cell 0
          have d1 := q14.cell 1
          have d2 := q14.cell 2
          have d3 := q14.cell 3
          have d4 := q14.cell 4
          simp only [Lk.cells, List.getElem?_toArray, List.getElem?_cons_zero, List.getElem?_cons_succ] at d0 d1 d2 d3 d4
          by_cases hzm : z ∈ cur2
          · have hd : true = true ↔ z ∈ cur2 := ⟨fun _ => hzm, fun _ => rfl⟩
            have hcur3 : Hid (cur2 = addAll cur (rowJ k x (lb.take (j + 1)))) := Lib.hid (by rw [hsn.out, addAll_snoc, ← hcur2.out]; unfold addL; rw [if_pos hzm])
            replace hd := Lib.hid hd
            replace hzm := Lib.hid hzm
            go_wp2_with (at_lookup; refine wpList_lookK (E := lookKey) _ under66 rfl _ _ rfl b cur2 z true hd.out rfl rfl hJ3.1 hz0.out ?_)
            go_roundg (n2 - (j + 1))
            case measure => have := hj.out; omega
            case rel => exact ⟨j + 1, g2, cur2, by go_num, rfl, by have := hj.out; omega, hcur3, hg2, hJ3, q11⟩
          · have hd : false = true ↔ z ∈ cur2 := ⟨fun h => (by cases h), fun h => absurd h hzm⟩
            have hif : (z ∈ cur2 ∧ cur2 ++ [z] = cur2) ∨ (z ∉ cur2 ∧ cur2 ++ [z] = cur2 ++ [z]) := .inr ⟨hzm, rfl⟩
            have hcur3 : Hid (cur2 ++ [z] = addAll cur (rowJ k x (lb.take (j + 1)))) := Lib.hid (by rw [hsn.out, addAll_snoc, ← hcur2.out]; unfold addL; rw [if_neg hzm])
            have hg3 : Hid (true = decide ((cur2 ++ [z]).length ≠ s.length)) := Lib.hid (by
              have h1 := addAll_len s (sumsJ k (la.take i) lb)
              have h2 := addAll_len cur (rowJ k x (lb.take j))
              rw [← hcur.out] at h1
              rw [← hcur2.out] at h2
              symm
              apply decide_eq_true
              rw [List.length_append, List.length_singleton]; omega)
            replace hd := Lib.hid hd
            replace hif := Lib.hid hif
            replace hzm := Lib.hid hzm
            go_wp2_with (first | (at_lookup; refine wpList_lookK (E := lookKey) _ under66 rfl _ _ rfl b cur2 z false hd.out rfl rfl hJ3.1 hz0.out ?_) | (at_mapUpdate; refine wpList_layK (E := lookKey) _ under66 rfl _ _ _ rfl b cur2 (cur2 ++ [z]) z hif.out rfl rfl rfl hJ3.1 hz0.out ?_; intro w5 hM5 ht5))
            have hg5 := turned_grown ht5
            go_roundg (n2 - (j + 1))
            case measure => have := hj.out; omega
            case rel => exact ⟨j + 1, true, cur2 ++ [z], by go_num, rfl, by have := hj.out; omega, hcur3, hg3, hJ3.turned ht5 hM5, q11.grown hg5 (by
                intro e; injection e with e
                have hm := hJ3.1
                obtain ⟨es, clock, hbb, _⟩ := hm
                rw [← e] at hbb
                have := q11
                unfold Blk at this
                rw [hbb] at this; cases this)⟩
        · have hcur3 : Hid (cur2 = addAll s (sumsJ k (la.take (i + 1)) lb)) := Lib.hid (by
            rw [sumsJ_snoc k la lb i x htk.out, addAll_app, ← hcur.out, hcur2.out, List.take_of_length_le (by have := hB.out; omega)])
          go_wp2_with fail
          go_roundg (n1 - (i + 1))
          case measure => have := hi.out; omega
          case rel => exact ⟨i + 1, g2, cur2, by go_num, rfl, by have := hi.out; omega, hcur3, hg2, hJ⟩
    · have hcur3 : cur = addAll s (sumsJ k la lb) := by rw [hcur.out, List.take_of_length_le (by have := hA.out; omega)]
      replace hcur3 := Lib.hid hcur3
      go_wp2_with fail
      go_ret
      exact hP.out g _ cur hcur3.out hg.out hJ.1 hJ.2.1
end Go.Proofs.YtnnkfgekiaaehaaGreat

/- slices.Compare, cmp.Or, cmp.Compare at ints; the order of a set's looks. -/
namespace Go.Proofs.YtnnkfgekiaaehaaGreat
open Go.ChangeShapes Go.WideShapes Go.ChangeAt Go.RowKit
set_option linter.unusedVariables false
theorem isnan_any (x : Int) (w : World) : Calls Tryz.prog 111 #[.int .i64 x] w fun e w' => e = .returned (.bool false) ∧ w = w' := by
  go_enter Tryz.func111, Tryz.ntmps111
  go_wp2_with fail
  go_ret
  exact ⟨by simp, rfl⟩
def cmp1 (x y : Int) : Int := if x < y then -1 else if y < x then 1 else 0
theorem cmp1_any (x y : Int) (w : World) : Calls Tryz.prog 74 #[.int .i64 x, .int .i64 y] w fun e w' => e = .returned (.int .i64 (cmp1 x y)) ∧ w = w' := by
  have hn := Lib.hid isnan_any
  unfold cmp1
  by_cases h1 : x < y
  · rw [if_pos h1]
    go_enter Tryz.func74, Tryz.ntmps74
    go_wp2_with (go_at_call 111; refine (hn.out _ _).mono ?_; rintro e w1 ⟨rfl, rfl⟩)
    go_ret
    exact ⟨rfl, rfl⟩
  · rw [if_neg h1]
    by_cases h2 : y < x
    · rw [if_pos h2]
      go_enter Tryz.func74, Tryz.ntmps74
      go_wp2_with (go_at_call 111; refine (hn.out _ _).mono ?_; rintro e w1 ⟨rfl, rfl⟩)
      go_ret
      exact ⟨rfl, rfl⟩
    · rw [if_neg h2]
      go_enter Tryz.func74, Tryz.ntmps74
      go_wp2_with (go_at_call 111; refine (hn.out _ _).mono ?_; rintro e w1 ⟨rfl, rfl⟩)
      go_ret
      exact ⟨rfl, rfl⟩
set_option maxHeartbeats 1000000 in
theorem slicescmp_any (A1 A2 : Option Addr) (n1 n2 c1 c2 : Nat) (t u : List Int) (w : World) (B : Nat) (ha : Rd1 w B A1 n1 (ints t)) (hb : Rd1 w B A2 n2 (ints u)) (hn1 : n1 ≤ 1000000) (hn2 : n2 ≤ 1000000) :
    Calls Tryz.prog 73 #[.slice A1 n1 c1, .slice A2 n2 c2] w fun e w' => e = .returned (.int .i64 (cmpI t u)) ∧ w = w' := by
  have hl1 : t.length = n1 := by have := ha.1; simpa [ints] using this
  have hl2 : u.length = n2 := by have := hb.1; simpa [ints] using this
  have hQ := Lib.hid (cmpI_part t u)
  have hL := Lib.hid (cmpI_all t u)
  have hn := Lib.hid cmp1_any
  obtain ⟨R, hR⟩ : ∃ R, R = cmpI t u := ⟨_, rfl⟩
  rw [← hR] at hQ hL ⊢
  clear hR
  replace hl1 := Lib.hid hl1
  replace hl2 := Lib.hid hl2
  go_enter Tryz.func73, Tryz.ntmps73
  go_wp2_with fail
  go_loopg [11] n1 (fun gk s11 wr => ∃ j : Nat, s11 = .int .i64 j ∧ j + gk = n1 ∧ j ≤ n2 ∧ Hid (∀ i, i < j → t.getD i 0 = u.getD i 0) ∧ w = wr)
  case atStart => exact ⟨0, rfl, by omega, by omega, Lib.hid (by intro i h; omega), rfl⟩
  case round =>
    obtain ⟨j, rfl, hj, hj2, hE, rfl⟩ := hrel
    replace hj := Lib.hid hj
    by_cases hjn : j < n1
    · have hjt : j < t.length := by have := hl1.out; omega
      have hxi : (ints t)[j]? = some (.int .i64 t[j]) := by simp [ints, hjt]
      have hgx : t.getD j 0 = t[j] := by simp [List.getD_eq_getElem?_getD, hjt]
      obtain ⟨b1, off1, rfl, hbt1, x0⟩ := ha.get hxi
      generalize t[j] = x at *
      have hz1 : (0 : Int) ≤ j := by omega
      have hz2 : (j : Int) < n1 := by omega
      replace hxi := Lib.hid hxi
      replace hgx := Lib.hid hgx
      by_cases hju : j < n2
      · have hjt2 : j < u.length := by have := hl2.out; omega
        have hyi : (ints u)[j]? = some (.int .i64 u[j]) := by simp [ints, hjt2]
        have hgy : u.getD j 0 = u[j] := by simp [List.getD_eq_getElem?_getD, hjt2]
        obtain ⟨b2, off2, rfl, hbt2, y0⟩ := hb.get hyi
        generalize u[j] = y at *
        have hz3 : (j : Int) < n2 := by omega
        replace hyi := Lib.hid hyi
        replace hgy := Lib.hid hgy
        by_cases hxy : x = y
        · subst hxy
          have hcc : Hid (cmp1 x x = 0) := Lib.hid (by simp [cmp1])
          have hE2 : Hid (∀ i, i < j + 1 → t.getD i 0 = u.getD i 0) := Lib.hid (fun i hi => by
            rcases Nat.lt_succ_iff_lt_or_eq.1 hi with h | rfl
            · exact hE.out i h
            · rw [hgx.out, hgy.out])
          go_wp2_with (go_at_call 74; refine (hn.out _ _ _).mono ?_; rintro e w1 ⟨rfl, rfl⟩; rw [hcc.out])
          go_roundg (n1 - (j + 1))
          case measure => have := hj.out; omega
          case rel => exact ⟨j + 1, by go_num, by have := hj.out; omega, by omega, hE2, rfl⟩
        · have hR2 : R = cmp1 x y := by
            rw [hQ.out j hjt hjt2 hE.out (by rw [hgx.out, hgy.out]; exact hxy), hgx.out, hgy.out]
            unfold cmp1
            by_cases h : x < y
            · rw [if_pos h, if_pos h]
            · rw [if_neg h, if_neg h, if_pos (by omega)]
          have hc0 : (R == 0) = false := by rw [hR2]; unfold cmp1; split <;> (try split) <;> simp; omega
          have hc1 : (R != 0) = true := by simpa using hc0
          replace hR2 := Lib.hid hR2
          clear hxy
          go_wp2_with (go_at_call 74; refine (hn.out _ _ _).mono ?_; rintro e w1 ⟨rfl, rfl⟩; rw [← hR2.out])
          go_ret
          exact ⟨rfl, rfl⟩
      · have hR2 : R = 1 := by
          rw [hL.out (fun i h1 h2 => hE.out i (by have := hl2.out; omega)), if_neg (by have := hl2.out; omega), if_pos (by have := hl2.out; omega)]
        subst hR2
        have hz3 : (n2 : Int) ≤ j := by omega
        go_wp2_with fail
        go_ret
        exact ⟨rfl, rfl⟩
    · have hR1 : R = if n1 < n2 then -1 else 0 := by
        rw [hL.out (fun i h1 h2 => hE.out i (by have := hl1.out; omega)), hl1.out, hl2.out]
        by_cases h : n1 < n2
        · rw [if_pos h, if_pos h]
        · rw [if_neg h, if_neg h, if_neg (by have := hj.out; omega)]
      by_cases h12 : n1 < n2
      · rw [if_pos h12] at hR1
        subst hR1
        go_wp2_with fail
        go_ret
        exact ⟨rfl, rfl⟩
      · rw [if_neg h12] at hR1
        subst hR1
        go_wp2_with fail
        go_ret
        exact ⟨rfl, rfl⟩
def or2 (x y : Int) : Int := if x = 0 then y else x
set_option maxHeartbeats 1000000 in
theorem or2_any (x y : Int) (B : Nat) (w : World) (h0 : w.cell? ⟨B, 0, none⟩ = some (.int .i64 x)) (h1 : w.cell? ⟨B, 1, none⟩ = some (.int .i64 y)) :
    Calls Tryz.prog 72 #[.slice (some ⟨B, 0, none⟩) 2 2] w fun e w' => e = .returned (.int .i64 (or2 x y)) ∧ w = w' := by
  unfold or2
  by_cases hx : x = 0
  · subst hx
    rw [if_pos rfl]
    by_cases hy : y = 0
    · subst hy
      go_enter Tryz.func72, Tryz.ntmps72
      go_wp2_with fail
      go_loopg [8] 2 (fun gk s8 wr => ∃ j : Nat, s8 = .int .i64 j ∧ j + gk = 2 ∧ w = wr)
      case atStart => exact ⟨0, rfl, by omega, rfl⟩
      case round =>
        obtain ⟨j, rfl, hj, rfl⟩ := hrel
        rcases (show j = 0 ∨ j = 1 ∨ j = 2 by omega) with rfl | rfl | rfl
        · go_wp2_with fail
          go_roundg 1
          case measure => omega
          case rel => exact ⟨1, by go_num, by omega, rfl⟩
        · go_wp2_with fail
          go_roundg 0
          case measure => omega
          case rel => exact ⟨2, by go_num, by omega, rfl⟩
        · go_wp2_with fail
          go_ret
          exact ⟨rfl, rfl⟩
    · have hy1 : (y == 0) = false := by simpa using hy
      have hy2 : (y != 0) = true := by simpa using hy
      go_enter Tryz.func72, Tryz.ntmps72
      go_wp2_with fail
      go_loopg [8] 2 (fun gk s8 wr => ∃ j : Nat, s8 = .int .i64 j ∧ j ≤ 1 ∧ j + gk = 2 ∧ w = wr)
      case atStart => exact ⟨0, rfl, by omega, by omega, rfl⟩
      case round =>
        obtain ⟨j, rfl, hj1, hj, rfl⟩ := hrel
        rcases (show j = 0 ∨ j = 1 by omega) with rfl | rfl
        · go_wp2_with fail
          go_roundg 1
          case measure => omega
          case rel => exact ⟨1, by go_num, by omega, by omega, rfl⟩
        · go_wp2_with fail
          go_ret
          exact ⟨rfl, rfl⟩
  · rw [if_neg hx]
    have hx1 : (x == 0) = false := by simpa using hx
    have hx2 : (x != 0) = true := by simpa using hx
    go_enter Tryz.func72, Tryz.ntmps72
    go_wp2_with fail
    go_loopg [8] 2 (fun gk s8 wr => s8 = .int .i64 0 ∧ w = wr)
    case atStart => exact ⟨rfl, rfl⟩
    case round =>
      obtain ⟨rfl, rfl⟩ := hrel
      go_wp2_with fail
      go_ret
      exact ⟨rfl, rfl⟩
end Go.Proofs.YtnnkfgekiaaehaaGreat

/- the order of a set's looks: the closure of sorted. -/
namespace Go.Proofs.YtnnkfgekiaaehaaGreat
open Go.ChangeShapes Go.WideShapes Go.ChangeAt Go.RowKit Go.Sort
set_option linter.unusedVariables false
theorem rd_look {W : World} {g : Nat} {x : Lk} {m : Int} (h : Blk W g 41 x.cells) (hx : x.right m) : Rd1 W (g + 1) (some ⟨g, 1, none⟩) x.l.length (ints x.l) := by
  refine ⟨by simp [ints], .inr ⟨g, 1, rfl, by omega, fun i v hv => ?_⟩⟩
  have hl := right_l hx
  have hi : i < x.l.length := by have := (List.getElem?_eq_some_iff.1 hv).1; simpa [ints] using this
  have h1 : x.cells[1 + i]? = some (.int .i64 (x.s i)) := Lk.cellAt x i (by omega)
  rw [h.cell (1 + i), h1, s_getD hx i]
  simp [ints, hi] at hv
  rw [← hv]
  simp [List.getD_eq_getElem?_getD, hi]
def Grew (w w' : World) : Prop := ∃ (q : Nat) (os : Array Obj), w' = grow (w.drewN q) os
theorem Grew.refl (w : World) : Grew w w := ⟨0, #[], by simp [World.drewN]⟩
theorem Grew.alloc {w w' : World} (h : Grew w w') (o : Obj) : Grew w (w'.alloc o) := by
  obtain ⟨q, os, rfl⟩ := h
  exact ⟨q, os ++ #[o], by rw [alloc_eq_grow, grow_grow]⟩
theorem Grew.drew {w w' : World} (h : Grew w w') : Grew w w'.drew := by
  obtain ⟨q, os, rfl⟩ := h
  exact ⟨q + 1, os, rfl⟩
theorem Grew.below {w w' : World} (h : Grew w w') : Below w.heap.size w w' := by
  obtain ⟨q, os, rfl⟩ := h
  exact ⟨rfl, rfl, rfl, by simp [grow, World.drewN], fun k hk => by simp [grow, World.drewN, Array.getElem?_append_left hk]⟩
def SC (w : World) (x y : Lk) (W : World) : Prop := Blk W w.heap.size 41 x.cells ∧ Blk W (w.heap.size + 1) 41 y.cells ∧ Grew w W
theorem SC.drew {w : World} {x y : Lk} {W : World} (h : SC w x y W) : SC w x y W.drew := ⟨h.1.drew, h.2.1.drew, h.2.2.drew⟩
theorem SC.alloc {w : World} {x y : Lk} {W : World} (h : SC w x y W) (o : Obj) : SC w x y (W.alloc o) := ⟨h.1.alloc _, h.2.1.alloc _, h.2.2.alloc _⟩
theorem SC.cells {w : World} {x y : Lk} {W : World} (h : SC w x y W) : W.cell? ⟨w.heap.size, 0, none⟩ = some (.int .i64 x.n) ∧ W.cell? ⟨w.heap.size + 1, 0, none⟩ = some (.int .i64 y.n) ∧ SC w x y W :=
  ⟨h.1.cell 0, h.2.1.cell 0, h⟩
theorem or2_lcmp {x y : Lk} (n m : Int) (hn : n = x.l.length) (hm : m = y.l.length) : or2 (cmpI x.l y.l) (cmp1 n m) = lcmp x y := by
  unfold or2 lcmp
  by_cases h : cmpI x.l y.l = 0
  · rw [if_pos h, h]
    have := cmpI_eq _ _ h
    rw [hn, hm, this]
    unfold cmp1; simp
  · rw [if_neg h]
set_option maxHeartbeats 2000000 in
theorem setcmp_any (x y : Lk) (w : World) (hx : x.right 8) (hy : y.right 8) : Calls Tryz.prog 71 #[x.v, y.v] w fun e w' => e = .returned (.int .i64 (lcmp x y)) ∧ Grew w w' := by
  have hlx := right_l hx
  have hly := right_l hy
  have h4 := Lib.hid slicescmp_any
  have h5 := Lib.hid cmp1_any
  have h6 := Lib.hid or2_any
  have hR := Lib.hid (or2_lcmp (x := x) (y := y) x.n y.n hlx.1.symm hly.1.symm)
  have hrx := Lib.hid (fun (W : World) (h : SC w x y W) => (rd_look h.1 hx).mono (B' := w.heap.size + 2) (by omega))
  have hry := Lib.hid (fun (W : World) (h : SC w x y W) => (rd_look h.2.1 hy).mono (B' := w.heap.size + 2) (by omega))
  obtain ⟨lx, hlx0⟩ : ∃ lx, lx = x.l.length := ⟨_, rfl⟩
  obtain ⟨ly, hly0⟩ : ∃ ly, ly = y.l.length := ⟨_, rfl⟩
  rw [← hlx0] at hrx hlx
  rw [← hly0] at hry hly
  have hnx : x.n = (lx : Int) := hlx.1.symm
  have hny : y.n = (ly : Int) := hly.1.symm
  have hx4 : lx ≤ 4 := hlx.2.1
  have hy4 : ly ≤ 4 := hly.2.1
  clear hlx hly hlx0 hly0 hx hy
  generalize lcmp x y = R at *
  have hS0 : SC w x y ((w.alloc (.cells x.cells 41)).alloc (.cells y.cells 41)) := ⟨(Blk.new _ _ _).alloc _, Blk.newAt _ _ _ _ (by simp), ((Grew.refl w).alloc _).alloc _⟩
  unfold Lk.v
  unfold Lk.cells at hS0
  rw [hnx] at hS0
  rw [hny] at hS0
  go_enter Tryz.func71, Tryz.ntmps71
  go_wp2_with fail
  rw [hnx, hny]
  generalize (w.alloc (.cells #[.int .i64 lx, .int .i64 x.a, .int .i64 x.b, .int .i64 x.c, .int .i64 x.d] 41)).alloc (.cells #[.int .i64 ly, .int .i64 y.a, .int .i64 y.b, .int .i64 y.c, .int .i64 y.d] 41) = W at *
  have hS1 := hS0.drew
  have hcl := Lib.hid (fun (W : World) (h : SC w x y W) => show W.cell? ⟨w.heap.size, 0, none⟩ = some (.int .i64 lx) ∧ W.cell? ⟨w.heap.size + 1, 0, none⟩ = some (.int .i64 ly) ∧ SC w x y W by rw [← hnx, ← hny]; exact h.cells)
  clear hS0
  have hb0 := Lib.hid ((Blk.newAt W.drew 3 #[.int .i64 (cmpI x.l y.l), .int .i64 (cmp1 lx ly)] W.heap.size rfl).cell 0)
  have hb1 := Lib.hid ((Blk.newAt W.drew 3 #[.int .i64 (cmpI x.l y.l), .int .i64 (cmp1 lx ly)] W.heap.size rfl).cell 1)
  rw [hnx, hny] at hR
  have hz1 : (0 : Int) ≤ lx := by omega
  have hz2 : (0 : Int) ≤ ly := by omega
  have hz3 : (lx : Int) ≤ 4 := by omega
  have hz4 : (ly : Int) ≤ 4 := by omega
  replace hnx := Lib.hid hnx
  replace hny := Lib.hid hny
  go_region_held3 (fun w' => w'.cell? ⟨w.heap.size, 0, none⟩ = some (.int .i64 lx) ∧ w'.cell? ⟨w.heap.size + 1, 0, none⟩ = some (.int .i64 ly) ∧ SC w x y w')
    ((refine hcl.out _ ?_; first | assumption | exact SC.alloc hS1 _))
    (first
      | (go_at_call 73; refine (h4.out _ _ _ _ _ _ x.l y.l _ (w.heap.size + 2) (hrx.out _ hS1) (hry.out _ hS1) (by omega) (by omega)).mono ?_; rintro e w1 ⟨rfl, rfl⟩)
      | (go_at_call 74; refine (h5.out _ _ _).mono ?_; rintro e w1 ⟨rfl, rfl⟩)
      | (go_at_call 72; refine (h6.out (cmpI x.l y.l) (cmp1 lx ly) W.heap.size _ hb0.out hb1.out).mono ?_; rintro e w1 ⟨rfl, rfl⟩; rw [hR.out]))
  all_goals
    go_wp2_with fail
    go_ret
    exact ⟨rfl, (SC.alloc hS1 _).2.2⟩
end Go.Proofs.YtnnkfgekiaaehaaGreat

/- slices.SortFunc at the looks of a set. -/
namespace Go.Proofs
open Go.Shelf
shelf_lay_g SlLaysF0.n6 Slsf 6 at Tryz 70 as Tryz.sortL
end Go.Proofs
namespace Go.Proofs.YtnnkfgekiaaehaaGreat
open Go.ChangeShapes Go.WideShapes Go.ChangeAt Go.RowKit Go.Sort Go.Shelf
set_option linter.unusedVariables false
structure RL where
  x : Lk
  h : x.right 8
instance : Inhabited RL := ⟨⟨Lk.of [], nil_right 8 (by omega)⟩⟩
def encR (x : RL) : List Value := x.x.cells.toList
def cfR (x y : RL) : Int := lcmp x.x y.x
theorem encR_len (x : RL) : (encR x).length = 5 := rfl
theorem encR_one (x : RL) : ∀ v ∈ encR x, v.oneCell' = true := by
  intro v hv
  simp [encR, Lk.cells] at hv
  rcases hv with rfl | rfl | rfl | rfl | rfl <;> rfl
theorem ltR (x y : RL) : ltOf cfR x y = decide (lcmp x.x y.x < 0) := rfl
theorem swoR : SWO (ltOf cfR) where
  irrefl x := by rw [ltR, lcmp_refl]; rfl
  trans x y z h1 h2 := by
    rw [ltR] at *
    simp at *
    have a1 : lcmp x.x y.x = -1 := by rcases lcmp_vals x.1 y.1 with h | h | h <;> omega
    have a2 : lcmp y.x z.x = -1 := by rcases lcmp_vals y.1 z.1 with h | h | h <;> omega
    rw [lcmp_trans a1 a2]; omega
  ntrans x y z h1 h2 := by
    rw [ltR] at *
    simp at *
    rcases lcmp_vals x.1 z.1 with h | h | h
    · rcases lcmp_vals x.1 y.1 with g1 | g1 | g1
      · omega
      · have := lcmp_eq x.h y.h g1; rw [this] at h; omega
      · rcases lcmp_vals y.1 z.1 with g2 | g2 | g2
        · omega
        · have := lcmp_eq y.h z.h g2; rw [← this] at h; omega
        · have e1 : lcmp y.x x.x = -1 := by rw [lcmp_anti]; omega
          have e2 : lcmp z.x y.x = -1 := by rw [lcmp_anti]; omega
          have := lcmp_trans e2 e1
          rw [lcmp_anti] at this; omega
    · omega
    · omega
theorem totR (x y : RL) (h1 : ltOf cfR x y = false) (h2 : ltOf cfR y x = false) : x = y := by
  rw [ltR] at *
  simp at h1 h2
  rw [lcmp_anti] at h2
  have e := lcmp_eq x.h y.h (by omega)
  cases x; cases y; simp only at e; subst e; rfl
def mkR : (l : List Lk) → (∀ x ∈ l, x.right 8) → List RL
  | [], _ => []
  | x :: l, h => ⟨x, h x List.mem_cons_self⟩ :: mkR l fun y hy => h y (List.mem_cons_of_mem _ hy)
theorem mkR_map : ∀ (l : List Lk) (h : ∀ x ∈ l, x.right 8), (mkR l h).map RL.x = l
  | [], _ => rfl
  | x :: l, h => by rw [mkR, List.map_cons, mkR_map l]
theorem flatR (ts : List RL) : flatK encR 5 ts.toArray = (cellsL (ts.map RL.x)).toArray := by
  apply Array.ext
  · rw [size_flatK]; simp [cellsL_len]
  · intro t h1 h2
    rw [size_flatK] at h1
    simp only [List.size_toArray] at h1
    have ht : t / 5 < ts.length := by omega
    have e1 : (flatK encR 5 ts.toArray)[t]'(by rw [size_flatK]; simpa using h1) = (encR ts.toArray[t / 5]!)[t % 5]! := by
      rw [← get_flatK encR 5 ts.toArray t (by simpa using h1), getElem!_pos]
    rw [e1]
    have hx : (ts.map RL.x)[t / 5]? = some ts[t / 5].x := by simp [ht]
    have e2 := cellsL_get (ts.map RL.x) (t / 5) ts[t / 5].x hx (t % 5) (by omega)
    rw [show t / 5 * 5 + t % 5 = t by omega] at e2
    have e3 : ts.toArray[t / 5]! = ts[t / 5] := by rw [getElem!_pos ts.toArray (t / 5) (by simpa using ht)]; simp
    rw [e3]
    have hc : t % 5 < ts[t / 5].x.cells.size := by simp [Lk.cells]; omega
    have e4 : (cellsL (ts.map RL.x))[t]? = some ((cellsL (ts.map RL.x)).toArray[t]'h2) := by simp at h2 ⊢
    rw [e4, Array.getElem?_eq_getElem hc] at e2
    injection e2 with e2
    rw [e2]
    have : (encR ts[t / 5])[t % 5]! = (encR ts[t / 5])[t % 5]'(by simpa [encR] using hc) := getElem!_pos _ _ _
    rw [this]; simp [encR]
theorem sorted_is_lset (l : List Lk) (h : ∀ x ∈ l, x.right 8) (hn : l.Nodup) : ((mkR l h).mergeSort fun x y => !(ltOf cfR) y x).map RL.x = lset l := by
  have hp := List.mergeSort_perm (mkR l h) (fun x y => !(ltOf cfR) y x)
  have hw := List.pairwise_mergeSort (le := fun x y => !(ltOf cfR) y x) (fun a b c h1 h2 => by
      simp only [Bool.not_eq_true'] at *
      exact swoR.ntrans c b a h2 h1) (fun a b => by
      cases hh : ltOf cfR b a with
      | false => simp
      | true =>
        have : ltOf cfR a b = false := by
          cases h3 : ltOf cfR a b with
          | false => rfl
          | true => have := swoR.trans _ _ _ hh h3; rw [swoR.irrefl] at this; cases this
        simp [this]) (mkR l h)
  generalize (mkR l h).mergeSort (fun x y => !(ltOf cfR) y x) = m at *
  have hpm : (m.map RL.x).Perm l := by have := hp.map RL.x; rwa [mkR_map] at this
  have hnd : (m.map RL.x).Nodup := hpm.nodup_iff.2 hn
  have hnd2 : m.Pairwise (fun x y => x.x ≠ y.x) := List.pairwise_map.1 hnd
  refine lset_of h ?_ (fun z => hpm.mem_iff)
  unfold Asc
  rw [List.pairwise_map]
  refine (hw.and hnd2).imp fun {x y} hxy => ?_
  obtain ⟨h1, h2⟩ := hxy
  rw [ltR] at h1
  simp at h1
  rcases lcmp_vals x.x y.1 with g | g | g
  · exact g
  · exact absurd (lcmp_eq x.h y.h g) h2
  · rw [lcmp_anti] at h1; omega
theorem holds_ownL {w : World} {g cap base : Nat} {l : List Lk} {cur : Array Value} (hb : w.heap[g]? = some (.cells cur 41 (0, 0))) (ht : cur.toList.take (l.length * 5) = cellsL l) : Holds id w g 0 (cellsL l).toArray := by
  intro j hj
  have hj' : j < (cellsL l).length := by simpa using hj
  have hj2 : j < l.length * 5 := by rw [← cellsL_len]; exact hj'
  refine ⟨?_, by simp [World.frozen?, hb]⟩
  have h1 : (cur.toList.take (l.length * 5))[j]? = (cellsL l)[j]? := by rw [ht]
  rw [List.getElem?_take_of_lt hj2] at h1
  simp only [World.cell?, hb, Nat.zero_add]
  simp only [Option.isSome_none, Bool.false_eq_true, if_false]
  rw [← Array.getElem?_toList, h1]
  simp [hj']
theorem aggR : ∀ w, (isAgg 41).run Tryz.prog w = .ok true w := fun w => by first | exact Tryz.isAgg41 w | rfl
theorem sizeR : ∀ w, (Go.sizeOf 41).run Tryz.prog w = .ok 5 w := fun w => by first | exact Tryz.sizeOf41 w | rfl
theorem sortfunc_any (l : List Lk) (v : Value) (base : Nat) (w : World) (hr : ∀ x ∈ l, x.right 8) (hn : l.Nodup) (hlen : l.length ≤ 1000000) (ho : OwnL w base v l) :
    Calls Tryz.prog 70 #[v, .func (.func 71) #[] #[]] w fun e w' => e = .returned (.tuple #[]) ∧ OwnL w' base v (lset l) ∧ w.grownBy w' v.ownBlock ∧ (lset l).length = l.length := by
  have hll : (lset l).length = l.length := by
    rw [← sorted_is_lset l hr hn, List.length_map, List.length_mergeSort]
    have := congrArg List.length (mkR_map l hr)
    simpa using this
  rcases ho.2 with ⟨rfl, h0⟩ | ⟨g, cap, cur, rfl, hbase, hb, h1, h2, h3, h4⟩
  · have hl0 : l = [] := List.eq_nil_of_length_eq_zero h0
    subst hl0
    refine (AnyF.slices_SortFunc_none Tryz.sortL none 0 (.func (.func 71) #[] #[]) w).mono ?_
    rintro e w' ⟨rfl, rfl⟩
    exact ⟨rfl, ho, ⟨rfl, rfl, rfl, Nat.le_refl _, fun _ _ _ => rfl⟩, hll⟩
  · have hg : g < w.heap.size := (Array.getElem?_eq_some_iff.1 hb).1
    have hH : HoldsK encR 5 w g 0 (mkR l hr).toArray := by
      unfold HoldsK
      rw [flatR, mkR_map]
      exact holds_ownL (cap := cap) (base := base) hb h4
    have hms : (mkR l hr).length = l.length := by simpa using congrArg List.length (mkR_map l hr)
    have hcmp : CmpLays Tryz.prog 71 #[] encR 5 cfR g 0 (mkR l hr).toArray.size w := fun m os dk _ x y => setcmp_any x.x y.x _ x.h y.h
    have eg : ∀ args w, (callFunc 71 args).run Tryz.prog w = .ok (.enter 71 args) w := enters_of Tryz.func71 (by kernel_rfl) rfl
    have hcon := AnyQ.slices_SortFunc_total Tryz.sortL 5 aggR sizeR encR encR_len encR_one cfR swoR 71 #[] g 0 cap (mkR l hr).toArray w eg hcmp hH hg (by simp [hms]; omega) totR
    have hs : (mkR l hr).toArray.size = l.length := by simp [hms]
    rw [hs] at hcon
    refine Calls.mono hcon ?_
    rintro e w' ⟨rfl, n, os, rfl⟩
    have e1 : (mkR l hr).toArray.toList = mkR l hr := rfl
    have e2 : flatK encR 5 ((mkR l hr).mergeSort fun x y => !(ltOf cfR) y x).toArray = (cellsL (lset l)).toArray := by rw [flatR, sorted_is_lset l hr hn]
    unfold sortWorldK putRowK
    rw [e1, e2]
    have hlc : (cellsL (lset l)).length = l.length * 5 := by rw [cellsL_len, hll]
    refine ⟨rfl, ⟨by rw [hll]; exact hlc, .inr ⟨g, cap, putCells id 0 (cellsL (lset l)).toArray cur, by rw [hll], hbase, ?_, by omega, h2, by simp [putCells, h3], ?_⟩⟩, ⟨rfl, rfl, rfl, by simp, fun k hk hne => ?_⟩, hll⟩
    · rw [heap_grow_old _ _ (by simpa using hg)]
      simp [putRow, mapBlock, Sort.ahead, Array.getElem?_modify, hb, onCells]
    · rw [hll]
      apply List.ext_getElem?
      intro j
      by_cases hj : j < l.length * 5
      · have hjc : j < cur.size := by rw [h3]; have := Nat.mul_le_mul_right 5 h1; omega
        rw [List.getElem?_take_of_lt hj, Array.getElem?_toList]
        simp [putCells, hlc, hj, hjc]
      · rw [List.getElem?_take_eq_none (by omega), List.getElem?_eq_none (by omega)]
    · rw [heap_grow_old _ _ (by simpa using hk)]
      have : g ≠ k := fun e => hne (by rw [← e]; rfl)
      simp [putRow, mapBlock, Sort.ahead, Array.getElem?_modify, this]
end Go.Proofs.YtnnkfgekiaaehaaGreat

/- (follow.set).sorted. -/
namespace Go.Proofs.YtnnkfgekiaaehaaGreat
open Go.ChangeShapes Go.WideShapes Go.ChangeAt Go.RowKit
set_option linter.unusedVariables false
theorem IterL.step {w w' : World} {b r : Nat} {s out : List Lk} (h : IterL w b r s out) (hb : Below w.heap.size w w') : IterL w' b r s out := h.grown (grown_of_below hb) (by simp) (by simp)
theorem nodup_same {out s : List Lk} (h1 : out.Nodup) (h2 : ∀ x ∈ out, x ∈ s) (h3 : ∀ x ∈ s, x ∈ out) : ∀ z, z ∈ s ↔ z ∈ out := fun z => ⟨h3 z, h2 z⟩
theorem IterL.parts {w : World} {b r : Nat} {s out : List Lk} (h : IterL w b r s out) : out.Nodup ∧ (∀ x ∈ out, x ∈ s) ∧ s.Nodup := by
  obtain ⟨es, clock, since, seen, c0, h1, h2, h3, h4, h5, h6, h7, h8, h9⟩ := h
  exact ⟨h8, h9, h2.2.2.2.1⟩
theorem nodup_len {out s : List Lk} (h1 : out.Nodup) (h2 : ∀ x ∈ out, x ∈ s) : out.length ≤ s.length := by
  induction out generalizing s with
  | nil => simp
  | cons x out ih =>
    obtain ⟨hx, hn⟩ := List.nodup_cons.1 h1
    have hm := h2 x List.mem_cons_self
    have := ih (s := s.erase x) hn (fun y hy => (List.mem_erase_of_ne (by rintro rfl; exact hx hy)).2 (h2 y (List.mem_cons_of_mem _ hy)))
    rw [List.length_erase_of_mem hm] at this
    have : 0 < s.length := List.length_pos_of_mem hm
    simp; omega
set_option maxHeartbeats 2000000 in
theorem sorted_any (b : Nat) (s : List Lk) (w : World) (hm : MapK lookKey w b s) (hr : ∀ x ∈ s, x.right 8) (hlen : s.length ≤ 900000) : Calls Tryz.prog 37 #[.map (some b)] w (RetL w (lset s)) := by
  have hP := Lib.hid (fun (v : Value) (w' : World) (h1 : OwnL w' w.heap.size v (lset s)) (h2 : Below w.heap.size w w') => (show RetL w (lset s) (.returned v) w' from ⟨v, rfl, h1, h2⟩))
  have hS := Lib.hid sortfunc_any
  have hr' := Lib.hid hr
  have hb := hm.lt
  clear hr
  go_enter Tryz.func37, Tryz.ntmps37
  go_wp2_with (at_range; refine wpList_range_look _ under67 rfl _ rfl b s rfl hm ?_; intro w1 hit hb1; go_frame)
  have hsz : w.heap.size < w1.heap.size := by
    obtain ⟨es, clock, since, seen, c0, h1, _, h3, _⟩ := hit
    exact (Array.getElem?_eq_some_iff.1 h3).1
  go_loopg [3] s.length (fun gk s3 wr => ∃ out : List Lk, out.length + gk = s.length ∧ OwnL wr (w.heap.size + 1) s3 out ∧ IterL wr b w.heap.size s out ∧ Below w.heap.size w wr ∧ w.heap.size < wr.heap.size)
  case atStart => exact ⟨[], by simp, OwnL.nil _ _, hit, hb1, hsz⟩
  case round =>
    clear hit hb1 hsz
    obtain ⟨out, hlo, ho, hit, hbw, hsz⟩ := hrel
    replace hlo := Lib.hid hlo
    go_wp2_with (first
      | (at_next; refine wpList_next_look _ rfl _ rfl b w.heap.size s out rfl hit ?_ ?_)
      | go_in)
    · intro hall
      obtain ⟨hn, hsub, hns⟩ := hit.parts
      have hro : ∀ x ∈ out, x.right 8 := fun x hx => hr'.out x (hsub x hx)
      have hls : lset out = lset s := lset_same hr'.out (fun z => (nodup_same hn hsub hall z).symm)
      have hol : out.length ≤ 1000000 := by have := hlo.out; omega
      replace hls := Lib.hid hls
      go_wp2_with (go_at_call 70; refine (hS.out out u3 (w.heap.size + 1) wr hro hn hol ho).mono ?_; rintro e w3 ⟨rfl, ho3, hg3, hl3⟩)
      go_ret
      exact hP.out _ _ (hls.out ▸ ho3.mono (by omega)) (hbw.grown hg3 (by omega) (fun k hk => by have := (own_in ho k hk).1; omega))
    · intro x w2 hxs hxo hit2 hen hg2 hsz2
      have ho2 : OwnL w2 (w.heap.size + 1) u3 out := World.ownsRow.kept ho hg2 (.inr (fun e => by have := (own_in ho _ e).1; omega))
      have hb2 : Below w.heap.size w w2 := hbw.grown hg2 (by omega) (fun k hk => by cases hk; exact Nat.le_refl _)
      have hol : out.length < 1000000 := by have := hlo.out; omega
      have hlen2 := nodup_len hit2.parts.1 hit2.parts.2.1
      rw [List.length_append, List.length_singleton] at hlen2
      have hsz3 : w.heap.size < w2.heap.size := by omega
      unfold Lk.v at hen
      replace hsz2 := Lib.hid hsz2
      go_upto_region 5 with (fail)
      change Code.wp Tryz.prog _ _ _ (lay5 w2 x)
      have hbl := lay5_below w2 x
      have q4 := lay5_blk w2 x
      have ho3 := ho2.step hbl
      have hit3 := hit2.step hbl
      have hb3 := bStep hb2 hbl
      have hsz4 := Nat.lt_of_lt_of_le hsz3 hbl.size
      clear hen ho2 hit2 hb2 hbl hsz3
      generalize lay5 w2 x = W1 at *
      generalize w2.heap.size = B4 at *
      have d0 := q4.cell 0
      have d1 := q4.cell 1
      have d2 := q4.cell 2
      have d3 := q4.cell 3
      have d4 := q4.cell 4
      simp only [Lk.cells, List.getElem?_toArray, List.getElem?_cons_zero, List.getElem?_cons_succ] at d0 d1 d2 d3 d4
      go_wp2_with (at_builtin; refine wpList_pushL _ rfl _ _ rfl (w.heap.size + 1) _ out rfl (ho3.alloc _) _ x rfl (Blk.new _ _ _) hol (by simp; omega) ?_; intro v' w5 ho5 hg5 hat5 hb5)
      all_goals
        have hbo : ∀ k, u3.ownBlock = some k → w.heap.size + 1 ≤ k := fun k hk => (own_in ho3 k hk).1
        have hit5 : IterL w5 b w.heap.size s (out ++ [x]) := (hit3.step ((Below.refl _ _).alloc (Nat.le_refl _) _)).grown hg5 (fun e => by have := hbo _ e.symm; omega) (fun e => by have := hbo _ e.symm; omega)
        have hz5 := hg5.size
        simp only [World.size_alloc] at hz5
        go_roundg (s.length - (out.length + 1))
        case measure => have := hlo.out; omega
        case rel => exact ⟨out ++ [x], by rw [List.length_append, List.length_singleton]; omega, ho5, hit5, (bAlc hb3 _).grown hg5 (by simp; omega) (fun k hk => by have := hbo k hk; omega), by omega⟩
end Go.Proofs.YtnnkfgekiaaehaaGreat
