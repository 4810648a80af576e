/- Walks and plain laws, part 7 of 10: The reference 15: Of; the reference 9: Prods; where all is right; The parse of a grammar text, plainly: lexemes, the reader, the source, and the grammar of a source, as far as there is no fault; The lexer of the reference (layer 4): classes of bytes, pass; The lexer of the reference (layer 4): begins; The lexer of the reference (layer 4): Next; Slices of structs, as rows of cells: what reads as rows, what is owned, how one is pushed; The lexer of the reference (layer 4): Lexemes; The reader of the reference (layer 8): its box, ok, peek, take; Data in memory, whatever their types: strings, numbers, slices of rows of data; The reader of the reference (layer 8): must, next, name, has, rules; The reader of the reference (layer 8): rules, alternative; The reader of the reference (layer 8): rule. Conditions: none beyond those that each theorem states. -/
import Derived.Test.YtnnkfgekiaaehaaGreatC6
import Derived.Deep.DeepCutAuto
import Derived.Deep.CutBlock
import Derived.Deep.LoopGhost
import Derived.BigQuiet
import Derived.Deep.RegionLaw
/- The reference 15: Of; the reference 9: Prods; where all is right. -/
namespace Go.Proofs.YtnnkfgekiaaehaaGreat
open Go.ChangeShapes Go.WideShapes Go.ChangeAt Go.RowKit
set_option linter.unusedVariables false
set_option maxHeartbeats 2000000 in
theorem rnonterm_ok (g : Gr) (a : GA) (s : Int) (w : World) (hg : GrAt w w.heap.size g a) (hok : gchk g = 0) (hs : ntB g s = true) :
    Calls Tryz.prog 50 #[gval g a, .int .i64 s] w fun e w' => e = .returned (.tuple #[.int .i64 (s - 16), .int .i64 0]) ∧ Below w.heap.size w w' := by
  have hn8 := (gok_of hok).nm
  have hC := Lib.hid (fun W (h : GrAt W W.heap.size g a) => rcheckg_any g a W h (small_of hok))
  rw [hok] at hC
  have hN := Lib.hid (fun W => rnonterm_any g a s W (by omega))
  rw [hs] at hN
  have hb := nt_bd hs
  have zw : IntKind.i64.wrap (s - 16) = s - 16 := IntWalk.i64_in _ (by omega)
  obtain ⟨ta, tc, na, nc, pa, pc⟩ := a
  have hG0 := GB.start hg
  clear hg hok hs
  unfold gval gcells at *
  dsimp only at *
  go_enter Tryz.func50, Tryz.ntmps50
  go_upto_region 1 with (fail)
  generalize w.alloc (.cells #[.int .i64 g.k, .slice ta g.toks.length tc, .string g.sep, .slice na g.names.length nc, .int .i64 g.start, .slice pa g.prods.length pc] 25) = W at *
  obtain ⟨c0, c1, c2, c3, c4, c5⟩ := hG0.cells
  dsimp only at c1 c3 c5
  go_wp2_with (first
    | (go_at_call 39; refine (hC.out _ (hG0.2.1.mono hG0.2.2.size)).mono ?_; clear hC; rintro e w1 ⟨rfl, hb1⟩; have hG1 := hG0.step hb1; obtain ⟨d0, d1, d2, d3, d4, d5⟩ := hG1.cells; dsimp only at d1 d3 d5)
    | (go_at_call 98; refine (hN.out _).mono ?_; clear hN; rintro e w2 ⟨rfl, hb2⟩))
  go_ret2
  exact ⟨rfl, (hG1.step hb2).2.2⟩
def RetIE (w : World) (l : List Int) (e : Ending) (w' : World) : Prop := ∃ A c, e = .returned (.tuple #[.slice A l.length c, .int .i64 0]) ∧ Rd1 w' w'.heap.size A l.length (ints l) ∧ Below w.heap.size w w'
set_option maxHeartbeats 2000000 in
theorem rprods_ok (g : Gr) (a : GA) (s : Int) (w : World) (hg : GrAt w w.heap.size g a) (hok : gchk g = 0) (hs : ntB g s = true) :
    Calls Tryz.prog 14 #[gval g a, .int .i64 s] w (RetIE w (prIdx g.prods s g.prods.length)) := by
  have hn := (gok_of hok).pl
  have hN := Lib.hid (fun W (h : GrAt W W.heap.size g a) => rnonterm_ok g a s W h hok hs)
  have hP := Lib.hid (fun W (h : GrAt W W.heap.size g a) => rprods_any g a s W h (by omega))
  have hR := Lib.hid (fun (A : Option Addr) (c : Nat) (w' : World) (h1 : Rd1 w' w'.heap.size A (prIdx g.prods s g.prods.length).length (ints (prIdx g.prods s g.prods.length))) (h2 : Below w.heap.size w w') => (show RetIE w (prIdx g.prods s g.prods.length) (.returned (.tuple #[.slice A (prIdx g.prods s g.prods.length).length c, .int .i64 0])) w' from ⟨A, c, rfl, h1, h2⟩))
  generalize RetIE w (prIdx g.prods s g.prods.length) = RR at *
  generalize prIdx g.prods s g.prods.length = L at *
  obtain ⟨ta, tc, na, nc, pa, pc⟩ := a
  have hG0 := GB.start hg
  clear hg hok hs
  unfold RetI at hP
  unfold gval gcells at *
  dsimp only at *
  go_enter Tryz.func14, Tryz.ntmps14
  go_upto_region 1 with (fail)
  generalize w.alloc (.cells #[.int .i64 g.k, .slice ta g.toks.length tc, .string g.sep, .slice na g.names.length nc, .int .i64 g.start, .slice pa g.prods.length pc] 25) = W at *
  obtain ⟨c0, c1, c2, c3, c4, c5⟩ := hG0.cells
  dsimp only at c1 c3 c5
  go_wp2_with (first
    | (go_at_call 50; refine (hN.out _ (hG0.2.1.mono hG0.2.2.size)).mono ?_; clear hN; rintro e w1 ⟨rfl, hb1⟩; have hG1 := hG0.step hb1; obtain ⟨d0, d1, d2, d3, d4, d5⟩ := hG1.cells; dsimp only at d1 d3 d5)
    | (go_at_call 51; refine (hP.out _ (hG1.2.1.mono hG1.2.2.size)).mono ?_; clear hP; rintro e w2 ⟨v, rfl, ho, hb2⟩; obtain ⟨A, c, hv, hr, _, _, _⟩ := ho.reads; rw [show (ints L).length = L.length by simp [ints]] at hv hr; subst hv))
  exact hR.out A c w2 hr (hG1.step hb2).2.2
def RetF15 (g : Gr) (l : List Int) (w : World) (e : Ending) (w' : World) : Prop := ∃ L A c, e = .returned (.tuple #[.slice A L.length c, .int .i64 0]) ∧ (∀ y, y ∈ L ↔ FL g.prods g.k.toNat l y) ∧ SetAt w' g.toks.length A L.length c L ∧ Below w.heap.size w w'
set_option maxRecDepth 100000 in
set_option maxHeartbeats 4000000 in
theorem first15_ok (g : Gr) (a : GA) (l : List Int) (RA : Option Addr) (rc : Nat) (w : World) (hg : GrAt w w.heap.size g a) (hok : gchk g = 0) (hl : ∀ s ∈ l, (0 ≤ s ∧ s < g.toks.length) ∨ (16 ≤ s ∧ s < 16 + (g.names.length : Int)))
    (hR : Rd1 w w.heap.size RA l.length (ints l)) (hln : l.length ≤ 100) : Calls Tryz.prog 47 #[gval g a, .slice RA l.length rc] w (RetF15 g l w) := by
  have hP := Lib.hid (fun (L : List Lk) (A : Option Addr) (c : Nat) (w' : World) (h1 : ∀ y, y ∈ L ↔ FL g.prods g.k.toNat l y) (h2 : SetAt w' g.toks.length A L.length c L) (h3 : Below w.heap.size w w') => (show RetF15 g l w (.returned (.tuple #[.slice A L.length c, .int .i64 0])) w' from ⟨L, A, c, rfl, h1, h2, h3⟩))
  generalize RetF15 g l w = RR at *
  have hk := gok_of hok
  have hC := Lib.hid (fun W (h : GrAt W W.heap.size g a) => rcheckg_any g a W h (small_of hok))
  rw [hok] at hC
  have hSt := Lib.hid (fun W (h : GrAt W W.heap.size g a) => sets15_any g a _ hk W h)
  have hOf := Lib.hid (fun (bo : Nat) (ss : List (List Lk)) (W : World) hg hS hf hR => refof15_ok g a _ hk l hl bo ss RA rc W hg hS hf hR (by omega))
  have hIf := Lib.hid (fun (ss : List (List Lk)) (h1 : SetsFit g.k.toNat ss) h2 h3 => first_iff (n := g.names.length) hk.k1 hk.k4 h1 h2 h3 (fun p hp => hk.sym hp) l (fun s hs => by have := hl s hs; have := hk.tk; unfold SymOk; omega))
  have hn8 := Lib.hid hk.nm
  have ht8 := Lib.hid hk.tk
  have hl' := Lib.hid hl
  obtain ⟨ta, tc, na, nc, pa, pc⟩ := a
  have hG0 := GB.start hg
  clear hg hok hl hk
  unfold RetFs at hSt
  unfold RetSt at hOf
  unfold gval gcells at *
  dsimp only at *
  go_enter Tryz.func47, Tryz.ntmps47
  go_upto_region 1 with (fail)
  generalize w.alloc (.cells #[.int .i64 g.k, .slice ta g.toks.length tc, .string g.sep, .slice na g.names.length nc, .int .i64 g.start, .slice pa g.prods.length pc] 25) = W at *
  obtain ⟨c0, c1, c2, c3, c4, c5⟩ := hG0.cells
  dsimp only at c1 c3 c5
  have hz100 : ¬ (100 : Int) < l.length := by omega
  go_upto_region 6 with (go_at_call 39; refine (hC.out _ (hG0.2.1.mono hG0.2.2.size)).mono ?_; clear hC; rintro e w1 ⟨rfl, hb1⟩)
  have hG1 := hG0.step hb1
  clear c0 c1 c2 c3 c4 c5 hG0 hb1
  go_wp2_with fail
  go_loopg [7] l.length (fun gk s7 wr => ∃ (i : Nat), s7 = .int .i64 i ∧ Hid (i + gk = l.length) ∧ wr = w1)
  case atStart => exact ⟨0, rfl, Lib.hid (by omega), rfl⟩
  case round =>
    obtain ⟨i, rfl, hi, rfl⟩ := hrel
    obtain ⟨c0, c1, c2, c3, c4, c5⟩ := hG1.cells
    dsimp only at c1 c3 c5
    by_cases hin : i < l.length
    · have hs : l[i]? = some l[i] := List.getElem?_eq_getElem hin
      have hsy := hl'.out _ (List.getElem_mem hin)
      obtain ⟨b, off, hRA, hbt, x0⟩ := hR.get (show (ints l)[i]? = some (.int .i64 l[i]) by rw [ints, List.getElem?_map, hs]; rfl)
      have x0' := (hG1.2.2.cell (p := ⟨b, off + i, none⟩) hbt).trans x0
      generalize l[i] = s at *
      have hz0 : (0 : Int) ≤ i := by omega
      have hz1 : (i : Int) < l.length := by omega
      have hz2 : ¬ s < 0 := by omega
      have hz3 : IntKind.i64.wrap (16 + (g.names.length : Int)) = 16 + (g.names.length : Int) := IntWalk.i64_in _ (by have := hn8.out; omega)
      have hz4 : ¬ (16 + (g.names.length : Int)) ≤ s := by have := ht8.out; omega
      clear x0 hs
      subst hRA
      by_cases h16 : 16 ≤ s
      · have hz5 : ¬ s < 16 := by omega
        have hz6 : (g.toks.length : Int) ≤ s := by have := ht8.out; omega
        replace hsy := Lib.hid hsy
        go_wp2_with fail
        go_roundg (l.length - (i + 1))
        case measure => have := hi.out; omega
        case rel => exact ⟨i + 1, by go_num, Lib.hid (by have := hi.out; omega), rfl⟩
      · have hz5 : s < 16 := by omega
        have hz6 : ¬ (g.toks.length : Int) ≤ s := by have := ht8.out; omega
        replace hsy := Lib.hid hsy
        go_wp2_with fail
        go_roundg (l.length - (i + 1))
        case measure => have := hi.out; omega
        case rel => exact ⟨i + 1, by go_num, Lib.hid (by have := hi.out; omega), rfl⟩
    · have hie : i = l.length := by have := hi.out; omega
      subst hie
      have hAll : Hid (∀ X, Below wr.heap.size wr X → X.cell? ⟨w.heap.size, 0, none⟩ = some (.int .i64 g.k) ∧ X.cell? ⟨w.heap.size, 1, none⟩ = some (.slice ta g.toks.length tc) ∧ X.cell? ⟨w.heap.size, 2, none⟩ = some (.string g.sep) ∧ X.cell? ⟨w.heap.size, 3, none⟩ = some (.slice na g.names.length nc) ∧ X.cell? ⟨w.heap.size, 4, none⟩ = some (.int .i64 g.start) ∧ X.cell? ⟨w.heap.size, 5, none⟩ = some (.slice pa g.prods.length pc) ∧ Below wr.heap.size wr X) := Lib.hid fun X h => ⟨cell_later h c0, cell_later h c1, cell_later h c2, cell_later h c3, cell_later h c4, cell_later h c5, h⟩
      have hSt' := Lib.hid (fun X (h : Below wr.heap.size wr X) => hSt.out X (((hG1.step h).2.1).mono (hG1.step h).2.2.size))
      have hOf' := Lib.hid (fun bo ss X (h : Below wr.heap.size wr X) hS hf => hOf.out bo ss X (((hG1.step h).2.1).mono (hG1.step h).2.2.size) hS hf ((hR.below (hG1.step h).2.2).mono (hG1.step h).2.2.size))
      have hb0 := hG1.2.2
      clear hSt hOf hG1 hR
      go_upto_region 12 with (fail)
      go_region_held3 (fun X => X.cell? ⟨w.heap.size, 0, none⟩ = some (.int .i64 g.k) ∧ X.cell? ⟨w.heap.size, 1, none⟩ = some (.slice ta g.toks.length tc) ∧ X.cell? ⟨w.heap.size, 2, none⟩ = some (.string g.sep) ∧ X.cell? ⟨w.heap.size, 3, none⟩ = some (.slice na g.names.length nc) ∧ X.cell? ⟨w.heap.size, 4, none⟩ = some (.int .i64 g.start) ∧ X.cell? ⟨w.heap.size, 5, none⟩ = some (.slice pa g.prods.length pc) ∧ Below wr.heap.size wr X)
        ((refine hAll.out _ ?_; repeat (first | assumption | exact Below.refl _ _ | (with_reducible refine bAlc ?_ _) | (with_reducible refine bDrw ?_))))
        (first
          | (go_at_call 95; refine (hSt'.out _ (by repeat (first | assumption | exact Below.refl _ _ | (refine bStep ?_ (by assumption)) | (with_reducible refine bAlc ?_ _) | (with_reducible refine bDrw ?_)))).mono ?_; clear hSt'; rintro e w2 ⟨bo, ss, rfl, hS, hbo, hf, h2, h3, hb2⟩; have hs2 : Below wr.heap.size wr w2 := bStep (by repeat (first | assumption | exact Below.refl _ _ | (refine bStep ?_ (by assumption)) | (with_reducible refine bAlc ?_ _) | (with_reducible refine bDrw ?_))) hb2)
          | (go_at_call 94; refine (hOf'.out bo ss _ hs2 hS hf).mono ?_; clear hOf'; rintro e w3 ⟨A, c, rfl, hA, hb3⟩; have hs3 : Below wr.heap.size wr w3 := bStep hs2 hb3))
      all_goals
        go_wp2_with fail
        exact hP.out _ A c w3 (hIf.out ss hf h2 h3) hA (bStep hb0 hs3)
set_option maxHeartbeats 2000000 in
theorem of15_ok (g : Gr) (a : GA) (l : List Int) (RA : Option Addr) (rc : Nat) (w : World) (hg : GrAt w w.heap.size g a) (hok : gchk g = 0) (hl : ∀ s ∈ l, (0 ≤ s ∧ s < g.toks.length) ∨ (16 ≤ s ∧ s < 16 + (g.names.length : Int)))
    (hR : Rd1 w w.heap.size RA l.length (ints l)) (hln : l.length ≤ 100) (hfew : ∀ L : List Lk, L.Nodup → (∀ y ∈ L, FL g.prods g.k.toNat l y) → L.length ≤ 600) : Calls Tryz.prog 12 #[gval g a, .slice RA l.length rc] w (RetF15 g l w) := by
  have hP := Lib.hid (fun (L : List Lk) (A : Option Addr) (c : Nat) (w' : World) (h1 : ∀ y, y ∈ L ↔ FL g.prods g.k.toNat l y) (h2 : SetAt w' g.toks.length A L.length c L) (h3 : Below w.heap.size w w') => (show RetF15 g l w (.returned (.tuple #[.slice A L.length c, .int .i64 0])) w' from ⟨L, A, c, rfl, h1, h2, h3⟩))
  have hC := Lib.hid (fun W (h : GrAt W W.heap.size g a) hR => first15_ok g a l RA rc W h hok hl hR hln)
  have hfew' := Lib.hid hfew
  obtain ⟨ta, tc, na, nc, pa, pc⟩ := a
  have hG0 := GB.start hg
  clear hg hok hl hfew
  generalize RetF15 g l w = RR at *
  unfold RetF15 at hC
  unfold gval gcells at *
  dsimp only at *
  go_enter Tryz.func12, Tryz.ntmps12
  go_upto_region 1 with (fail)
  generalize w.alloc (.cells #[.int .i64 g.k, .slice ta g.toks.length tc, .string g.sep, .slice na g.names.length nc, .int .i64 g.start, .slice pa g.prods.length pc] 25) = W at *
  obtain ⟨c0, c1, c2, c3, c4, c5⟩ := hG0.cells
  dsimp only at c1 c3 c5
  have hR' := (hR.below hG0.2.2).mono hG0.2.2.size
  go_wp2_with (go_at_call 47; refine (hC.out _ (hG0.2.1.mono hG0.2.2.size) hR').mono ?_; clear hC; rintro e w1 ⟨L, A, c, rfl, hL, hA, hb1⟩; have hz : ¬ (600 : Int) < L.length := (by have := hfew'.out L (asc_nodup hA.asc) fun y hy => (hL y).1 hy; omega); replace hL := Lib.hid hL)
  exact hP.out L A c w1 hL.out hA (hG0.step hb1).2.2
end Go.Proofs.YtnnkfgekiaaehaaGreat

/- The parse of a grammar text, plainly: lexemes, the reader, the source, and the grammar of a source, as far as there is no fault. -/
namespace Go.Proofs.YtnnkfgekiaaehaaGreat
set_option linter.unusedVariables false
structure Lx where
  kind : Int
  text : ByteArray
  at' : Nat
def blankI (c : Int) : Bool := decide (c = 32 ∨ c = 9 ∨ c = 10 ∨ c = 13)
def signI (c : Int) : Bool := decide (c = 61 ∨ c = 124 ∨ c = 59 ∨ c = 44)
def wordI (c : Int) : Bool := letrI c || (digiI c || decide (c = 95))
def spanB (p : Int → Bool) (s : ByteArray) : Nat → Nat → Nat
  | 0, i => i
  | f + 1, i => if i < s.size ∧ p (byteAt s i) = true then spanB p s f (i + 1) else i
def begB (s : ByteArray) : Option (Int × Nat) :=
  if signI (byteAt s 0) = true then some (3, 1)
  else if letrI (byteAt s 0) = true then some (1, spanB wordI s s.size 1)
  else if digiI (byteAt s 0) = true then
    (if (byteAt s 0 = 48 ∧ 1 < spanB digiI s s.size 1) ∨ (spanB digiI s s.size 1 < s.size ∧ (letrI (byteAt s (spanB digiI s s.size 1)) = true ∨ byteAt s (spanB digiI s s.size 1) = 95)) then none else some (2, spanB digiI s s.size 1))
  else none
def lexF (s : ByteArray) : Nat → Nat → Option (List Lx)
  | 0, _ => none
  | f + 1, i => if spanB blankI s s.size i = s.size then some [] else
    match begB (s.extract (spanB blankI s s.size i) s.size) with
    | none => none
    | some (k, n) => match lexF s f (spanB blankI s s.size i + n) with
      | none => none
      | some l => some (⟨k, (s.extract (spanB blankI s s.size i) s.size).extract 0 n, spanB blankI s s.size i⟩ :: l)
def hasN (s : ByteArray) (l : List ByteArray) : Bool := l.any fun x => decide (x = s)
def mustF (k : Int) (t : ByteArray) : List Lx → Option (List Lx)
  | [] => none
  | x :: r => if x.kind = k ∧ x.text = t then some r else none
def nameF (cap : Bool) : List Lx → Option (ByteArray × List Lx)
  | [] => none
  | x :: r => if x.kind = 1 ∧ (if cap = true then capB x.text else smallB x.text) = true then some (x.text, r) else none
def nextF (t : ByteArray) : List Lx → Bool × List Lx
  | [] => (false, [])
  | x :: r => if x.kind = 3 ∧ x.text = t then (true, r) else (false, x :: r)
def sgEq : ByteArray := ⟨#[61]⟩
def sgBar : ByteArray := ⟨#[124]⟩
def sgSemi : ByteArray := ⟨#[59]⟩
def sgComma : ByteArray := ⟨#[44]⟩
def toksF : Nat → List ByteArray → List Lx → Option (List ByteArray × List Lx)
  | 0, _, _ => none
  | f + 1, ts, l => match nameF false l with
    | none => none
    | some (s, l) => if hasN s ts = true ∨ ts.length = 8 then none else
      if (nextF sgComma l).1 = true then toksF f (ts ++ [s]) (nextF sgComma l).2 else some (ts ++ [s], (nextF sgComma l).2)
def altF : Nat → List ByteArray → List Lx → Option (List ByteArray × List Lx)
  | 0, _, _ => none
  | _ + 1, _, [] => none
  | f + 1, out, x :: r => if x.kind = 1 then (if (smallB x.text = true ∨ capB x.text = true) ∧ out.length ≠ 6 then altF f (out ++ [x.text]) r else none) else some (out, x :: r)
def altsF : Nat → Nat → List (List ByteArray) → List Lx → Option (List (List ByteArray) × List Lx)
  | 0, _, _, _ => none
  | f + 1, n, az, l => if n = 24 then none else match altF 7 [] l with
    | none => none
    | some (a, l) => if (nextF sgBar l).1 = true then altsF f (n + 1) (az ++ [a]) (nextF sgBar l).2 else some (az ++ [a], (nextF sgBar l).2)
abbrev Rule := ByteArray × List (List ByteArray)
def nAlts (rs : List Rule) : Nat := (rs.map fun r => r.2.length).sum
def ruleF (rs : List Rule) (l : List Lx) : Option (Rule × List Lx) :=
  match nameF true l with
  | none => none
  | some (s, l) => if hasN s (rs.map (·.1)) = true ∨ rs.length = 8 then none else match mustF 3 sgEq l with
    | none => none
    | some l => match altsF 25 (nAlts rs) [] l with
      | none => none
      | some (az, l) => match mustF 3 sgSemi l with
        | none => none
        | some l => some ((s, az), l)
def rulesF : Nat → List Rule → List Lx → Option (List Rule)
  | 0, _, _ => none
  | f + 1, rs, l => match ruleF rs l with
    | none => none
    | some (r, []) => some (rs ++ [r])
    | some (r, x :: l) => rulesF f (rs ++ [r]) (x :: l)
structure Src where
  k : Int
  toks : List ByteArray
  sep : ByteArray
  start : ByteArray
  rules : List Rule
def knownF (x : Src) (l : List Lx) : Bool :=
  hasN x.start (x.rules.map (·.1)) && l.all fun y => !decide (y.kind = 1) || (!decide (y.text = x.sep) && (hasN y.text (x.rules.map (·.1)) || hasN y.text x.toks))
def headF (l : List Lx) : Option (Int × List ByteArray × ByteArray × ByteArray × List Lx) :=
  match mustF 1 ⟨#[108, 111, 111, 107, 97, 104, 101, 97, 100]⟩ l with
  | some (n :: l) => if n.kind = 2 ∧ n.text.size = 1 ∧ 49 ≤ byteAt n.text 0 ∧ byteAt n.text 0 ≤ 52 then
    match mustF 3 sgSemi l with
    | none => none
    | some l => match mustF 1 ⟨#[116, 111, 107, 101, 110]⟩ l with
      | none => none
      | some l => match toksF 9 [] l with
        | none => none
        | some (ts, l) => match mustF 3 sgSemi l with
          | none => none
          | some l => match mustF 1 ⟨#[115, 101, 112, 97, 114, 97, 116, 111, 114]⟩ l with
            | none => none
            | some l => match nameF false l with
              | none => none
              | some (sep, l) => if hasN sep ts = true then none else match mustF 3 sgSemi l with
                | none => none
                | some l => match mustF 1 ⟨#[115, 116, 97, 114, 116]⟩ l with
                  | none => none
                  | some l => match nameF true l with
                    | none => none
                    | some (st, l) => match mustF 3 sgSemi l with
                      | none => none
                      | some l => some (byteAt n.text 0 - 48, ts, sep, st, l)
    else none
  | _ => none
def parseF (s : ByteArray) : Option Src :=
  if 2000 < s.size then none else match lexF s (s.size + 1) 0 with
  | none => none
  | some l => match headF l with
    | none => none
    | some (k, ts, sep, st, r) => match rulesF 9 [] r with
      | none => none
      | some rs => if knownF ⟨k, ts, sep, st, rs⟩ r = true then some ⟨k, ts, sep, st, rs⟩ else none
def ruleText : List (Nat × Nat × ByteArray) := [
  (1, 1, ⟨#[83, 32, 61, 32, 97, 32, 83, 32, 124, 32, 59]⟩),
  (1, 2, ⟨#[83, 32, 61, 32, 97, 32, 84, 32, 124, 32, 59, 32, 84, 32, 61, 32, 98, 32, 83, 32, 59]⟩),
  (2, 2, ⟨#[83, 32, 61, 32, 97, 32, 84, 32, 124, 32, 59, 32, 84, 32, 61, 32, 98, 32, 83, 32, 59]⟩),
  (2, 2, ⟨#[83, 32, 61, 32, 97, 32, 124, 32, 97, 32, 98, 32, 59]⟩),
  (1, 3, ⟨#[83, 32, 61, 32, 97, 32, 83, 32, 98, 32, 124, 32, 99, 32, 59]⟩),
  (1, 3, ⟨#[83, 32, 61, 32, 84, 32, 85, 32, 59, 32, 84, 32, 61, 32, 97, 32, 84, 32, 124, 32, 59, 32, 85, 32, 61, 32, 98, 32, 85, 32, 124, 32, 99, 32, 59]⟩),
  (2, 3, ⟨#[83, 32, 61, 32, 97, 32, 97, 32, 83, 32, 124, 32, 97, 32, 98, 32, 124, 32, 99, 32, 59]⟩),
  (1, 3, ⟨#[83, 32, 61, 32, 97, 32, 84, 32, 99, 32, 59, 32, 84, 32, 61, 32, 98, 32, 84, 32, 124, 32, 85, 32, 59, 32, 85, 32, 61, 32, 59]⟩),
  (2, 3, ⟨#[83, 32, 61, 32, 84, 32, 99, 32, 124, 32, 98, 32, 83, 32, 59, 32, 84, 32, 61, 32, 98, 32, 97, 32, 124, 32, 59]⟩),
  (1, 2, ⟨#[83, 32, 61, 32, 97, 32, 83, 32, 83, 32, 124, 32, 98, 32, 59]⟩),
  (3, 2, ⟨#[83, 32, 61, 32, 97, 32, 97, 32, 97, 32, 124, 32, 97, 32, 97, 32, 98, 32, 83, 32, 124, 32, 98, 32, 59]⟩),
  (1, 4, ⟨#[83, 32, 61, 32, 97, 32, 76, 32, 98, 32, 59, 32, 76, 32, 61, 32, 69, 32, 77, 32, 59, 32, 77, 32, 61, 32, 99, 32, 69, 32, 77, 32, 124, 32, 59, 32, 69, 32, 61, 32, 100, 32, 124, 32, 83, 32, 59]⟩),
  (2, 2, ⟨#[83, 32, 61, 32, 84, 32, 84, 32, 59, 32, 84, 32, 61, 32, 97, 32, 98, 32, 124, 32, 98, 32, 97, 32, 59]⟩),
  (1, 1, ⟨#[83, 32, 61, 32, 97, 32, 59]⟩),
  (2, 3, ⟨#[83, 32, 61, 32, 97, 32, 84, 32, 124, 32, 97, 32, 98, 32, 99, 32, 59, 32, 84, 32, 61, 32, 97, 32, 124, 32, 99, 32, 83, 32, 59]⟩),
  (1, 2, ⟨#[83, 32, 61, 32, 84, 32, 85, 32, 84, 32, 59, 32, 84, 32, 61, 32, 59, 32, 85, 32, 61, 32, 97, 32, 85, 32, 98, 32, 124, 32, 59]⟩)]
def termsB : Nat → ByteArray
  | 0 => ⟨#[]⟩
  | n + 1 => termsB n ++ ⟨#[44, 32]⟩ ++ ⟨#[UInt8.ofNat (98 + n)]⟩
def textK (r : Nat) (a : Bool) : Nat := (ruleText.getD r (0, 0, ⟨#[]⟩)).1 + (if a = true ∧ (ruleText.getD r (0, 0, ⟨#[]⟩)).1 < 2 then 1 else 0)
def textT (r : Nat) (b : Bool) : Nat := (ruleText.getD r (0, 0, ⟨#[]⟩)).2.1 + (if b = true ∧ (ruleText.getD r (0, 0, ⟨#[]⟩)).2.1 < 4 then 1 else 0)
def textB (r : Nat) (a b : Bool) : ByteArray :=
  ⟨#[108, 111, 111, 107, 97, 104, 101, 97, 100, 32]⟩ ++ ⟨#[UInt8.ofNat (48 + textK r a)]⟩ ++ ⟨#[59, 32, 116, 111, 107, 101, 110, 32, 97]⟩ ++ termsB (textT r b - 1) ++ ⟨#[59, 32, 115, 101, 112, 97, 114, 97, 116, 111, 114, 32, 122, 59, 32, 115, 116, 97, 114, 116, 32, 83, 59, 32]⟩ ++ (ruleText.getD r (0, 0, ⟨#[]⟩)).2.2
def findN (s : ByteArray) : List ByteArray → Nat → Int
  | [], _ => -1
  | x :: l, i => if x = s then i else findN s l (i + 1)
def symN (names toks : List ByteArray) (s : ByteArray) : Int := if 0 ≤ findN s names 0 then 16 + findN s names 0 else findN s toks 0
def prodsN (names toks : List ByteArray) : Nat → List Rule → List (Int × List Int)
  | _, [] => []
  | i, r :: rs => r.2.map (fun a => (16 + (i : Int), a.map (symN names toks))) ++ prodsN names toks (i + 1) rs
def srcOK (x : Src) : Bool :=
  decide (1 ≤ x.k) && decide (x.k ≤ 4) && !x.toks.isEmpty && !x.rules.isEmpty && x.rules.all (fun r => !r.2.isEmpty) &&
  decide (x.toks.length ≤ 8) && decide (x.rules.length ≤ 8) && decide (nAlts x.rules ≤ 24) && x.rules.all (fun r => r.2.all fun a => decide (a.length ≤ 6)) &&
  x.toks.all smallB && x.rules.all (fun r => capB r.1 && r.2.all fun a => a.all fun s => smallB s || capB s) && smallB x.sep && capB x.start &&
  decide ((x.toks ++ [x.sep]).Nodup) && decide ((x.rules.map (·.1)).Nodup) && x.rules.all (fun r => r.2.all fun a => !hasN x.sep a) &&
  x.rules.all (fun r => r.2.all fun a => a.all fun s => hasN s (x.rules.map (·.1)) || hasN s x.toks) && hasN x.start (x.rules.map (·.1))
end Go.Proofs.YtnnkfgekiaaehaaGreat

/- The lexer of the reference (layer 4): classes of bytes, pass. -/
namespace Go.Proofs.YtnnkfgekiaaehaaGreat
open Go.ChangeShapes Go.WideShapes Go.ChangeAt Go.RowKit
set_option linter.unusedVariables false
theorem span_le (p : Int → Bool) (s : ByteArray) : ∀ (f i : Nat), i ≤ s.size → spanB p s f i ≤ s.size ∧ i ≤ spanB p s f i
  | 0, i, h => ⟨h, Nat.le_refl _⟩
  | f + 1, i, h => by
    unfold spanB
    split
    · rename_i h2
      have := span_le p s f (i + 1) (by omega)
      omega
    · exact ⟨h, Nat.le_refl _⟩
theorem blank_any (r : Int) (w : World) : Calls Tryz.prog 171 #[.int .u8 r] w fun e w' => e = .returned (.bool (blankI r)) ∧ w = w' := by
  by_cases h0 : r = 32
  · have b0 : (r == 32) = true := by simp [h0]
    have hR := Lib.hid (show blankI r = true by unfold blankI; exact decide_eq_true (by omega))
    clear h0
    go_enter Tryz.func171, Tryz.ntmps171
    go_wp2
    go_ret
    exact ⟨ret_bool hR.out.symm, rfl⟩
  · have b0 : (r == 32) = false := by simp [h0]
    by_cases h1 : r = 9
    · have b1 : (r == 9) = true := by simp [h1]
      have hR := Lib.hid (show blankI r = true by unfold blankI; exact decide_eq_true (by omega))
      clear h1
      go_enter Tryz.func171, Tryz.ntmps171
      go_wp2
      go_ret
      exact ⟨ret_bool hR.out.symm, rfl⟩
    · have b1 : (r == 9) = false := by simp [h1]
      by_cases h2 : r = 10
      · have b2 : (r == 10) = true := by simp [h2]
        have hR := Lib.hid (show blankI r = true by unfold blankI; exact decide_eq_true (by omega))
        clear h2
        go_enter Tryz.func171, Tryz.ntmps171
        go_wp2
        go_ret
        exact ⟨ret_bool hR.out.symm, rfl⟩
      · have b2 : (r == 10) = false := by simp [h2]
        by_cases h3 : r = 13
        · have b3 : (r == 13) = true := by simp [h3]
          have hR := Lib.hid (show blankI r = true by unfold blankI; exact decide_eq_true (by omega))
          clear h3
          go_enter Tryz.func171, Tryz.ntmps171
          go_wp2
          go_ret
          exact ⟨ret_bool hR.out.symm, rfl⟩
        · have b3 : (r == 13) = false := by simp [h3]
          have hR := Lib.hid (show blankI r = false by unfold blankI; exact decide_eq_false (by omega))
          clear h0 h1 h2 h3
          go_enter Tryz.func171, Tryz.ntmps171
          go_wp2
          go_ret
          exact ⟨ret_bool hR.out.symm, rfl⟩
theorem sign_any (r : Int) (w : World) : Calls Tryz.prog 172 #[.int .u8 r] w fun e w' => e = .returned (.bool (signI r)) ∧ w = w' := by
  by_cases h0 : r = 61
  · have b0 : (r == 61) = true := by simp [h0]
    have hR := Lib.hid (show signI r = true by unfold signI; exact decide_eq_true (by omega))
    clear h0
    go_enter Tryz.func172, Tryz.ntmps172
    go_wp2
    go_ret
    exact ⟨ret_bool hR.out.symm, rfl⟩
  · have b0 : (r == 61) = false := by simp [h0]
    by_cases h1 : r = 124
    · have b1 : (r == 124) = true := by simp [h1]
      have hR := Lib.hid (show signI r = true by unfold signI; exact decide_eq_true (by omega))
      clear h1
      go_enter Tryz.func172, Tryz.ntmps172
      go_wp2
      go_ret
      exact ⟨ret_bool hR.out.symm, rfl⟩
    · have b1 : (r == 124) = false := by simp [h1]
      by_cases h2 : r = 59
      · have b2 : (r == 59) = true := by simp [h2]
        have hR := Lib.hid (show signI r = true by unfold signI; exact decide_eq_true (by omega))
        clear h2
        go_enter Tryz.func172, Tryz.ntmps172
        go_wp2
        go_ret
        exact ⟨ret_bool hR.out.symm, rfl⟩
      · have b2 : (r == 59) = false := by simp [h2]
        by_cases h3 : r = 44
        · have b3 : (r == 44) = true := by simp [h3]
          have hR := Lib.hid (show signI r = true by unfold signI; exact decide_eq_true (by omega))
          clear h3
          go_enter Tryz.func172, Tryz.ntmps172
          go_wp2
          go_ret
          exact ⟨ret_bool hR.out.symm, rfl⟩
        · have b3 : (r == 44) = false := by simp [h3]
          have hR := Lib.hid (show signI r = false by unfold signI; exact decide_eq_false (by omega))
          clear h0 h1 h2 h3
          go_enter Tryz.func172, Tryz.ntmps172
          go_wp2
          go_ret
          exact ⟨ret_bool hR.out.symm, rfl⟩
theorem xlett_any (r : Int) (w : World) : Calls Tryz.prog 173 #[.int .u8 r] w fun e w' => e = .returned (.bool (letrI r)) ∧ w = w' := by
  by_cases h1 : 97 ≤ r
  · by_cases h2 : r ≤ 122
    · go_enter Tryz.func173, Tryz.ntmps173
      go_wp2
      go_ret
      exact ⟨ret_bool (by simp [letrI]; omega), rfl⟩
    · have h3 : 65 ≤ r := by omega
      have h4 : ¬ r ≤ 90 := by omega
      go_enter Tryz.func173, Tryz.ntmps173
      go_wp2
      go_ret
      exact ⟨ret_bool (by simp [letrI]; omega), rfl⟩
  · by_cases h3 : 65 ≤ r
    · by_cases h4 : r ≤ 90
      · go_enter Tryz.func173, Tryz.ntmps173
        go_wp2
        go_ret
        exact ⟨ret_bool (by simp [letrI]; omega), rfl⟩
      · go_enter Tryz.func173, Tryz.ntmps173
        go_wp2
        go_ret
        exact ⟨ret_bool (by simp [letrI]; omega), rfl⟩
    · go_enter Tryz.func173, Tryz.ntmps173
      go_wp2
      go_ret
      exact ⟨ret_bool (by simp [letrI]; omega), rfl⟩
theorem xdigt_any (r : Int) (w : World) : Calls Tryz.prog 174 #[.int .u8 r] w fun e w' => e = .returned (.bool (digiI r)) ∧ w = w' := by
  by_cases h1 : 48 ≤ r
  · by_cases h2 : r ≤ 57
    · go_enter Tryz.func174, Tryz.ntmps174
      go_wp2
      go_ret
      exact ⟨ret_bool (by simp [digiI]; omega), rfl⟩
    · go_enter Tryz.func174, Tryz.ntmps174
      go_wp2
      go_ret
      exact ⟨ret_bool (by simp [digiI]; omega), rfl⟩
  · go_enter Tryz.func174, Tryz.ntmps174
    go_wp2
    go_ret
    exact ⟨ret_bool (by simp [digiI]; omega), rfl⟩
set_option maxHeartbeats 1000000 in
theorem pass_any (s : ByteArray) (i n : Nat) (w : World) (hs : s.size ≤ maxLen) (hi : i ≤ n) (hn : n ≤ s.size) (hb : ∀ j, i ≤ j → j < n → blankI (byteAt s j) = true) (he : n < s.size → blankI (byteAt s n) = false ∧ byteAt s n ≠ 35) :
    Calls Tryz.prog 156 #[.string s, .int .i64 i] w fun e w' => e = .returned (.int .i64 n) ∧ w = w' := by
  unfold maxLen at hs
  have hzi : (0 : Int) ≤ i := by omega
  replace hb := Lib.hid hb
  replace he := Lib.hid he
  go_enter Tryz.func156, Tryz.ntmps156
  go_wp2_with fail
  go_loopg [1] (n - i) (fun k s1 wr => ∃ pos : Nat, wr = w ∧ s1 = .int .i64 pos ∧ pos + k = n ∧ i ≤ pos)
  case atStart => exact ⟨i, rfl, rfl, by omega, Nat.le_refl _⟩
  case round =>
    obtain ⟨pos, rfl, rfl, hk, hip⟩ := hrel
    replace hk := Lib.hid hk
    have hpz : 0 ≤ (pos : Int) := by omega
    by_cases hp : pos < s.size
    · have hbt := (byteAt_get s pos hp).symm
      have hpl : (pos : Int) < s.size := by omega
      by_cases hpn : pos < n
      · have hB := hb.out pos hip hpn
        generalize byteAt s pos = r at hbt hB
        go_wp2_with (go_at_call 171; refine (blank_any r _).mono ?_; rintro e w' ⟨rfl, rfl⟩; rw [hB])
        go_roundg (n - (pos + 1))
        case measure => have := hk.out; omega
        case rel => exact ⟨pos + 1, rfl, by go_num, by omega, by omega⟩
      · have hpe : pos = n := by have := hk.out; omega
        subst hpe
        obtain ⟨hB, h35⟩ := he.out hp
        generalize byteAt s pos = r at hbt hB h35
        have h35b : (r == 35) = false := by simpa using h35
        clear h35
        go_wp2_with (go_at_call 171; refine (blank_any r _).mono ?_; rintro e w' ⟨rfl, rfl⟩; rw [hB])
        go_ret
        exact ⟨rfl, rfl⟩
    · have hpe : pos = n := by have := hk.out; omega
      subst hpe
      go_wp2_with fail
      go_ret
      exact ⟨rfl, rfl⟩
end Go.Proofs.YtnnkfgekiaaehaaGreat

/- The lexer of the reference (layer 4): begins. -/
namespace Go.Proofs.YtnnkfgekiaaehaaGreat
open Go.ChangeShapes Go.WideShapes Go.ChangeAt Go.RowKit
set_option linter.unusedVariables false
theorem span_props (p : Int → Bool) (s : ByteArray) : ∀ (f i : Nat), i ≤ s.size → s.size ≤ i + f → (∀ j, i ≤ j → j < spanB p s f i → p (byteAt s j) = true) ∧ (spanB p s f i < s.size → p (byteAt s (spanB p s f i)) = false)
  | 0, i, h, h2 => by
    unfold spanB
    exact ⟨fun j a b => by omega, fun a => by omega⟩
  | f + 1, i, h, h2 => by
    unfold spanB
    split
    · rename_i h3
      obtain ⟨a, b⟩ := span_props p s f (i + 1) (by omega) (by omega)
      refine ⟨fun j c d => ?_, b⟩
      by_cases e : j = i
      · subst e; exact h3.2
      · exact a j (by omega) d
    · rename_i h3
      refine ⟨fun j a b => by omega, fun a => ?_⟩
      cases hp : p (byteAt s i) with
      | false => rfl
      | true => exact absurd ⟨a, hp⟩ h3
abbrev lxV (k : Int) (t : ByteArray) (i : Int) : Value := .agg #[.int .i64 k, .string t, .int .i64 i]
theorem under124 : Tryz.prog.underlying 124 = some (.struct (Tryz.prog.fieldsOf 124)) := by kernel_rfl
theorem size124 : (Tryz.prog.info? 124).map (·.size) = some 3 := by kernel_rfl
theorem beg_sign (s : ByteArray) (w : World) (hs : s.size ≤ maxLen) (h0 : 0 < s.size) (h : signI (byteAt s 0) = true) :
    Calls Tryz.prog 157 #[.string s] w fun e w' => e = .returned (lxV 3 (s.extract 0 1) 0) ∧ Below w.heap.size w w' := by
  unfold maxLen at hs
  have hbt := (byteAt_get s 0 h0).symm
  generalize byteAt s 0 = r at *
  have hz : (0 : Int) < s.size := by omega
  go_enter Tryz.func157, Tryz.ntmps157
  go_wp2_with (go_at_call 172; refine (sign_any r _).mono ?_; rintro e w' ⟨rfl, rfl⟩; rw [h])
  exact bodyPost_ret (results_cell_row rfl _ _ _ 124 _ (0, 0) _ rfl (Blk.new w 124 _) under124 rfl size124) rfl ⟨rfl, bAlc (Below.refl _ _) _⟩
set_option maxHeartbeats 1000000 in
theorem beg_word (s : ByteArray) (n : Nat) (w : World) (hs : s.size ≤ maxLen) (h0 : 0 < s.size) (h : signI (byteAt s 0) = false) (h2 : letrI (byteAt s 0) = true)
    (h1n : 1 ≤ n) (hn : n ≤ s.size) (hb : ∀ j, 1 ≤ j → j < n → wordI (byteAt s j) = true) (he : n < s.size → wordI (byteAt s n) = false) :
    Calls Tryz.prog 157 #[.string s] w fun e w' => e = .returned (lxV 1 (s.extract 0 n) 0) ∧ Below w.heap.size w w' := by
  unfold maxLen at hs
  have hbt0 := (byteAt_get s 0 h0).symm
  generalize byteAt s 0 = r0 at *
  have hz : (0 : Int) < s.size := by omega
  replace hb := Lib.hid hb
  replace he := Lib.hid he
  go_enter Tryz.func157, Tryz.ntmps157
  go_wp2_with (first
    | (go_at_call 172; refine (sign_any r0 _).mono ?_; rintro e w' ⟨rfl, rfl⟩; rw [h])
    | (go_at_call 173; refine (xlett_any r0 _).mono ?_; rintro e w' ⟨rfl, rfl⟩; rw [h2]))
  go_loopg [3] (n - 1) (fun k s3 wr => ∃ pos : Nat, wr = w.alloc (.cells #[.int .i64 0, .string ByteArray.empty, .int .i64 0] 124) ∧ s3 = .int .i64 pos ∧ pos + k = n ∧ 1 ≤ pos)
  case atStart => exact ⟨1, rfl, rfl, by omega, Nat.le_refl _⟩
  case round =>
    obtain ⟨pos, rfl, rfl, hk, hip⟩ := hrel
    replace hk := Lib.hid hk
    clear hbt0 h h2
    have hpz : 0 ≤ (pos : Int) := by omega
    by_cases hp : pos < s.size
    · have hbt := (byteAt_get s pos hp).symm
      have hpl : (pos : Int) < s.size := by omega
      by_cases hpn : pos < n
      · have hB := hb.out pos hip hpn
        generalize byteAt s pos = r at hbt hB
        unfold wordI at hB
        cases hl : letrI r with
        | true =>
          clear hB
          go_wp2_with (go_at_call 173; refine (xlett_any r _).mono ?_; rintro e w' ⟨rfl, rfl⟩; rw [hl])
          go_roundg (n - (pos + 1))
          case measure => have := hk.out; omega
          case rel => exact ⟨pos + 1, rfl, by go_num, by omega, by omega⟩
        | false =>
          cases hd : digiI r with
          | true =>
            clear hB
            go_wp2_with (first
              | (go_at_call 173; refine (xlett_any r _).mono ?_; rintro e w' ⟨rfl, rfl⟩; rw [hl])
              | (go_at_call 174; refine (xdigt_any r _).mono ?_; rintro e w' ⟨rfl, rfl⟩; rw [hd]))
            go_roundg (n - (pos + 1))
            case measure => have := hk.out; omega
            case rel => exact ⟨pos + 1, rfl, by go_num, by omega, by omega⟩
          | false =>
            have h95 : (r == 95) = true := by rw [hl, hd] at hB; simpa using hB
            clear hB
            go_wp2_with (first
              | (go_at_call 173; refine (xlett_any r _).mono ?_; rintro e w' ⟨rfl, rfl⟩; rw [hl])
              | (go_at_call 174; refine (xdigt_any r _).mono ?_; rintro e w' ⟨rfl, rfl⟩; rw [hd]))
            go_roundg (n - (pos + 1))
            case measure => have := hk.out; omega
            case rel => exact ⟨pos + 1, rfl, by go_num, by omega, by omega⟩
      · have hpe : pos = n := by have := hk.out; omega
        subst hpe
        have hB := he.out hp
        generalize byteAt s pos = r at hbt hB
        unfold wordI at hB
        rw [Bool.or_eq_false_iff, Bool.or_eq_false_iff] at hB
        obtain ⟨hl, hd, h95⟩ := hB
        have h95b : (r == 95) = false := by simpa using h95
        clear h95
        go_wp2_with (first
          | (go_at_call 173; refine (xlett_any r _).mono ?_; rintro e w' ⟨rfl, rfl⟩; rw [hl])
          | (go_at_call 174; refine (xdigt_any r _).mono ?_; rintro e w' ⟨rfl, rfl⟩; rw [hd]))
        exact bodyPost_ret (results_cell_row rfl _ _ _ 124 _ (0, 0) _ rfl (Blk.new w 124 _) under124 rfl size124) rfl ⟨rfl, bAlc (Below.refl _ _) _⟩
    · have hpe : pos = n := by have := hk.out; omega
      subst hpe
      go_wp2_with fail
      exact bodyPost_ret (results_cell_row rfl _ _ _ 124 _ (0, 0) _ rfl (Blk.new w 124 _) under124 rfl size124) rfl ⟨rfl, bAlc (Below.refl _ _) _⟩
set_option maxHeartbeats 1000000 in
theorem beg_num (s : ByteArray) (n : Nat) (w : World) (hs : s.size ≤ maxLen) (h0 : 0 < s.size) (h : signI (byteAt s 0) = false) (h2 : letrI (byteAt s 0) = false) (h3 : digiI (byteAt s 0) = true)
    (h1n : 1 ≤ n) (hn : n ≤ s.size) (hb : ∀ j, 1 ≤ j → j < n → digiI (byteAt s j) = true) (he : n < s.size → digiI (byteAt s n) = false) (hx : byteAt s 0 = 48 → ¬ 1 < n) (hy : n < s.size → letrI (byteAt s n) = false ∧ byteAt s n ≠ 95) :
    Calls Tryz.prog 157 #[.string s] w fun e w' => e = .returned (lxV 2 (s.extract 0 n) 0) ∧ Below w.heap.size w w' := by
  unfold maxLen at hs
  have hbt0 := (byteAt_get s 0 h0).symm
  generalize byteAt s 0 = r0 at *
  have hz : (0 : Int) < s.size := by omega
  replace hb := Lib.hid hb
  replace he := Lib.hid he
  replace hx := Lib.hid hx
  replace hy := Lib.hid hy
  go_enter Tryz.func157, Tryz.ntmps157
  go_wp2_with (first
    | (go_at_call 172; refine (sign_any r0 _).mono ?_; rintro e w' ⟨rfl, rfl⟩; rw [h])
    | (go_at_call 173; refine (xlett_any r0 _).mono ?_; rintro e w' ⟨rfl, rfl⟩; rw [h2])
    | (go_at_call 174; refine (xdigt_any r0 _).mono ?_; rintro e w' ⟨rfl, rfl⟩; rw [h3]))
  go_loopg [3] (n - 1) (fun k s3 wr => ∃ pos : Nat, wr = w.alloc (.cells #[.int .i64 0, .string ByteArray.empty, .int .i64 0] 124) ∧ s3 = .int .i64 pos ∧ pos + k = n ∧ 1 ≤ pos)
  case atStart => exact ⟨1, rfl, rfl, by omega, Nat.le_refl _⟩
  case round =>
    obtain ⟨pos, rfl, rfl, hk, hip⟩ := hrel
    replace hk := Lib.hid hk
    have hpz : 0 ≤ (pos : Int) := by omega
    by_cases hpn : pos < n
    · have hp : pos < s.size := by omega
      clear hbt0 h h2 h3
      have hbt := (byteAt_get s pos hp).symm
      have hpl : (pos : Int) < s.size := by omega
      have hB := hb.out pos hip hpn
      generalize byteAt s pos = r at hbt hB
      go_wp2_with (go_at_call 174; refine (xdigt_any r _).mono ?_; rintro e w' ⟨rfl, rfl⟩; rw [hB])
      go_roundg (n - (pos + 1))
      case measure => have := hk.out; omega
      case rel => exact ⟨pos + 1, rfl, by go_num, by omega, by omega⟩
    · have hpe : pos = n := by have := hk.out; omega
      subst hpe
      have h48 : ((r0 == 48) = true ∧ ¬ (1 : Int) < pos) ∨ (r0 == 48) = false := by
        by_cases e : r0 = 48
        · exact .inl ⟨by simp [e], by have := hx.out e; omega⟩
        · exact .inr (by simpa using e)
      by_cases hp : pos < s.size
      · have hbt := (byteAt_get s pos hp).symm
        have hpl : (pos : Int) < s.size := by omega
        have hd := he.out hp
        obtain ⟨hl, h95⟩ := hy.out hp
        generalize byteAt s pos = r at hbt hd hl h95
        have h95b : (r == 95) = false := by simpa using h95
        clear h95
        rcases h48 with ⟨e1, e2⟩ | e1
        all_goals
          go_wp2_with (first
            | (go_at_call 173; refine (xlett_any r _).mono ?_; rintro e w' ⟨rfl, rfl⟩; rw [hl])
            | (go_at_call 174; refine (xdigt_any r _).mono ?_; rintro e w' ⟨rfl, rfl⟩; rw [hd]))
          exact bodyPost_ret (results_cell_row rfl _ _ _ 124 _ (0, 0) _ rfl (Blk.new w 124 _) under124 rfl size124) rfl ⟨rfl, bAlc (Below.refl _ _) _⟩
      · have hpl : ¬ (pos : Int) < s.size := by omega
        rcases h48 with ⟨e1, e2⟩ | e1
        all_goals
          go_wp2_with fail
          exact bodyPost_ret (results_cell_row rfl _ _ _ 124 _ (0, 0) _ rfl (Blk.new w 124 _) under124 rfl size124) rfl ⟨rfl, bAlc (Below.refl _ _) _⟩
theorem lexbeg_any (s : ByteArray) (k : Int) (n : Nat) (w : World) (hs : s.size ≤ maxLen) (h0 : 0 < s.size) (h : begB s = some (k, n)) :
    Calls Tryz.prog 157 #[.string s] w fun e w' => e = .returned (lxV k (s.extract 0 n) 0) ∧ Below w.heap.size w w' := by
  unfold begB at h
  split at h
  · rename_i h1
    injection h with h; injection h with h2 h3; subst h2 h3
    exact beg_sign s w hs h0 h1
  · rename_i h1
    have hsp : ∀ p : Int → Bool, 1 ≤ spanB p s s.size 1 ∧ spanB p s s.size 1 ≤ s.size := fun p => by have := span_le p s s.size 1 (by omega); omega
    split at h
    · rename_i h2
      injection h with h; injection h with h4 h3; subst h4 h3
      obtain ⟨a, b⟩ := hsp wordI
      obtain ⟨c, d⟩ := span_props wordI s s.size 1 (by omega) (by omega)
      exact beg_word s _ w hs h0 (by simpa using h1) h2 a b c d
    · rename_i h2
      split at h
      · rename_i h3
        split at h
        · cases h
        · rename_i h4
          injection h with h; injection h with h5 h6; subst h5 h6
          obtain ⟨a, b⟩ := hsp digiI
          obtain ⟨c, d⟩ := span_props digiI s s.size 1 (by omega) (by omega)
          refine beg_num s _ w hs h0 (by simpa using h1) (by simpa using h2) h3 a b c d (fun e e2 => h4 (.inl ⟨e, e2⟩)) (fun e => ⟨?_, fun e2 => h4 (.inr ⟨e, .inr e2⟩)⟩)
          cases hl : letrI (byteAt s (spanB digiI s s.size 1)) with
          | false => rfl
          | true => exact absurd (.inr ⟨e, .inl hl⟩) h4
      · cases h
end Go.Proofs.YtnnkfgekiaaehaaGreat

/- The lexer of the reference (layer 4): Next. -/
namespace Go.Proofs.YtnnkfgekiaaehaaGreat
open Go.ChangeShapes Go.WideShapes Go.ChangeAt Go.RowKit
set_option linter.unusedVariables false
theorem under82 : Tryz.prog.underlying 82 = some (.struct (Tryz.prog.fieldsOf 82)) := by kernel_rfl
theorem size82 : (Tryz.prog.info? 82).map (·.size) = some 2 := by kernel_rfl
theorem results_next {fn : Func} {p q r : Tmp} (h : fn.results = #[.cell p 124, .tmp q, .cell r 82]) (tmps : Array Value) (w : World) (g g' : Nat) (cs ds : Array Value) (v : Value)
    (hp : tmps.getD p undef = .pointer (some ⟨g, 0, none⟩)) (hq : tmps.getD q undef = v) (hr : tmps.getD r undef = .pointer (some ⟨g', 0, none⟩)) (h1 : Blk w g 124 cs) (h2 : Blk w g' 82 ds) (s1 : cs.size = 3) (s2 : ds.size = 2) :
    (results fn tmps).run Tryz.prog w = .ok (.tuple #[.agg cs, v, .agg ds]) w := by
  have hp' : tmps[p]?.getD undef = .pointer (some ⟨g, 0, none⟩) := by simpa using hp
  have hq' : tmps[q]?.getD undef = v := by simpa using hq
  have hr' : tmps[r]?.getD undef = .pointer (some ⟨g', 0, none⟩) := by simpa using hr
  simp [results, h, hp', hq', hr', asAddr, run_loadVar_row w g 124 124 cs (0, 0) _ h1 under124 rfl (by rw [size124, s1]), run_loadVar_row w g' 82 82 ds (0, 0) _ h2 under82 rfl (by rw [size82, s2])]
theorem next_end (s : ByteArray) (i : Nat) (w : World) (hs : s.size ≤ maxLen) (hi : i ≤ s.size) (h : spanB blankI s s.size i = s.size) :
    Calls Tryz.prog 120 #[.string s, .int .i64 i] w fun e w' => e = .returned (.tuple #[lxV 0 ByteArray.empty 0, .int .i64 0, .agg #[.int .i64 5, .int .i64 s.size]]) ∧ Below w.heap.size w w' := by
  obtain ⟨hb, he⟩ := span_props blankI s s.size i hi (by omega)
  rw [h] at hb he
  have hP := Lib.hid (fun W => pass_any s i s.size W hs hi (Nat.le_refl _) hb (fun e => absurd e (by omega)))
  unfold maxLen at hs
  have hz : (0 : Int) ≤ i := by omega
  have hz2 : (i : Int) ≤ s.size := by omega
  clear hb he h
  go_enter Tryz.func120, Tryz.ntmps120
  go_wp2_with (go_at_call 156; refine (hP.out _).mono ?_; rintro e w' ⟨rfl, rfl⟩)
  exact bodyPost_ret (results_next rfl _ _ _ _ _ _ _ rfl rfl (by rfl) ((Blk.new w 124 _).alloc _) (Blk.newAt _ _ _ _ (by simp)) rfl rfl) rfl ⟨rfl, bAlc (bAlc (Below.refl _ _) _) _⟩
theorem begB_le {s : ByteArray} {k : Int} {n : Nat} (h0 : 0 < s.size) (h : begB s = some (k, n)) : n ≤ s.size ∧ blankI (byteAt s 0) = false ∧ byteAt s 0 ≠ 35 ∧ 1 ≤ k := by
  have hsp : ∀ p : Int → Bool, spanB p s s.size 1 ≤ s.size := fun p => (span_le p s s.size 1 (by omega)).1
  have key : n ≤ s.size ∧ (signI (byteAt s 0) = true ∨ letrI (byteAt s 0) = true ∨ digiI (byteAt s 0) = true) ∧ 1 ≤ k := by
    unfold begB at h
    split at h
    · rename_i h1
      injection h with h; injection h with h2 h3; subst h2 h3
      exact ⟨by omega, .inl h1, by omega⟩
    · split at h
      · rename_i h1
        injection h with h; injection h with h2 h3; subst h2 h3
        exact ⟨hsp _, .inr (.inl h1), by omega⟩
      · split at h
        · rename_i h1
          split at h
          · cases h
          · injection h with h; injection h with h2 h3; subst h2 h3
            exact ⟨hsp _, .inr (.inr h1), by omega⟩
        · cases h
  obtain ⟨a, b, c⟩ := key
  generalize byteAt s 0 = r at *
  unfold signI letrI digiI at b
  simp only [decide_eq_true_iff] at b
  refine ⟨a, ?_, by omega, c⟩
  unfold blankI
  exact decide_eq_false (by omega)
theorem byteAt_cut (s : ByteArray) (a : Nat) (h : a < s.size) : byteAt (s.extract a s.size) 0 = byteAt s a := by
  have h2 : 0 < (s.extract a s.size).size := by rw [ByteArray.size_extract]; omega
  rw [byteAt_get _ 0 h2, byteAt_get _ a h]
  simp [ByteArray.getElem_extract]
theorem next_some (s : ByteArray) (i a n : Nat) (k : Int) (w : World) (hs : s.size ≤ maxLen) (hi : i ≤ s.size) (h : spanB blankI s s.size i = a) (ha : a < s.size) (hg : begB (s.extract a s.size) = some (k, n)) :
    Calls Tryz.prog 120 #[.string s, .int .i64 i] w fun e w' => e = .returned (.tuple #[lxV k ((s.extract a s.size).extract 0 n) a, .int .i64 (a + n), .agg #[.int .i64 0, .int .i64 0]]) ∧ Below w.heap.size w w' := by
  obtain ⟨hb, he⟩ := span_props blankI s s.size i hi (by omega)
  have hia := (span_le blankI s s.size i hi).2
  rw [h] at hb he hia
  have hsz : (s.extract a s.size).size = s.size - a := by rw [ByteArray.size_extract]; omega
  obtain ⟨hn, hbl, h35, hk⟩ := begB_le (by rw [hsz]; omega) hg
  rw [byteAt_cut s a ha] at hbl h35
  have hP := Lib.hid (fun W => pass_any s i a W hs hia (by omega) hb (fun e => ⟨hbl, h35⟩))
  have hB := Lib.hid (fun W => lexbeg_any (s.extract a s.size) k n W (by rw [hsz]; omega) (by rw [hsz]; omega) hg)
  have hsn : ((s.extract a s.size).extract 0 n).size = n := by rw [ByteArray.size_extract]; omega
  unfold maxLen at hs
  have hz : (0 : Int) ≤ i := by omega
  have hz2 : (i : Int) ≤ s.size := by omega
  have hz3 : ((a : Int) == s.size) = false := by simp; omega
  have hz4 : (a : Int) ≤ s.size := by omega
  have hk0 : (k == 0) = false := by simp; omega
  have hn2 : n ≤ s.size := by omega
  have hn3 : a + n ≤ s.size := by omega
  have hz5 : (a : Int) + n ≤ s.size := by omega
  clear hb he h hg hbl h35
  replace hsz := Lib.hid hsz
  go_enter Tryz.func120, Tryz.ntmps120
  go_upto_region 7 with (first
    | (go_at_call 156; refine (hP.out _).mono ?_; rintro e w' ⟨rfl, rfl⟩)
    | (go_at_call 157; refine (hB.out _).mono ?_; rintro e w2 ⟨rfl, hb2⟩))
  have q4 : Blk w2 w.heap.size 124 #[.int .i64 0, .string ⟨#[]⟩, .int .i64 0] := ((Blk.new w 124 _).alloc _).step hb2
  have q6 : Blk w2 (w.heap.size + 1) 82 #[.int .i64 0, .int .i64 0] := (Blk.newAt _ _ _ _ (by simp)).step hb2
  have hbw : Below w.heap.size w w2 := bStep (bAlc (bAlc (Below.refl _ _) _) _) hb2
  have p4 := q4.alloc (.cells #[.int .i64 k, .string ((s.extract a s.size).extract 0 n), .int .i64 a] 124)
  have p6 := q6.alloc (.cells #[.int .i64 k, .string ((s.extract a s.size).extract 0 n), .int .i64 a] 124)
  have d0 := p4.cell 0
  have d1 := p4.cell 1
  have d2 := p4.cell 2
  have z0 := p4.frozen 0
  have z1 := p4.frozen 1
  have z2 := p4.frozen 2
  have d3 := p6.cell 0
  have d4 := p6.cell 1
  have z3 := p6.frozen 0
  have z4 := p6.frozen 1
  simp only [List.getElem?_toArray, List.getElem?_cons_zero, List.getElem?_cons_succ] at d0 d1 d2 d3 d4
  have hlt := hb2.size
  simp only [World.size_alloc] at hlt
  have hne : w2.heap.size ≠ w.heap.size := by omega
  have hne2 : w2.heap.size ≠ w.heap.size + 1 := by omega
  have hne3 : w.heap.size ≠ w2.heap.size := by omega
  have hne4 : w.heap.size + 1 ≠ w2.heap.size := by omega
  go_upto_region 10 with (fail)
  go_region
  all_goals (go_wp2_with fail)
  all_goals
    refine bodyPost_ret (results_next rfl _ _ w.heap.size (w.heap.size + 1) #[.int .i64 k, .string ((s.extract a s.size).extract 0 n), .int .i64 a] #[.int .i64 0, .int .i64 0] _ rfl rfl (by rfl) ?_ ?_ rfl rfl) rfl ⟨rfl, ?_⟩
  · exact (((((p4.put 0 _).put 1 _).put 2 _).far (p := ⟨w.heap.size + 1, 0, none⟩) (by simp) _).far (p := ⟨w.heap.size + 1, 1, none⟩) (by simp) _).drew
  · exact ((((p6.far (p := ⟨w.heap.size, 0, none⟩) (by simp) _).far (p := ⟨w.heap.size, 1, none⟩) (by simp) _).far (p := ⟨w.heap.size, 2, none⟩) (by simp) _).put 0 _ |>.put 1 _).drew
  · exact bDrw (bSet (bSet (bSet (bSet (bSet (bAlc hbw _) _ _ (by simp)) _ _ (by simp)) _ _ (by simp)) _ _ (by simp)) _ _ (by simp))
end Go.Proofs.YtnnkfgekiaaehaaGreat

/- Slices of structs, as rows of cells: what reads as rows, what is owned, how one is pushed. -/
namespace Go.Proofs.YtnnkfgekiaaehaaGreat
open Go.ChangeShapes Go.WideShapes Go.ChangeAt Go.RowKit
set_option linter.unusedVariables false
def cellsR (l : List (Array Value)) : List Value := l.flatMap Array.toList
theorem cellsR_cons (x : Array Value) (l : List (Array Value)) : cellsR (x :: l) = x.toList ++ cellsR l := by simp [cellsR]
theorem cellsR_append (l m : List (Array Value)) : cellsR (l ++ m) = cellsR l ++ cellsR m := by simp [cellsR]
theorem cellsR_get {k : Nat} : ∀ {l : List (Array Value)}, (∀ x ∈ l, x.size = k) → ∀ {i : Nat} {x : Array Value}, l[i]? = some x → ∀ {j : Nat}, j < k → (cellsR l)[i * k + j]? = x[j]?
  | [], _, i, x, h, _, _ => by simp at h
  | y :: l, hk, 0, x, h, j, hj => by
    have : y = x := by simpa using h
    subst this
    have := hk y List.mem_cons_self
    rw [cellsR_cons, Nat.zero_mul, Nat.zero_add, List.getElem?_append_left (by rw [Array.length_toList]; omega)]
    simp
  | y :: l, hk, i + 1, x, h, j, hj => by
    have h1 := hk y List.mem_cons_self
    have h2 : (i + 1) * k = i * k + k := Nat.succ_mul i k
    rw [cellsR_cons, List.getElem?_append_right (by rw [Array.length_toList]; omega)]
    have := cellsR_get (fun x hx => hk x (List.mem_cons_of_mem _ hx)) (show l[i]? = some x by simpa using h) hj
    rw [← this]
    congr 1
    rw [Array.length_toList]
    omega
def RdR (w : World) (B : Nat) (k : Nat) (A : Option Addr) (n : Nat) (l : List (Array Value)) : Prop :=
  l.length = n ∧ (n = 0 ∨ ∃ b off, A = some ⟨b, off, none⟩ ∧ b < B ∧ ∀ (i : Nat) (x : Array Value), l[i]? = some x → ∀ j, j < k → w.cell? ⟨b, off + i * k + j, none⟩ = x[j]?)
theorem RdR.below {w w' : World} {B k : Nat} {A : Option Addr} {n : Nat} {l : List (Array Value)} (h : RdR w B k A n l) (hb : Below B w w') : RdR w' B k A n l := by
  refine ⟨h.1, ?_⟩
  rcases h.2 with h0 | ⟨b, off, rfl, hlt, hc⟩
  · exact .inl h0
  · exact .inr ⟨b, off, rfl, hlt, fun i x hx j hj => by rw [hb.cell (p := ⟨b, off + i * k + j, none⟩) hlt]; exact hc i x hx j hj⟩
theorem RdR.mono {w : World} {B B' k : Nat} {A : Option Addr} {n : Nat} {l : List (Array Value)} (h : RdR w B k A n l) (hb : B ≤ B') : RdR w B' k A n l := by
  refine ⟨h.1, ?_⟩
  rcases h.2 with h0 | ⟨b, off, rfl, hlt, hc⟩
  · exact .inl h0
  · exact .inr ⟨b, off, rfl, by omega, hc⟩
theorem RdR.nil (w : World) (B k : Nat) (A : Option Addr) : RdR w B k A 0 [] := ⟨rfl, .inl rfl⟩
theorem RdR.get {w : World} {B k : Nat} {A : Option Addr} {n : Nat} {l : List (Array Value)} (h : RdR w B k A n l) {i : Nat} {x : Array Value} (hi : l[i]? = some x) :
    ∃ b off, A = some ⟨b, off, none⟩ ∧ b < B ∧ ∀ j, j < k → w.cell? ⟨b, off + i * k + j, none⟩ = x[j]? := by
  have hlt := (List.getElem?_eq_some_iff.1 hi).1
  rcases h.2 with h0 | ⟨b, off, rfl, hb, hc⟩
  · have := h.1; omega
  · exact ⟨b, off, rfl, hb, hc i x hi⟩
def OwnR (w : World) (base : Nat) (e : TypeId) (k : Nat) (v : Value) (l : List (Array Value)) : Prop := w.ownsRow base e k v l.length (cellsR l) ∧ ∀ x ∈ l, x.size = k
theorem OwnR.reads {w : World} {base : Nat} {e : TypeId} {k : Nat} {v : Value} {l : List (Array Value)} (h : OwnR w base e k v l) : ∃ A c, v = .slice A l.length c ∧ RdR w w.heap.size k A l.length l ∧ l.length ≤ c ∧ c ≤ maxLen ∧ (∀ a, A = some a → base ≤ a.block) := by
  rcases h.1.2 with ⟨rfl, h0⟩ | ⟨g, cap, cur, rfl, hb, hg, hnc, hcm, hcs, ht⟩
  · refine ⟨none, 0, by rw [h0], ⟨rfl, .inl h0⟩, by omega, by simp [maxLen], by simp⟩
  · refine ⟨some ⟨g, 0, none⟩, cap, rfl, ⟨rfl, ?_⟩, hnc, hcm, by simp; exact hb⟩
    refine .inr ⟨g, 0, rfl, (Array.getElem?_eq_some_iff.1 hg).1, fun i x hx j hj => ?_⟩
    have hlt := (List.getElem?_eq_some_iff.1 hx).1
    have hlt2 : i * k + j < l.length * k := by
      have := Nat.mul_le_mul_right k (show i + 1 ≤ l.length by omega)
      rw [Nat.succ_mul] at this
      omega
    rw [cell_of_row w g _ cur e (0, 0) hg, ← cellsR_get h.2 hx hj, ← ht, List.getElem?_take, if_pos (by omega), Nat.zero_add]
    simp
theorem OwnR.nil (w : World) (base : Nat) (e : TypeId) (k : Nat) : OwnR w base e k (.slice none 0 0) [] := ⟨World.ownsRow_nil w base e k, by simp⟩
theorem OwnR.step {w w' : World} {base : Nat} {e : TypeId} {k : Nat} {v : Value} {l : List (Array Value)} (h : OwnR w base e k v l) (hb : Below w.heap.size w w') : OwnR w' base e k v l := by
  refine ⟨⟨h.1.1, ?_⟩, h.2⟩
  rcases h.1.2 with hn | ⟨g, cap, cur, rfl, hg0, hg, rest⟩
  · exact .inl hn
  · exact .inr ⟨g, cap, cur, rfl, hg0, (hb.block g (Array.getElem?_eq_some_iff.1 hg).1).trans hg, rest⟩
theorem OwnR.mono {w : World} {base b' : Nat} {e : TypeId} {k : Nat} {v : Value} {l : List (Array Value)} (h : OwnR w base e k v l) (hb : b' ≤ base) : OwnR w b' e k v l := by
  refine ⟨⟨h.1.1, ?_⟩, h.2⟩
  rcases h.1.2 with hn | ⟨g, cap, cur, rfl, hg0, hg, rest⟩
  · exact .inl hn
  · exact .inr ⟨g, cap, cur, rfl, by omega, hg, rest⟩
section
variable (w : World) {P : Program} {ops : Array Oper} {rest : List Oper} {o : Oper} {a : Act} {Q : Exit → Act → World → Prop}
theorem wpList_pushR (hgd : o.guard = none) (s x : Operand) (t : TypeId) (ho : o.op = .call { callee := .builtin .append, args := #[s, x], argTypes := #[t, t] })
    (base : Nat) (e : TypeId) (z : Value) (size bytes : Nat) (ht : P.underlying t = some (.slice e)) (hi : (P.info? e).map (fun i => (i.zero, i.size, i.bytes)) = some (some z, size, bytes)) (hzs : z.cells.size = size) (hsz : 0 < size)
    (v : Value) (l : List (Array Value)) (hs : a.eval s = v) (hown : OwnR w base e size v l) (g : Nat) (cs : Array Value) (hx : a.eval x = .slice (some ⟨g, 0, none⟩) 1 1) (hb : Blk w g e cs) (hc : cs.size = size)
    (h1 : ∀ u ∈ cs.toList, u.oneCell' = true) (h63 : l.length < 1000000) (hbytes : bytes ≤ 1000000) (hbase : base ≤ w.heap.size)
    (h : ∀ v' w', OwnR w' base e size v' (l ++ [cs]) → w.grownBy w' v.ownBlock → (v'.ownBlock = v.ownBlock ∨ v'.ownBlock = some w.heap.size) → (∀ W0, Below base W0 w → Below base W0 w') → wpList P ops Q rest (a.put o.dst v') w') : wpList P ops Q (o :: rest) a w := by
  refine wpList_push w hgd s x t ho base e z size bytes ht hi hzs hsz v l.length (cellsR l) hs hown.1 g cs hx hb hc h1 h63 hbytes hbase ?_
  intro v' w' h2 h3 h4 h5
  refine h v' w' ⟨?_, ?_⟩ h3 h4 h5
  · rw [cellsR_append, List.length_append]
    have : cellsR [cs] = cs.toList := by simp [cellsR]
    rw [this]
    exact h2
  · intro y hy
    rcases List.mem_append.1 hy with hy | hy
    · exact hown.2 y hy
    · simp at hy; subst hy; exact hc
end
end Go.Proofs.YtnnkfgekiaaehaaGreat

/- The lexer of the reference (layer 4): Lexemes. -/
namespace Go.Proofs.YtnnkfgekiaaehaaGreat
open Go.ChangeShapes Go.WideShapes Go.ChangeAt Go.RowKit
set_option linter.unusedVariables false
def Lx.row (x : Lx) : Array Value := #[.int .i64 x.kind, .string x.text, .int .i64 x.at']
theorem lex_inv {s : ByteArray} {f i : Nat} {l : List Lx} (hi : i ≤ s.size) (h : lexF s f i = some l) :
    (l = [] ∧ spanB blankI s s.size i = s.size) ∨
    ∃ (f' a : Nat) (k : Int) (n : Nat) (m : List Lx), spanB blankI s s.size i = a ∧ a < s.size ∧ begB (s.extract a s.size) = some (k, n) ∧ l = ⟨k, (s.extract a s.size).extract 0 n, a⟩ :: m ∧ lexF s f' (a + n) = some m ∧ a + n ≤ s.size := by
  cases f with
  | zero => simp [lexF] at h
  | succ f =>
    have hle := (span_le blankI s s.size i hi).1
    unfold lexF at h
    split at h
    · rename_i h1
      injection h with h
      exact .inl ⟨h.symm, h1⟩
    · rename_i h1
      split at h
      · cases h
      · rename_i k n h2
        split at h
        · cases h
        · rename_i m h3
          injection h with h
          have hn := (begB_le (by rw [ByteArray.size_extract]; omega) h2).1
          rw [ByteArray.size_extract] at hn
          exact .inr ⟨f, _, k, n, m, rfl, by omega, h2, h.symm, h3, by omega⟩
theorem results_lex {fn : Func} {p q : Tmp} (h : fn.results = #[.tmp p, .cell q 82]) (tmps : Array Value) (w : World) (g : Nat) (cs : Array Value) (v : Value)
    (hp : tmps.getD p undef = v) (hr : tmps.getD q undef = .pointer (some ⟨g, 0, none⟩)) (h1 : Blk w g 82 cs) (s1 : cs.size = 2) :
    (results fn tmps).run Tryz.prog w = .ok (.tuple #[v, .agg cs]) w := by
  have hp' : tmps[p]?.getD undef = v := by simpa using hp
  have hr' : tmps[q]?.getD undef = .pointer (some ⟨g, 0, none⟩) := by simpa using hr
  simp [results, h, hp', hr', asAddr, run_loadVar_row w g 82 82 cs (0, 0) _ h1 under82 rfl (by rw [size82, s1])]
theorem info124 : (Tryz.prog.info? 124).map (fun i => (i.zero, i.size, i.bytes)) = some (some (lxV 0 ⟨#[]⟩ 0), 3, 32) := by kernel_rfl
theorem OwnR.far {w : World} {base : Nat} {e : TypeId} {k : Nat} {v : Value} {l : List (Array Value)} (h : OwnR w base e k v l) {p : Addr} (hp : p.block < base) (u : Value) : OwnR (w.setCell p u) base e k v l := by
  refine ⟨⟨h.1.1, ?_⟩, h.2⟩
  rcases h.1.2 with hn | ⟨g, cap, cur, rfl, hg0, hg, rest⟩
  · exact .inl hn
  · exact .inr ⟨g, cap, cur, rfl, hg0, (Below.heap_setCell w p u g (by omega)).trans hg, rest⟩
def RetLx (l : List Lx) (w : World) (e : Ending) (w' : World) : Prop :=
  ∃ v, e = .returned (.tuple #[v, .agg #[.int .i64 0, .int .i64 0]]) ∧ OwnR w' w.heap.size 124 3 v (l.map Lx.row) ∧ Below w.heap.size w w'
set_option maxHeartbeats 2000000 in
theorem lexemes_any (s : ByteArray) (f : Nat) (l : List Lx) (w : World) (hs : s.size ≤ 2000) (h : lexF s f 0 = some l) (hll : l.length ≤ 2001) :
    Calls Tryz.prog 86 #[.string s] w (RetLx l w) := by
  have hsm : s.size ≤ maxLen := by unfold maxLen; omega
  have hR := Lib.hid (fun (v : Value) (w' : World) (h1 : OwnR w' w.heap.size 124 3 v (l.map Lx.row)) (h2 : Below w.heap.size w w') => (show RetLx l w (.returned (.tuple #[v, .agg #[.int .i64 0, .int .i64 0]])) w' from ⟨v, rfl, h1, h2⟩))
  have hE := Lib.hid (fun (i : Nat) (W : World) (hi : i ≤ s.size) (h : spanB blankI s s.size i = s.size) => next_end s i W hsm hi h)
  have hN := Lib.hid (fun (i a n : Nat) (k : Int) (W : World) (hi : i ≤ s.size) (h : spanB blankI s s.size i = a) (ha : a < s.size) (hg : begB (s.extract a s.size) = some (k, n)) => next_some s i a n k W hsm hi h ha hg)
  have hz : ¬ (2000 : Int) < s.size := by omega
  generalize hRR : RetLx l w = RR at *
  replace hRR := Lib.hid hRR
  replace h := Lib.hid h
  replace hll := Lib.hid hll
  go_enter Tryz.func86, Tryz.ntmps86
  go_wp2_with fail
  have hb0 : Below w.heap.size w (w.alloc (.cells #[.int .i64 0, .int .i64 0] 82)) := bAlc (Below.refl _ _) _
  have q0 : Blk (w.alloc (.cells #[.int .i64 0, .int .i64 0] 82)) w.heap.size 82 #[.int .i64 0, .int .i64 0] := Blk.new _ _ _
  have o0 : OwnR (w.alloc (.cells #[.int .i64 0, .int .i64 0] 82)) (w.heap.size + 1) 124 3 (.slice none 0 0) [] := OwnR.nil _ _ _ _
  have hwz : (w.alloc (.cells #[.int .i64 0, .int .i64 0] 82)).heap.size = w.heap.size + 1 := by simp
  rw [← hwz] at o0
  generalize w.alloc (.cells #[.int .i64 0, .int .i64 0] 82) = w0 at *
  have hwl : w.heap.size < w0.heap.size := by omega
  replace hwz := Lib.hid hwz
  go_loopg [4, 5] l.length (fun gk s4 s5 wr => ∃ (i f' : Nat) (d m : List Lx), s5 = .int .i64 i ∧ m.length = gk ∧ i ≤ s.size ∧ Hid (lexF s f' i = some m) ∧ Hid (l = d ++ m) ∧ OwnR wr w0.heap.size 124 3 s4 (d.map Lx.row) ∧ Below w0.heap.size w0 wr)
  case atStart => exact ⟨0, f, [], l, rfl, rfl, by omega, h, Lib.hid rfl, o0, Below.refl _ _⟩
  case round =>
    clear o0
    obtain ⟨i, f', d, m, rfl, hm, hi, hx, hd, ho, hbw⟩ := hrel
    have q := q0.step hbw
    have hb := bStep hb0 hbw
    rcases lex_inv hi hx.out with ⟨hm0, hsp⟩ | ⟨f2, a, k, n, m2, hsp, ha, hg, hme, hx2, han⟩
    · have hN1 := Lib.hid (hE.out i wr hi hsp)
      have hld : l = d := by have := hd.out; rw [hm0, List.append_nil] at this; exact this
      replace hld := Lib.hid hld
      replace hsp := Lib.hid hsp
      replace hm0 := Lib.hid hm0
      clear hx hm hE hN
      go_upto_region 7 with (go_at_call 120; refine hN1.out.mono ?_; rintro e w1 ⟨rfl, hb1⟩)
      have hb2 : Below wr.heap.size wr ((w1.alloc (.cells #[.int .i64 0, .string ByteArray.empty, .int .i64 0] 124)).alloc (.cells #[.int .i64 5, .int .i64 s.size] 82)) := bAlc (bAlc hb1 _) _
      have q2 := q.step hb2
      have o2 := ho.step hb2
      have hb3 := bStep hb hb2
      clear hb1 hb2 q ho hb
      generalize (w1.alloc (.cells #[.int .i64 0, .string ByteArray.empty, .int .i64 0] 124)).alloc (.cells #[.int .i64 5, .int .i64 s.size] 82) = W2 at *
      have d0 := q2.cell 0
      have d1 := q2.cell 1
      have z0 := q2.frozen 0
      have z1 := q2.frozen 1
      simp only [List.getElem?_toArray, List.getElem?_cons_zero, List.getElem?_cons_succ] at d0 d1
      go_wp2_with fail
      refine bodyPost_ret (results_lex rfl _ _ w.heap.size #[.int .i64 0, .int .i64 0] _ rfl rfl ((q2.put 0 _).put 1 _) rfl) rfl ?_
      refine hR.out _ _ ?_ (bSet (bSet hb3 _ _ (Nat.le_refl _)) _ _ (Nat.le_refl _))
      rw [hld.out]
      exact ((o2.far (p := ⟨w.heap.size, 0, none⟩) hwl _).far (p := ⟨w.heap.size, 1, none⟩) hwl _).mono (Nat.le_of_lt hwl)
    · have hN1 := Lib.hid (hN.out i a n k wr hi hsp ha hg)
      generalize hT : (s.extract a s.size).extract 0 n = T at hN1 hme
      replace hT := Lib.hid hT
      replace hme := Lib.hid hme
      replace hsp := Lib.hid hsp
      replace hx2 := Lib.hid hx2
      replace hg := Lib.hid hg
      replace hm := Lib.hid hm
      clear hx hE hN
      go_upto_region 8 with (go_at_call 120; refine hN1.out.mono ?_; rintro e w1 ⟨rfl, hb1⟩)
      go_upto_region 10 with (fail)
      have hb2 : Below wr.heap.size wr ((w1.alloc (.cells #[.int .i64 k, .string T, .int .i64 a] 124)).alloc (.cells #[.int .i64 0, .int .i64 0] 82)) := bAlc (bAlc hb1 _) _
      have qx : Blk ((w1.alloc (.cells #[.int .i64 k, .string T, .int .i64 a] 124)).alloc (.cells #[.int .i64 0, .int .i64 0] 82)) w1.heap.size 124 #[.int .i64 k, .string T, .int .i64 a] := (Blk.new _ _ _).alloc _
      have q2 := q.step hb2
      have o2 := ho.step hb2
      have hb3 := bStep hb hb2
      have hbx := bStep hbw hb2
      clear hb1 hb2 q ho hb hbw
      generalize (w1.alloc (.cells #[.int .i64 k, .string T, .int .i64 a] 124)).alloc (.cells #[.int .i64 0, .int .i64 0] 82) = W2 at *
      generalize w1.heap.size = gx at *
      have d0 := qx.cell 0
      have d1 := qx.cell 1
      have d2 := qx.cell 2
      simp only [List.getElem?_toArray, List.getElem?_cons_zero, List.getElem?_cons_succ] at d0 d1 d2
      have hdl : d.length < 1000000 := by have := hll.out; have := congrArg List.length hd.out; simp at this; omega
      have hsz2 := hb3.size
      have hbs := hbx.size
      go_wp2_with (at_builtin; refine wpList_pushR _ rfl _ _ 117 rfl w0.heap.size 124 _ 3 32 (by kernel_rfl) info124 rfl (by omega) _ (d.map Lx.row) rfl (by first | exact o2.step (bAlc (Below.refl _ _) _) | exact o2) W2.heap.size #[.int .i64 k, .string T, .int .i64 a] rfl (Blk.new _ _ _) rfl (by simp [Value.oneCell']) (by simpa using hdl) (by omega) (by simp; omega) ?_; rintro v' w' h2 h3 h4 h5)
      have hb4 : Below w0.heap.size w0 w' := h5 w0 (bAlc hbx _)
      go_roundg m2.length
      case measure => have h1 := hm.out; rw [hme.out] at h1; simp at h1; omega
      case rel => exact ⟨a + n, f2, d ++ [⟨k, T, a⟩], m2, by go_num, rfl, han, hx2, Lib.hid (by rw [hd.out, hme.out]; simp), by rw [List.map_append]; exact h2, hb4⟩
end Go.Proofs.YtnnkfgekiaaehaaGreat

/- The reader of the reference (layer 8): its box, ok, peek, take. -/
namespace Go.Proofs.YtnnkfgekiaaehaaGreat
open Go.ChangeShapes Go.WideShapes Go.ChangeAt Go.RowKit
set_option linter.unusedVariables false
def Keep (rb : Nat) (w w' : World) : Prop := Below rb w w' ∧ ∀ k, k < w.heap.size → k ≠ rb → w'.heap[k]? = w.heap[k]?
theorem Keep.refl (rb : Nat) (w : World) : Keep rb w w := ⟨Below.refl _ _, fun _ _ _ => rfl⟩
theorem Keep.trans {rb : Nat} {a b c : World} (h : Keep rb a b) (k : Keep rb b c) : Keep rb a c :=
  ⟨h.1.trans k.1, fun i hi hn => (k.2 i (Nat.lt_of_lt_of_le hi h.1.size) hn).trans (h.2 i hi hn)⟩
theorem Keep.of {rb : Nat} {w w' : World} (h : Below w.heap.size w w') (hr : rb < w.heap.size) : Keep rb w w' := ⟨h.mono (Nat.le_of_lt hr), fun k hk _ => h.block k hk⟩
theorem Keep.step {rb : Nat} {a b c : World} (h : Keep rb a b) (hr : rb < a.heap.size) (k : Below b.heap.size b c) : Keep rb a c := h.trans (Keep.of k (Nat.lt_of_lt_of_le hr h.1.size))
theorem Keep.set {rb : Nat} {a b : World} (h : Keep rb a b) (i : Nat) (u : Value) : Keep rb a (b.setCell ⟨rb, i, none⟩ u) :=
  h.trans ⟨Below.setCell (p := ⟨rb, i, none⟩) (Below.refl rb b) (Nat.le_refl rb) u, fun k _ hn => Below.heap_setCell _ _ _ _ hn⟩
theorem Keep.blk {rb : Nat} {w w' : World} (h : Keep rb w w') {g : Nat} {t : TypeId} {cs : Array Value} (q : Blk w g t cs) (hn : g ≠ rb) : Blk w' g t cs :=
  (h.2 g (Array.getElem?_eq_some_iff.1 q).1 hn).trans q
theorem Keep.below {rb B : Nat} {W0 w w' : World} (h : Keep rb w w') (hB : B ≤ rb) (k : Below B W0 w) : Below B W0 w' := k.trans (h.1.mono hB)
theorem Keep.own {rb : Nat} {w w' : World} (h : Keep rb w w') {base : Nat} {e : TypeId} {k : Nat} {v : Value} {l : List (Array Value)} (o : OwnR w base e k v l) (hb : rb < base) : OwnR w' base e k v l := by
  refine ⟨⟨o.1.1, ?_⟩, o.2⟩
  rcases o.1.2 with hn | ⟨g, cap, cur, rfl, hg0, hg, rest⟩
  · exact .inl hn
  · exact .inr ⟨g, cap, cur, rfl, hg0, (h.2 g (Array.getElem?_eq_some_iff.1 hg).1 (by omega)).trans hg, rest⟩
structure RS where
  text : ByteArray
  LA : Option Addr
  n : Nat
  c : Nat
  at' : Nat
  alts : Int
  k : Int
  T : Value
  sep : ByteArray
  start : ByteArray
  R : Value
abbrev RS.cells (r : RS) : Array Value := #[.string r.text, .slice r.LA r.n r.c, .int .i64 r.at', .int .i64 0, .int .i64 0, .int .i64 r.alts, .int .i64 r.k, r.T, .string r.sep, .string r.start, r.R]
def RBox (rb : Nat) (r : RS) (l : List Lx) (W : World) : Prop := Blk W rb 122 r.cells ∧ RdR W rb 3 r.LA r.n (l.map Lx.row) ∧ l.length = r.n ∧ r.n ≤ 2001
section
variable {rb : Nat} {r : RS} {l : List Lx} {W W' : World}
theorem RBox.lt (h : RBox rb r l W) : rb < W.heap.size := (Array.getElem?_eq_some_iff.1 h.1).1
theorem RBox.step (h : RBox rb r l W) (hb : Below W.heap.size W W') : RBox rb r l W' := ⟨h.1.step hb, h.2.1.below (hb.mono (Nat.le_of_lt h.lt)), h.2.2⟩
theorem RBox.get (h : RBox rb r l W) {i : Nat} {x : Lx} (hx : l[i]? = some x) : ∃ b off, r.LA = some ⟨b, off, none⟩ ∧ b < rb ∧ W.cell? ⟨b, off + i * 3, none⟩ = some (.int .i64 x.kind) ∧ W.cell? ⟨b, off + i * 3 + 1, none⟩ = some (.string x.text) ∧ W.cell? ⟨b, off + i * 3 + 2, none⟩ = some (.int .i64 x.at') := by
  obtain ⟨b, off, h1, h2, h3⟩ := h.2.1.get (x := x.row) (i := i) (by rw [List.getElem?_map, hx]; rfl)
  exact ⟨b, off, h1, h2, h3 0 (by omega), h3 1 (by omega), h3 2 (by omega)⟩
theorem RBox.cells (h : RBox rb r l W) : W.cell? ⟨rb, 0, none⟩ = some (.string r.text) ∧ W.cell? ⟨rb, 1, none⟩ = some (.slice r.LA r.n r.c) ∧ W.cell? ⟨rb, 2, none⟩ = some (.int .i64 r.at') ∧ W.cell? ⟨rb, 3, none⟩ = some (.int .i64 0) :=
  ⟨h.1.cell 0, h.1.cell 1, h.1.cell 2, h.1.cell 3⟩
theorem ok_any (h : RBox rb r l W) : Calls Tryz.prog 88 #[.pointer (some ⟨rb, 0, none⟩)] W fun e w' => e = .returned (.bool true) ∧ W = w' := by
  obtain ⟨c0, c1, c2, c3⟩ := h.cells
  clear h
  go_enter Tryz.func88, Tryz.ntmps88
  go_wp2_with fail
  go_ret
  exact ⟨rfl, rfl⟩
theorem is_any (x : Lx) (k : Int) (t : ByteArray) (w : World) : Calls Tryz.prog 158 #[lxV x.kind x.text x.at', .int .i64 k, .string t] w fun e w' => e = .returned (.bool (decide (x.kind = k ∧ x.text = t))) ∧ Below w.heap.size w w' := by
  have hk : (x.kind == k) = decide (x.kind = k) := rfl
  by_cases h1 : x.kind = k
  · have b1 : (x.kind == k) = true := by simp [h1]
    by_cases h2 : x.text = t
    · have b2 := eqT _ _ h2
      have hR := Lib.hid (show decide (x.kind = k ∧ x.text = t) = true from decide_eq_true ⟨h1, h2⟩)
      clear h1 h2 hk
      go_enter Tryz.func158, Tryz.ntmps158
      go_wp2_with fail
      go_ret
      exact ⟨ret_bool hR.out.symm, bAlc (Below.refl _ _) _⟩
    · have b2 := eqF _ _ h2
      have hR := Lib.hid (show decide (x.kind = k ∧ x.text = t) = false from decide_eq_false (fun h => h2 h.2))
      clear h1 h2 hk
      go_enter Tryz.func158, Tryz.ntmps158
      go_wp2_with fail
      go_ret
      exact ⟨ret_bool hR.out.symm, bAlc (Below.refl _ _) _⟩
  · have b1 : (x.kind == k) = false := by simp [h1]
    have hR := Lib.hid (show decide (x.kind = k ∧ x.text = t) = false from decide_eq_false (fun h => h1 h.1))
    clear h1 hk
    go_enter Tryz.func158, Tryz.ntmps158
    go_wp2_with fail
    go_ret
    exact ⟨ret_bool hR.out.symm, bAlc (Below.refl _ _) _⟩
theorem peek_any {x : Lx} (h : RBox rb r l W) (hx : l[r.at']? = some x) : Calls Tryz.prog 126 #[.pointer (some ⟨rb, 0, none⟩)] W fun e w' => e = .returned (lxV x.kind x.text x.at') ∧ Below W.heap.size W w' := by
  have hlt := (List.getElem?_eq_some_iff.1 hx).1
  have hn := h.2.2.1
  have hn2 := h.2.2.2
  have hb0 : Below W.heap.size W (W.alloc (.cells #[.int .i64 0, .string ⟨#[]⟩, .int .i64 0] 124)) := bAlc (Below.refl _ _) _
  have h' := h.step hb0
  have q : Blk (W.alloc (.cells #[.int .i64 0, .string ⟨#[]⟩, .int .i64 0] 124)) W.heap.size 124 #[.int .i64 0, .string ⟨#[]⟩, .int .i64 0] := Blk.new _ _ _
  go_enter Tryz.func126, Tryz.ntmps126
  go_upto_region 1 with (fail)
  generalize W.alloc (.cells #[.int .i64 0, .string ⟨#[]⟩, .int .i64 0] 124) = W1 at *
  obtain ⟨b, off, hLA, hb, x0, x1, x2⟩ := h'.get hx
  obtain ⟨c0, c1, c2, c3⟩ := h'.cells
  rw [hLA] at c1
  have hz : (0 : Int) ≤ r.at' := by omega
  have hz1 : (r.at' : Int) < r.n := by omega
  have hz2 : ¬ (r.n : Int) ≤ r.at' := by omega
  have hz3 : decide ((r.n : Int) ≤ r.at') = false := decide_eq_false hz2
  have hz4 : (r.n : Int) ≤ 2001 := by omega
  have d0 := q.cell 0
  have d1 := q.cell 1
  have d2 := q.cell 2
  have z0 := q.frozen 0
  have z1 := q.frozen 1
  have z2 := q.frozen 2
  simp only [List.getElem?_toArray, List.getElem?_cons_zero, List.getElem?_cons_succ] at d0 d1 d2
  replace hx := Lib.hid hx
  replace hn := Lib.hid hn
  replace hLA := Lib.hid hLA
  generalize r.at' = i at *
  generalize r.n = n at *
  clear h h'
  go_wp2_with (first | go_quiet (fail) | go_region)
  all_goals
    exact bodyPost_ret (results_cell_row rfl _ _ _ 124 _ (0, 0) _ rfl ((((q.step (bDrwN' _ _)).put 0 _).put 1 _).put 2 _) under124 rfl size124) rfl ⟨rfl, bSet (bSet (bSet (bDrwN hb0 _) _ _ (Nat.le_refl _)) _ _ (Nat.le_refl _)) _ _ (Nat.le_refl _)⟩
theorem RBox.set (h : RBox rb r l W) {p : Addr} (hp : rb < p.block) (u : Value) : RBox rb r l (W.setCell p u) :=
  ⟨h.1.far (by omega) u, h.2.1.below (Below.setCell (Below.refl rb W) (Nat.le_of_lt hp) u), h.2.2⟩
theorem Keep.far {rb : Nat} {a b : World} (h : Keep rb a b) {p : Addr} (hp : a.heap.size ≤ p.block) (hr : rb ≤ p.block) (u : Value) : Keep rb a (b.setCell p u) :=
  ⟨h.1.trans (Below.setCell (Below.refl rb b) hr u), fun k hk hn => (Below.heap_setCell _ _ _ _ (by omega)).trans (h.2 k hk hn)⟩
theorem RBox.put2 (h : RBox rb r l W) (i : Nat) : RBox rb { r with at' := i } l (W.setCell ⟨rb, 2, none⟩ (.int .i64 i)) :=
  ⟨h.1.put 2 _, h.2.1.below (Below.setCell (p := ⟨rb, 2, none⟩) (Below.refl rb W) (Nat.le_refl rb) _), h.2.2⟩
theorem take_any {x : Lx} (h : RBox rb r l W) (hx : l[r.at']? = some x) : Calls Tryz.prog 122 #[.pointer (some ⟨rb, 0, none⟩)] W fun e w' => e = .returned (lxV x.kind x.text x.at') ∧ RBox rb { r with at' := r.at' + 1 } l w' ∧ Keep rb W w' := by
  have hlt := (List.getElem?_eq_some_iff.1 hx).1
  have hn := h.2.2.1
  have hn2 := h.2.2.2
  have hb0 : Below W.heap.size W (W.alloc (.cells #[.int .i64 0, .string ⟨#[]⟩, .int .i64 0] 124)) := bAlc (Below.refl _ _) _
  have h' := h.step hb0
  have hrl := h.lt
  have q : Blk (W.alloc (.cells #[.int .i64 0, .string ⟨#[]⟩, .int .i64 0] 124)) W.heap.size 124 #[.int .i64 0, .string ⟨#[]⟩, .int .i64 0] := Blk.new _ _ _
  have hP := Lib.hid (peek_any h' hx)
  go_enter Tryz.func122, Tryz.ntmps122
  go_upto_region 1 with (fail)
  generalize hW1 : W.alloc (.cells #[.int .i64 0, .string ⟨#[]⟩, .int .i64 0] 124) = W1 at *
  replace hW1 := Lib.hid hW1
  have hi : r.at' ≤ 2001 := by omega
  replace hx := Lib.hid hx
  replace hn := Lib.hid hn
  go_upto_region 2 with (go_at_call 126; refine hP.out.mono ?_; rintro e w1 ⟨rfl, hb1⟩)
  have hb2 : Below W1.heap.size W1 (w1.alloc (.cells #[.int .i64 x.kind, .string x.text, .int .i64 x.at'] 124)) := bAlc hb1 _
  have hlt1 := hb1.size
  have hg1 : W.heap.size < W1.heap.size := (Array.getElem?_eq_some_iff.1 q).1
  have h2 := h'.step hb2
  have q2 := q.step hb2
  have qx : Blk (w1.alloc (.cells #[.int .i64 x.kind, .string x.text, .int .i64 x.at'] 124)) w1.heap.size 124 #[.int .i64 x.kind, .string x.text, .int .i64 x.at'] := Blk.new _ _ _
  have hb3 := bStep hb0 hb2
  generalize w1.alloc (.cells #[.int .i64 x.kind, .string x.text, .int .i64 x.at'] 124) = W2 at *
  generalize w1.heap.size = gx at *
  obtain ⟨c0, c1, c2, c3⟩ := h2.cells
  have z2 := h2.1.frozen 2
  have h3 := h2.put2 (r.at' + 1)
  have hk3 : Keep rb W (W2.setCell ⟨rb, 2, none⟩ (.int .i64 (r.at' + 1 : Nat))) := (Keep.of hb3 hrl).set 2 _
  have q3 := q2.far (p := ⟨rb, 2, none⟩) (by simp; omega) (.int .i64 (r.at' + 1 : Nat))
  have qy := qx.far (p := ⟨rb, 2, none⟩) (by simp; omega) (.int .i64 (r.at' + 1 : Nat))
  have hcast : ((r.at' + 1 : Nat) : Int) = r.at' + 1 := by omega
  rw [hcast] at h3 hk3 q3 qy
  replace hcast := Lib.hid hcast
  go_upto_region 3 with (fail)
  generalize W2.setCell ⟨rb, 2, none⟩ (.int .i64 (r.at' + 1)) = W3 at *
  have d0 := q3.cell 0
  have d1 := q3.cell 1
  have d2 := q3.cell 2
  have z0 := q3.frozen 0
  have z1 := q3.frozen 1
  have z3 := q3.frozen 2
  have y0 := qy.cell 0
  have y1 := qy.cell 1
  have y2 := qy.cell 2
  simp only [List.getElem?_toArray, List.getElem?_cons_zero, List.getElem?_cons_succ] at d0 d1 d2 y0 y1 y2
  go_wp2_with fail
  refine bodyPost_ret (results_cell_row rfl _ _ _ 124 _ (0, 0) _ rfl (((q3.put 0 _).put 1 _).put 2 _) under124 rfl size124) rfl ⟨rfl, ?_, ?_⟩
  · exact ((h3.set (p := ⟨_, 0, none⟩) hrl _).set (p := ⟨_, 1, none⟩) hrl _).set (p := ⟨_, 2, none⟩) hrl _
  · exact ((hk3.far (p := ⟨_, 0, none⟩) (Nat.le_refl _) (Nat.le_of_lt hrl) _).far (p := ⟨_, 1, none⟩) (Nat.le_refl _) (Nat.le_of_lt hrl) _).far (p := ⟨_, 2, none⟩) (Nat.le_refl _) (Nat.le_of_lt hrl) _
end
end Go.Proofs.YtnnkfgekiaaehaaGreat

/- Data in memory, whatever their types: strings, numbers, slices of rows of data. -/
namespace Go.Proofs.YtnnkfgekiaaehaaGreat
open Go.ChangeShapes Go.WideShapes Go.ChangeAt Go.RowKit
set_option linter.unusedVariables false
inductive Dat : Type
  | one (v : Value)
  | sl (k : Nat) (rows : List (List Dat))
inductive RdX (w : World) (S : Nat → Prop) : Value → Dat → Prop
  | one (v : Value) : RdX w S v (.one v)
  | nil (A : Option Addr) (c k : Nat) (hc : c ≤ maxLen) : RdX w S (.slice A 0 c) (.sl k [])
  | sl (b off n c k : Nat) (rows : List (List Dat)) (us : Nat → Nat → Value) (hS : S b) (hl : rows.length = n) (hn : n ≤ c) (hc : c ≤ maxLen) (hk : ∀ r ∈ rows, r.length = k)
      (hcell : ∀ i r j x, rows[i]? = some r → r[j]? = some x → w.cell? ⟨b, off + i * k + j, none⟩ = some (us i j))
      (hin : ∀ i r j x, rows[i]? = some r → r[j]? = some x → RdX w S (us i j) x) : RdX w S (.slice (some ⟨b, off, none⟩) n c) (.sl k rows)
section
variable {w w' : World} {S S' : Nat → Prop} {v : Value} {d : Dat} {k : Nat} {rows : List (List Dat)}
theorem RdX.frame (h : RdX w S v d) (hS : ∀ b, S b → S' b) (hf : ∀ b o u, S b → w.cell? ⟨b, o, none⟩ = some u → w'.cell? ⟨b, o, none⟩ = some u) : RdX w' S' v d := by
  induction h with
  | one v => exact .one v
  | nil A c k hc => exact .nil A c k hc
  | sl b off n c k rows us h1 hl h2 h3 h4 h5 h6 ih => exact .sl b off n c k rows us (hS b h1) hl h2 h3 h4 (fun i r j x a b' => hf _ _ _ h1 (h5 i r j x a b')) ih
theorem RdX.mono (h : RdX w S v d) (hS : ∀ b, S b → S' b) : RdX w S' v d := h.frame hS fun _ _ _ _ h => h
theorem cellx_lt {b o : Nat} {u : Value} (h : w.cell? ⟨b, o, none⟩ = some u) : b < w.heap.size := block_lt_of_cell (a := ⟨b, o, none⟩) h
theorem RdX.keep {B : Nat} (h : RdX w S v d) (hb : Below B w w') (hS : ∀ b, S b → b < B) : RdX w' S v d :=
  h.frame (fun _ h => h) fun b o u hs hc => by rw [hb.cell (p := ⟨b, o, none⟩) (hS b hs)]; exact hc
theorem RdX.step (h : RdX w S v d) (hb : Below w.heap.size w w') : RdX w' S v d :=
  h.frame (fun _ h => h) fun b o u hs hc => cell_later hb hc
theorem RdX.grown {row : Option Nat} (h : RdX w S v d) (hg : w.grownBy w' row) (hr : ∀ b, S b → row ≠ some b) : RdX w' S v d :=
  h.frame (fun _ h => h) fun b o u hs hc => by
    have := hg.block b (cellx_lt hc) (fun e => hr b hs e.symm)
    unfold World.cell? at hc ⊢
    simp only [this]
    exact hc
theorem RdX.set (h : RdX w S v d) {p : Addr} {u : Value} (hp : ¬ S p.block) : RdX (w.setCell p u) S v d :=
  h.frame (fun _ h => h) fun b o x hs hc => by
    have := Below.heap_setCell w p u b (fun e => hp (e ▸ hs))
    unfold World.cell? at hc ⊢
    simp only [this]
    exact hc
theorem RdX.shape (h : RdX w S v (.sl k rows)) : ∃ A c, v = .slice A rows.length c ∧ rows.length ≤ c ∧ c ≤ maxLen := by
  cases h with
  | nil A c k hc => exact ⟨A, c, rfl, Nat.zero_le _, hc⟩
  | sl b off n c k rows us h1 hl h2 h3 h4 h5 h6 => subst hl; exact ⟨_, c, rfl, h2, h3⟩
theorem RdX.get (h : RdX w S v (.sl k rows)) {i j : Nat} {r : List Dat} {x : Dat} (hi : rows[i]? = some r) (hj : r[j]? = some x) :
    ∃ b off c u, v = .slice (some ⟨b, off, none⟩) rows.length c ∧ S b ∧ w.cell? ⟨b, off + i * k + j, none⟩ = some u ∧ RdX w S u x := by
  cases h with
  | nil A c k hc => simp at hi
  | sl b off n c k rows us h1 hl h2 h3 h4 h5 h6 => subst hl; exact ⟨b, off, c, us i j, rfl, h1, h5 i r j x hi hj, h6 i r j x hi hj⟩
theorem RdX.eq {u : Value} (h : RdX w S v (.one u)) : v = u := by cases h; rfl
end
def strsV (l : List ByteArray) : Dat := .sl 1 (l.map fun s => [.one (.string s)])
def OwV (w : World) (base : Nat) (S : Nat → Prop) (e : TypeId) (k : Nat) (v : Value) (rows : List (List Dat)) : Prop :=
  ∃ us : List (Array Value), OwnR w base e k v us ∧ us.length = rows.length ∧ ∀ (i : Nat) (a : Array Value) (r : List Dat), us[i]? = some a → rows[i]? = some r → r.length = k ∧ ∀ (j : Nat) (u : Value) (x : Dat), a[j]? = some u → r[j]? = some x → RdX w (fun b => b < w.heap.size ∧ S b ∧ v.ownBlock ≠ some b) u x
section
variable {w w' : World} {base : Nat} {S S' : Nat → Prop} {e : TypeId} {k : Nat} {v : Value} {rows : List (List Dat)}
theorem OwV.nil (w : World) (base : Nat) (S : Nat → Prop) (e : TypeId) (k : Nat) : OwV w base S e k (.slice none 0 0) [] := ⟨[], OwnR.nil w base e k, rfl, by simp⟩
theorem OwV.frame (h : OwV w base S e k v rows) (hs : w.heap.size ≤ w'.heap.size) (hS : ∀ b, S b → S' b) (hv : ∀ g, v.ownBlock = some g → w'.heap[g]? = w.heap[g]?)
    (hf : ∀ b o u, S b → v.ownBlock ≠ some b → w.cell? ⟨b, o, none⟩ = some u → w'.cell? ⟨b, o, none⟩ = some u) : OwV w' base S' e k v rows := by
  obtain ⟨us, h1, h2, h3⟩ := h
  refine ⟨us, ⟨⟨h1.1.1, ?_⟩, h1.2⟩, h2, fun i a r ha hr => ?_⟩
  · rcases h1.1.2 with hn | ⟨g, cap, cur, rfl, hg0, hg, rest⟩
    · exact .inl hn
    · exact .inr ⟨g, cap, cur, rfl, hg0, (hv g rfl).trans hg, rest⟩
  · obtain ⟨h4, h5⟩ := h3 i a r ha hr
    exact ⟨h4, fun j u x hu hx => (h5 j u x hu hx).frame (fun b hb => ⟨by omega, hS b hb.2.1, hb.2.2⟩) fun b o u hb hc => hf b o u hb.2.1 hb.2.2 hc⟩
theorem OwV.lt (h : OwV w base S e k v rows) : ∀ g, v.ownBlock = some g → base ≤ g ∧ g < w.heap.size := by
  obtain ⟨us, h1, _⟩ := h
  exact own_in h1.1
theorem OwV.step (h : OwV w base S e k v rows) (hb : Below w.heap.size w w') : OwV w' base S e k v rows :=
  h.frame hb.size (fun _ h => h) (fun g hg => hb.block g (h.lt g hg).2) fun b o u _ _ hc => cell_later hb hc
theorem OwV.grown {row : Option Nat} (h : OwV w base S e k v rows) (hg : w.grownBy w' row) (hv : row ≠ v.ownBlock ∨ row = none) (hr : ∀ b, S b → row ≠ some b) : OwV w' base S e k v rows := by
  refine h.frame hg.size (fun _ h => h) (fun g hgo => ?_) fun b o u hs _ hc => ?_
  · refine hg.block g (h.lt g hgo).2 fun e => ?_
    rcases hv with hv | hv
    · exact hv (e.symm.trans hgo.symm)
    · rw [hv] at e; cases e
  · have := hg.block b (cellx_lt hc) (fun e => hr b hs e.symm)
    unfold World.cell? at hc ⊢
    simp only [this]
    exact hc
theorem OwV.set (h : OwV w base S e k v rows) {p : Addr} {u : Value} (hp : ¬ S p.block) (hv : v.ownBlock ≠ some p.block) : OwV (w.setCell p u) base S e k v rows := by
  refine h.frame (by simp) (fun _ h => h) (fun g hg => Below.heap_setCell w p u g (fun e => hv (by rw [hg, e]))) fun b o x hs _ hc => ?_
  have := Below.heap_setCell w p u b (fun e => hp (e ▸ hs))
  unfold World.cell? at hc ⊢
  simp only [this]
  exact hc
theorem OwV.mono {b' : Nat} (h : OwV w base S e k v rows) (hb : b' ≤ base) : OwV w b' S e k v rows := by
  obtain ⟨us, h1, h2⟩ := h
  exact ⟨us, h1.mono hb, h2⟩
theorem OwV.pushed {v' : Value} {cs : Array Value} {us : List (Array Value)} {r : List Dat} (h1 : OwnR w base e k v us) (h2 : us.length = rows.length)
    (h3 : ∀ (i : Nat) (a : Array Value) (r : List Dat), us[i]? = some a → rows[i]? = some r → r.length = k ∧ ∀ (j : Nat) (u : Value) (x : Dat), a[j]? = some u → r[j]? = some x → RdX w (fun b => b < w.heap.size ∧ S b ∧ v.ownBlock ≠ some b) u x)
    (hr : r.length = k) (hc : ∀ (j : Nat) (u : Value) (x : Dat), cs[j]? = some u → r[j]? = some x → RdX w (fun b => b < w.heap.size ∧ S b ∧ v.ownBlock ≠ some b) u x)
    (g1 : OwnR w' base e k v' (us ++ [cs])) (g2 : w.grownBy w' v.ownBlock) (g3 : v'.ownBlock = v.ownBlock ∨ v'.ownBlock = some w.heap.size) : OwV w' base S e k v' (rows ++ [r]) := by
  have key : ∀ u x, RdX w (fun b => b < w.heap.size ∧ S b ∧ v.ownBlock ≠ some b) u x → RdX w' (fun b => b < w'.heap.size ∧ S b ∧ v'.ownBlock ≠ some b) u x := by
    intro u x hh
    refine (hh.grown g2 fun b hb => hb.2.2).mono fun b hb => ⟨Nat.lt_of_lt_of_le hb.1 g2.size, hb.2.1, ?_⟩
    rcases g3 with g3 | g3
    · rw [g3]; exact hb.2.2
    · rw [g3]; intro e; injection e with e; omega
  refine ⟨us ++ [cs], g1, by simp [h2], fun i a q ha hq => ?_⟩
  by_cases hi : i < rows.length
  · rw [List.getElem?_append_left (by omega)] at ha
    rw [List.getElem?_append_left hi] at hq
    obtain ⟨h4, h5⟩ := h3 i a q ha hq
    exact ⟨h4, fun j u x hu hx => key u x (h5 j u x hu hx)⟩
  · have hie : i = rows.length := by have := (List.getElem?_eq_some_iff.1 hq).1; simp at this; omega
    subst hie
    rw [← h2] at ha
    simp at ha hq
    subst ha; subst hq
    exact ⟨hr, fun j u x hu hx => key u x (hc j u x hu hx)⟩
theorem OwV.reads (h : OwV w base S e k v rows) : RdX w (fun b => b < w.heap.size ∧ (S b ∨ v.ownBlock = some b)) v (.sl k rows) := by
  obtain ⟨us, h1, h2, h3⟩ := h
  obtain ⟨A, c, rfl, h4, h5, h6, h7⟩ := h1.reads
  rcases h4.2 with h0 | ⟨b, off, rfl, hb, hcell⟩
  · have : rows = [] := List.eq_nil_of_length_eq_zero (by omega)
    subst this
    rw [h0]
    exact .nil _ _ _ h6
  · have hsz : ∀ (i : Nat) (r : List Dat), rows[i]? = some r → ∃ (a : Array Value), us[i]? = some a ∧ r.length = k ∧ a.size = k := by
      intro i r hr
      have hi := (List.getElem?_eq_some_iff.1 hr).1
      have hu : us[i]? = some us[i] := List.getElem?_eq_getElem (by omega)
      exact ⟨_, hu, (h3 i _ r hu hr).1, h1.2 _ (List.getElem_mem _)⟩
    refine RdX.sl b off _ c k rows (fun i j => ((us[i]?.getD #[])[j]?).getD undef) ⟨hb, .inr rfl⟩ h2.symm h5 h6 (fun r hr => ?_) (fun i r j x hr hx => ?_) fun i r j x hr hx => ?_
    · obtain ⟨i, hi⟩ := List.getElem?_of_mem hr
      obtain ⟨a, _, q, _⟩ := hsz i r hi
      exact q
    · obtain ⟨a, ha, q1, q2⟩ := hsz i r hr
      have hj := (List.getElem?_eq_some_iff.1 hx).1
      rw [hcell i a ha j (by omega), ha]
      simp only [Option.getD_some]
      rw [Array.getElem?_eq_getElem (by omega)]
      rfl
    · obtain ⟨a, ha, q1, q2⟩ := hsz i r hr
      have hj := (List.getElem?_eq_some_iff.1 hx).1
      have hu : a[j]? = some a[j] := Array.getElem?_eq_getElem (by omega)
      simp only [ha, Option.getD_some, hu]
      exact ((h3 i a r ha hr).2 j _ x hu hx).mono fun b' hb' => ⟨hb'.1, .inl hb'.2.1⟩
variable {P : Program} {ops : Array Oper} {rest : List Oper} {o : Oper} {a : Act} {K : Act → World → Prop} {Q : Exit → Act → World → Prop}
theorem wp_pushV (w : World) (s x : Operand) (t : TypeId) (ho : o.op = .call { callee := .builtin .append, args := #[s, x], argTypes := #[t, t] })
    (base : Nat) (S : Nat → Prop) (e : TypeId) (z : Value) (size bytes : Nat) (ht : P.underlying t = some (.slice e)) (hi : (P.info? e).map (fun i => (i.zero, i.size, i.bytes)) = some (some z, size, bytes)) (hzs : z.cells.size = size) (hsz : 0 < size)
    (v : Value) (rows : List (List Dat)) (hs : a.eval s = v) (hown : OwV w base S e size v rows) (g : Nat) (cs : Array Value) (hx : a.eval x = .slice (some ⟨g, 0, none⟩) 1 1) (hb : Blk w g e cs) (hc : cs.size = size)
    (r : List Dat) (hr : r.length = size) (hd : ∀ (j : Nat) (u : Value) (x : Dat), cs[j]? = some u → r[j]? = some x → RdX w (fun b => b < w.heap.size ∧ S b ∧ v.ownBlock ≠ some b) u x)
    (h1 : ∀ u ∈ cs.toList, u.oneCell' = true) (h63 : rows.length < 1000000) (hbytes : bytes ≤ 1000000) (hbase : base ≤ w.heap.size)
    (h : ∀ v' w', OwV w' base S e size v' (rows ++ [r]) → w.grownBy w' v.ownBlock → (v'.ownBlock = v.ownBlock ∨ v'.ownBlock = some w.heap.size) → (∀ W0, Below base W0 w → Below base W0 w') → K (a.put o.dst v') w') : Oper.wp P o a w K Q := by
  obtain ⟨i0, hi0, hz0, hz1, hz2⟩ := info_parts hi
  obtain ⟨us, u1, u2, u3⟩ := hown
  have hnews : ∀ j u, cs.toList[j]? = some u → w.cell? ((⟨g, 0, none⟩ : Addr).add j) = some u := by
    intro j u hu
    have : (⟨g, 0, none⟩ : Addr).add j = ⟨g, j, none⟩ := by unfold Addr.add; split <;> simp_all
    rw [this, hb.cell]
    simpa using hu
  have hb2 := Nat.mul_le_mul (show us.length + 1 ≤ 1000000 by omega) hbytes
  obtain ⟨v', w', hrun, g1, g2, g3, g4⟩ := run_append_own_at (P := P) w base t o.type e i0 z size bytes ht hi0 hz0 hz1 hz2 hzs hsz v us.length (cellsR us) u1.1 ⟨g, 0, none⟩ 1 1 cs.toList (by simp [hc]) hnews h1 (by unfold maxLen; omega) (by omega) hbase
  have ho2 : OwnR w' base e size v' (us ++ [cs]) := by
    refine ⟨?_, ?_⟩
    · rw [cellsR_append, List.length_append, show cellsR [cs] = cs.toList by simp [cellsR]]
      exact g1
    · intro y hy
      rcases List.mem_append.1 hy with hy | hy
      · exact u1.2 y hy
      · simp at hy; subst hy; exact hc
  unfold Oper.wp execOp
  simp only [ho, resolve, invoke, builtin, Sem.run_bind, Sem.run_pure, Result.andThen_ok, List.map_toArray, List.map_cons, List.map_nil, hs, hx, hrun]
  exact h v' w' (OwV.pushed u1 u2 u3 hr hd ho2 g2 g4) g2 g4 fun W0 hB => hB.grown g2 hbase (fun k hk => (own_in u1.1 k hk).1)
end
end Go.Proofs.YtnnkfgekiaaehaaGreat

/- The reader of the reference (layer 8): must, next, name, has, rules. -/
namespace Go.Proofs.YtnnkfgekiaaehaaGreat
open Go.ChangeShapes Go.WideShapes Go.ChangeAt Go.RowKit
set_option linter.unusedVariables false
theorem RdX.str {w : World} {S : Nat → Prop} {v : Value} {l : List ByteArray} (h : RdX w S v (strsV l)) {i : Nat} {s : ByteArray} (hi : l[i]? = some s) :
    ∃ b off c, v = .slice (some ⟨b, off, none⟩) l.length c ∧ S b ∧ w.cell? ⟨b, off + i, none⟩ = some (.string s) := by
  obtain ⟨b, off, c, u, h1, h2, h3, h4⟩ := h.get (i := i) (j := 0) (r := [.one (.string s)]) (by rw [List.getElem?_map, hi]; rfl) rfl
  rw [h4.eq, Nat.mul_one, Nat.add_zero] at h3
  exact ⟨b, off, c, by rw [h1, List.length_map], h2, h3⟩
theorem RdX.strs {w : World} {S : Nat → Prop} {v : Value} {l : List ByteArray} (h : RdX w S v (strsV l)) : ∃ A c, v = .slice A l.length c ∧ l.length ≤ c ∧ c ≤ maxLen := by
  obtain ⟨A, c, h1, h2, h3⟩ := h.shape
  rw [List.length_map] at h1 h2
  exact ⟨A, c, h1, h2, h3⟩
theorem Own1.rdv {w : World} {base : Nat} {e : TypeId} {v : Value} {l : List ByteArray} (h : Own1 w base e v (strs l)) : RdX w (fun b => base ≤ b ∧ b < w.heap.size) v (strsV l) := by
  obtain ⟨A, c, rfl, h1, h2, h3, h4⟩ := h.reads
  have hl : (Go.Proofs.YtnnkfgekiaaehaaGreat.strs l).length = l.length := by simp [Go.Proofs.YtnnkfgekiaaehaaGreat.strs]
  rw [hl] at h1 h2
  rcases h1.2 with h0 | ⟨b, off, rfl, hb, hc⟩
  · have : l = [] := List.eq_nil_of_length_eq_zero h0
    subst this
    exact .nil _ _ _ h3
  · rw [hl]
    refine RdX.sl b off _ c 1 _ (fun i j => .string (l.getD i ⟨#[]⟩)) ⟨h4 _ rfl, hb⟩ (by simp) h2 h3 (by simp) ?_ ?_
    · intro i r j x hr hx
      rw [List.getElem?_map] at hr
      cases hi : l[i]? with
      | none => rw [hi] at hr; cases hr
      | some s =>
        rw [hi] at hr
        simp at hr; subst hr
        have hj : j = 0 := by have := (List.getElem?_eq_some_iff.1 hx).1; simp at this; omega
        subst hj
        rw [Nat.mul_one, Nat.add_zero, hc i (.string s) (by simp [Go.Proofs.YtnnkfgekiaaehaaGreat.strs, hi])]
        simp [List.getD_eq_getElem?_getD, hi]
    · intro i r j x hr hx
      rw [List.getElem?_map] at hr
      cases hi : l[i]? with
      | none => rw [hi] at hr; cases hr
      | some s =>
        rw [hi] at hr
        simp at hr; subst hr
        have hj : j = 0 := by have := (List.getElem?_eq_some_iff.1 hx).1; simp at this; omega
        subst hj
        simp at hx; subst hx
        simp only [List.getD_eq_getElem?_getD, hi, Option.getD_some]
        exact .one _
section
variable {rb : Nat} {r : RS} {l : List Lx} {W W' : World}
theorem RBox.keep (h : RBox rb r l W) (hb : Below W.heap.size W W') : RBox rb r l W' ∧ Keep rb W W' := ⟨h.step hb, Keep.of hb h.lt⟩
theorem must_any {x : Lx} (h : RBox rb r l W) (hx : l[r.at']? = some x) (k : Int) (t : ByteArray) (h1 : x.kind = k) (h2 : x.text = t) :
    Calls Tryz.prog 121 #[.pointer (some ⟨rb, 0, none⟩), .int .i64 k, .string t] W fun e w' => e = .returned (.tuple #[]) ∧ RBox rb { r with at' := r.at' + 1 } l w' ∧ Keep rb W w' := by
  have hrl := h.lt
  have hP := Lib.hid (take_any h hx)
  have hI := Lib.hid (fun w => is_any x k t w)
  have hR := Lib.hid (show decide (x.kind = k ∧ x.text = t) = true from decide_eq_true ⟨h1, h2⟩)
  clear hx h1 h2
  go_enter Tryz.func121, Tryz.ntmps121
  go_upto_region 1 with (go_at_call 122; refine hP.out.mono ?_; rintro e w1 ⟨rfl, hb1, hk1⟩)
  have q : Blk (w1.alloc (.cells #[.int .i64 x.kind, .string x.text, .int .i64 x.at'] 124)) w1.heap.size 124 #[.int .i64 x.kind, .string x.text, .int .i64 x.at'] := Blk.new _ _ _
  obtain ⟨hb2, hk2⟩ := hb1.keep (W' := w1.alloc (.cells #[.int .i64 x.kind, .string x.text, .int .i64 x.at'] 124)) (bAlc (Below.refl _ _) _)
  have hk3 := hk1.trans hk2
  clear hk1 hk2 hb1
  generalize w1.alloc (.cells #[.int .i64 x.kind, .string x.text, .int .i64 x.at'] 124) = W2 at *
  generalize w1.heap.size = gx at *
  have d0 := q.cell 0
  have d1 := q.cell 1
  have d2 := q.cell 2
  simp only [List.getElem?_toArray, List.getElem?_cons_zero, List.getElem?_cons_succ] at d0 d1 d2
  have hO := Lib.hid (ok_any hb2)
  have hI2 := Lib.hid (hI.out W2)
  rw [hR.out] at hI2
  go_wp2_with (first
    | (go_at_call 88; refine hO.out.mono ?_; clear hO; rintro e w3 ⟨rfl, rfl⟩)
    | (go_at_call 158; refine hI2.out.mono ?_; clear hI2; rintro e w3 ⟨rfl, hb3⟩))
  go_end0
  obtain ⟨hb4, hk4⟩ := hb2.keep hb3
  exact ⟨rfl, hb4, hk3.trans hk4⟩
theorem next_drop {t : ByteArray} {x : Lx} {i : Nat} (hx : l[i]? = some x) : (nextF t (l.drop i)).1 = decide (x.kind = 3 ∧ x.text = t) := by
  obtain ⟨h1, h2⟩ := List.getElem?_eq_some_iff.1 hx
  rw [List.drop_eq_getElem_cons h1, h2]
  show (if x.kind = 3 ∧ x.text = t then (true, l.drop (i + 1)) else (false, x :: l.drop (i + 1))).1 = _
  by_cases h : x.kind = 3 ∧ x.text = t
  · rw [if_pos h, decide_eq_true h]
  · rw [if_neg h, decide_eq_false h]
theorem next_any (h : RBox rb r l W) (t : ByteArray) (b : Bool) (hb : b = (nextF t (l.drop r.at')).1) :
    Calls Tryz.prog 125 #[.pointer (some ⟨rb, 0, none⟩), .string t] W fun e w' => e = .returned (.bool b) ∧ RBox rb { r with at' := if b = true then r.at' + 1 else r.at' } l w' ∧ Keep rb W w' := by
  have hrl := h.lt
  have hn := h.2.2.1
  have hn2 := h.2.2.2
  obtain ⟨c0, c1, c2, c3⟩ := h.cells
  have hO := Lib.hid (fun (p : KeptBy W) => ok_any (h.step p.kept))
  have hfin := Lib.hid (fun (W2 : World) (hp : Below W.heap.size W W2) => h.keep hp)
  have k1 := cell_kept c1
  have k2 := cell_kept c2
  cases hx : l[r.at']? with
  | none =>
    have hle := List.getElem?_eq_none_iff.1 hx
    have hbf : b = false := by rw [hb, List.drop_of_length_le hle]; rfl
    subst hbf
    have hz : ¬ (r.at' : Int) < r.n := by omega
    replace hx := Lib.hid hx
    replace hb := Lib.hid hb
    replace hn := Lib.hid hn
    clear c0 c1 c2 c3
    go_enter Tryz.func125, Tryz.ntmps125
    go_upto_region 1 with (fail)
    refine wp_region_kept (by kernel_rfl) (by kernel_rfl) ?_
    repeat (go_big_quiet_step ((go_at_call 88; exact Calls.kept_same (hO.out _))))
    refine wpQuiet_nil ?_
    rintro _ ⟨p, rfl⟩
    have hpk := p.kept
    clear k1 k2 hO
    generalize p.world = w2 at hpk
    go_wp2_with fail
    go_ret
    exact ⟨rfl, hfin.out _ hpk⟩
  | some x =>
    obtain ⟨g, off, hLA, hg, x0, x1, x2⟩ := h.get hx
    rw [next_drop hx] at hb
    have hlt := (List.getElem?_eq_some_iff.1 hx).1
    rw [hLA] at k1
    have y0 := cell_kept x0
    have y1 := cell_kept x1
    have y2 := cell_kept x2
    have hz : (r.at' : Int) < r.n := by omega
    have hz0 : (0 : Int) ≤ r.at' := by omega
    have hz4 : (r.n : Int) ≤ 2001 := by omega
    have hI := Lib.hid (fun w => is_any x 3 t w)
    rw [← hb] at hI
    replace hx := Lib.hid hx
    replace hb := Lib.hid hb
    replace hn := Lib.hid hn
    replace hLA := Lib.hid hLA
    clear c0 c1 c2 c3 x0 x1 x2
    go_enter Tryz.func125, Tryz.ntmps125
    go_upto_region 1 with (fail)
    refine wp_region_kept (by kernel_rfl) (by kernel_rfl) ?_
    repeat (go_big_quiet_step (first | (go_at_call 88; exact Calls.kept_same (hO.out _)) | (go_at_call 158; exact Calls.kept_by (hI.out _))))
    refine wpQuiet_nil ?_
    rintro _ ⟨p, rfl⟩
    have hpk := p.kept
    clear k1 k2 hO y0 y1 y2 hI
    generalize p.world = w2 at hpk
    obtain ⟨hb2, hk2⟩ := hfin.out _ hpk
    cases b with
    | false =>
      go_wp2_with fail
      go_ret
      exact ⟨rfl, hb2, hk2⟩
    | true =>
      have hi : r.at' ≤ 2001 := by omega
      have h3 := hb2.put2 (r.at' + 1)
      have hk3 := hk2.set 2 (.int .i64 (r.at' + 1 : Nat))
      have hcast : ((r.at' + 1 : Nat) : Int) = r.at' + 1 := by omega
      rw [hcast] at h3 hk3
      replace hcast := Lib.hid hcast
      have z2 := hb2.1.frozen 2
      obtain ⟨c0, c1, c2, c3⟩ := hb2.cells
      go_wp2_with fail
      go_ret
      exact ⟨rfl, h3, hk3⟩
theorem name_any {x : Lx} (h : RBox rb r l W) (hx : l[r.at']? = some x) (cap : Bool) (h1 : x.kind = 1) (h2 : (if cap = true then capB x.text else smallB x.text) = true) (h3 : x.text.size ≤ maxLen) :
    Calls Tryz.prog 127 #[.pointer (some ⟨rb, 0, none⟩), .bool cap] W fun e w' => e = .returned (.string x.text) ∧ RBox rb { r with at' := r.at' + 1 } l w' ∧ Keep rb W w' := by
  have hrl := h.lt
  have hP := Lib.hid (take_any h hx)
  have hS := Lib.hid (fun w => rsmall_any x.text w h3)
  have hC := Lib.hid (fun w => rcap_any x.text w h3)
  have hk1 : (x.kind == 1) = true := by simp [h1]
  clear hx h1
  go_enter Tryz.func127, Tryz.ntmps127
  go_upto_region 2 with (go_at_call 122; refine hP.out.mono ?_; rintro e w1 ⟨rfl, hb1, hk1⟩)
  have q : Blk (w1.alloc (.cells #[.int .i64 x.kind, .string x.text, .int .i64 x.at'] 124)) w1.heap.size 124 #[.int .i64 x.kind, .string x.text, .int .i64 x.at'] := Blk.new _ _ _
  obtain ⟨hb2, hk2⟩ := hb1.keep (W' := w1.alloc (.cells #[.int .i64 x.kind, .string x.text, .int .i64 x.at'] 124)) (bAlc (Below.refl _ _) _)
  have hk3 := hk1.trans hk2
  clear hk1 hk2 hb1
  generalize w1.alloc (.cells #[.int .i64 x.kind, .string x.text, .int .i64 x.at'] 124) = W2 at *
  generalize w1.heap.size = gx at *
  have d0 := q.cell 0
  have d1 := q.cell 1
  have d2 := q.cell 2
  simp only [List.getElem?_toArray, List.getElem?_cons_zero, List.getElem?_cons_succ] at d0 d1 d2
  have hO := Lib.hid (ok_any hb2)
  cases cap with
  | false =>
    have h2' : smallB x.text = true := h2
    rw [h2'] at hS
    clear h2 h2'
    go_wp2_with (first
      | (go_at_call 88; refine hO.out.mono ?_; clear hO; rintro e w3 ⟨rfl, rfl⟩)
      | (go_at_call 112; refine (hS.out _).mono ?_; clear hS; rintro e w3 ⟨rfl, rfl⟩))
    go_ret
    exact ⟨rfl, hb2, hk3⟩
  | true =>
    have h2' : capB x.text = true := h2
    rw [h2'] at hC
    clear h2 h2'
    go_wp2_with (first
      | (go_at_call 88; refine hO.out.mono ?_; clear hO; rintro e w3 ⟨rfl, rfl⟩)
      | (go_at_call 113; refine (hC.out _).mono ?_; clear hC; rintro e w3 ⟨rfl, rfl⟩))
    go_ret
    exact ⟨rfl, hb2, hk3⟩
end
theorem hasv_any {w : World} {S : Nat → Prop} {v : Value} {l : List ByteArray} (h : RdX w S v (strsV l)) (s : ByteArray) (hn : l.length ≤ 1000000) :
    Calls Tryz.prog 128 #[v, .string s] w fun e w' => e = .returned (.bool (hasN s l)) ∧ w = w' := by
  obtain ⟨A, c, rfl, hc1, hc2⟩ := h.strs
  replace h := Lib.hid h
  clear hc1 hc2
  go_enter Tryz.func128, Tryz.ntmps128
  go_wp2_with fail
  go_loopg [5] l.length (fun k i wr => ∃ pos : Nat, wr = w ∧ i = .int .i64 pos ∧ pos + k = l.length ∧ hasN s (l.drop pos) = hasN s l)
  case atStart => exact ⟨0, rfl, rfl, by omega, rfl⟩
  case round =>
    obtain ⟨pos, rfl, rfl, hk, hg⟩ := hrel
    by_cases hp : pos < l.length
    · have hxi : l[pos]? = some l[pos] := List.getElem?_eq_getElem hp
      obtain ⟨b, off, c', hA, hS, hcell⟩ := h.out.str hxi
      injection hA with hA1 hA2 hA3
      subst hA1
      rw [List.drop_eq_getElem_cons hp] at hg
      generalize l[pos] = x at *
      have hpz : 0 ≤ (pos : Int) := by omega
      replace hxi := Lib.hid hxi
      replace hA3 := Lib.hid hA3
      by_cases hx : x = s
      · have hxb := eqT x s hx
        have hG := Lib.hid (hg.symm.trans (by simp [hasN, hx]) : hasN s l = true)
        clear hg hx h
        go_wp2_with fail
        go_ret
        exact ⟨ret_bool hG.out.symm, rfl⟩
      · have hxb := eqF x s hx
        have hG := Lib.hid ((show hasN s (x :: List.drop (pos + 1) l) = hasN s (List.drop (pos + 1) l) by simp [hasN, hx]).symm.trans hg)
        clear hg hx h
        go_wp2_with fail
        go_roundg (l.length - (pos + 1))
        case measure => omega
        case rel => exact ⟨pos + 1, rfl, by go_num, by omega, hG.out⟩
    · have hps : pos = l.length := by omega
      have hF : Hid (hasN s l = false) := Lib.hid (by rw [← hg, List.drop_of_length_le (by omega)]; rfl)
      clear hg hps hk h
      go_wp2_with fail
      go_ret
      exact ⟨ret_bool hF.out.symm, rfl⟩
end Go.Proofs.YtnnkfgekiaaehaaGreat

/- The reader of the reference (layer 8): rules, alternative. -/
namespace Go.Proofs.YtnnkfgekiaaehaaGreat
open Go.ChangeShapes Go.WideShapes Go.ChangeAt Go.RowKit
set_option linter.unusedVariables false
theorem field_lx0 (k : Int) (t : ByteArray) (i : Int) : ∀ w, (Instr.field 124 (lxV k t i) 0).run Tryz.prog w = .ok (.int .i64 k) w := fun _ => by kernel_rfl
theorem field_lx2 (k : Int) (t : ByteArray) (i : Int) : ∀ w, (Instr.field 124 (lxV k t i) 2).run Tryz.prog w = .ok (.int .i64 i) w := fun _ => by kernel_rfl
theorem Keep.own1 {rb : Nat} {w w' : World} (h : Keep rb w w') {base : Nat} {e : TypeId} {v : Value} {l : List Value} (o : Own1 w base e v l) (hb : rb < base) : Own1 w' base e v l := by
  refine ⟨o.1, ?_⟩
  rcases o.2 with hn | ⟨g, cap, cur, rfl, hg0, hg, rest⟩
  · exact .inl hn
  · exact .inr ⟨g, cap, cur, rfl, hg0, (h.2 g (Array.getElem?_eq_some_iff.1 hg).1 (by omega)).trans hg, rest⟩
theorem Keep.then {rb : Nat} {a b c : World} (h : Keep rb a b) (hb : Below a.heap.size b c) (hr : rb ≤ a.heap.size) : Keep rb a c :=
  ⟨h.1.trans (hb.mono hr), fun k hk hn => (hb.block k hk).trans (h.2 k hk hn)⟩
theorem RBox.low {rb : Nat} {r : RS} {l : List Lx} {W W' : World} {B : Nat} (h : RBox rb r l W) (hb : Below B W W') (hB : rb < B) : RBox rb r l W' :=
  ⟨h.1.below hb hB, h.2.1.below (hb.mono (Nat.le_of_lt hB)), h.2.2⟩
theorem own_sl {w : World} {base : Nat} {v : Value} {l : List ByteArray} (h : Own1 w base 9 v (strs l)) : ∃ A c, v = .slice A l.length c := by
  obtain ⟨A, c, e, _⟩ := h.reads
  rw [show (strs l).length = l.length by simp [strs]] at e
  exact ⟨A, c, e⟩
def altV (a : List ByteArray) : List Dat := [strsV a]
def ruleV (r : Rule) : List Dat := [.one (.string r.1), .sl 1 (r.2.map altV)]
def rulesV (rs : List Rule) : Dat := .sl 2 (rs.map ruleV)
theorem RdX.rule {w : World} {S : Nat → Prop} {v : Value} {l : List Rule} (h : RdX w S v (rulesV l)) {i : Nat} {x : Rule} (hi : l[i]? = some x) :
    ∃ b off c u, v = .slice (some ⟨b, off, none⟩) l.length c ∧ S b ∧ w.cell? ⟨b, off + i * 2, none⟩ = some (.string x.1) ∧ w.cell? ⟨b, off + i * 2 + 1, none⟩ = some u ∧ RdX w S u (.sl 1 (x.2.map altV)) := by
  have hr : (l.map ruleV)[i]? = some (ruleV x) := by rw [List.getElem?_map, hi]; rfl
  obtain ⟨b, off, c, u, h1, h2, h3, h4⟩ := h.get (j := 0) hr rfl
  obtain ⟨b', off', c', u', h1', h2', h3', h4'⟩ := h.get (j := 1) hr rfl
  rw [h1] at h1'
  injection h1' with e1 e2 e3
  injection e1 with e1
  injection e1 with e4 e5 e6
  subst e4 e5
  rw [List.length_map] at h1
  rw [h4.eq, Nat.add_zero] at h3
  exact ⟨b, off, c, u', h1, h2, h3, h3', h4'⟩
theorem RdX.alt {w : World} {S : Nat → Prop} {v : Value} {l : List (List ByteArray)} (h : RdX w S v (.sl 1 (l.map altV))) {i : Nat} {x : List ByteArray} (hi : l[i]? = some x) :
    ∃ b off c u, v = .slice (some ⟨b, off, none⟩) l.length c ∧ S b ∧ w.cell? ⟨b, off + i, none⟩ = some u ∧ RdX w S u (strsV x) := by
  have hr : (l.map altV)[i]? = some (altV x) := by rw [List.getElem?_map, hi]; rfl
  obtain ⟨b, off, c, u, h1, h2, h3, h4⟩ := h.get (j := 0) hr rfl
  rw [List.length_map] at h1
  rw [Nat.mul_one, Nat.add_zero] at h3
  exact ⟨b, off, c, u, h1, h2, h3, h4⟩
theorem RdX.len {w : World} {S : Nat → Prop} {v : Value} {α : Type} {l : List α} {f : α → List Dat} {k : Nat} (h : RdX w S v (.sl k (l.map f))) : ∃ A c, v = .slice A l.length c ∧ l.length ≤ c ∧ c ≤ maxLen := by
  obtain ⟨A, c, h1, h2, h3⟩ := h.shape
  rw [List.length_map] at h1 h2
  exact ⟨A, c, h1, h2, h3⟩
def RetSs (w : World) (l : List ByteArray) (e : Ending) (w' : World) : Prop := ∃ v, e = .returned v ∧ Own1 w' w.heap.size 9 v (strs l) ∧ Below w.heap.size w w'
theorem strs_snoc (l : List ByteArray) (s : ByteArray) : strs l ++ [Value.string s] = strs (l ++ [s]) := by simp [strs]
set_option maxHeartbeats 1000000 in
theorem rules_any {w : World} {S : Nat → Prop} {T R : Value} {k : Int} {sep st : ByteArray} {l : List Rule} (h : RdX w S R (rulesV l)) (hn : l.length ≤ 100000) :
    Calls Tryz.prog 129 #[.agg #[.int .i64 k, T, .string sep, .string st, R]] w (RetSs w (l.map (·.1))) := by
  have hR := Lib.hid (fun (v : Value) (w' : World) (h1 : Own1 w' w.heap.size 9 v (strs (l.map (·.1)))) (h2 : Below w.heap.size w w') => (show RetSs w (l.map (·.1)) (.returned v) w' from ⟨v, rfl, h1, h2⟩))
  generalize RetSs w (l.map (·.1)) = RR at *
  obtain ⟨A, c, rfl, hc1, hc2⟩ := h.len
  clear hc1 hc2
  have hb0 : Below w.heap.size w (w.alloc (.cells #[.int .i64 k, T, .string sep, .string st, .slice A l.length c] 80)) := bAlc (Below.refl _ _) _
  have q0 : Blk (w.alloc (.cells #[.int .i64 k, T, .string sep, .string st, .slice A l.length c] 80)) w.heap.size 80 #[.int .i64 k, T, .string sep, .string st, .slice A l.length c] := Blk.new _ _ _
  have h0 := h.step hb0
  clear h
  go_enter Tryz.func129, Tryz.ntmps129
  go_upto_region 3 with (fail)
  generalize hW : w.alloc (.cells #[.int .i64 k, T, .string sep, .string st, .slice A l.length c] 80) = W at *
  have hWs : W.heap.size = w.heap.size + 1 := by rw [← hW]; simp
  replace hW := Lib.hid hW
  go_loopg [3, 4] l.length (fun gk s3 s4 wr => ∃ i : Nat, s4 = .int .i64 i ∧ i + gk = l.length ∧ Own1 wr W.heap.size 9 s3 (strs ((l.take i).map (·.1))) ∧ Below W.heap.size W wr)
  case atStart => exact ⟨0, rfl, by omega, Own1.nil _ _ _, Below.refl _ _⟩
  case round =>
    obtain ⟨i, rfl, hi, ho, hb⟩ := hrel
    have q := q0.step hb
    have h1 := h0.step hb
    have hbs := hb.size
    clear q0 h0
    have c4 := q.cell 4
    simp only [List.getElem?_toArray, List.getElem?_cons_zero, List.getElem?_cons_succ] at c4
    replace hi := Lib.hid hi
    by_cases hin : i < l.length
    · have hxi : l[i]? = some l[i] := List.getElem?_eq_getElem hin
      obtain ⟨b, off, c', u, hA, hS, x0, x1, _⟩ := h1.rule hxi
      injection hA with hA1 hA2 hA3
      subst hA1
      have hsn : (l.take i).map (·.1) ++ [l[i].1] = (l.take (i + 1)).map (·.1) := by rw [List.take_succ_eq_append_getElem hin, List.map_append]; rfl
      have hl : ((l.take i).map (·.1)).length ≤ 100000 := by simp; omega
      generalize l[i] = x at *
      generalize ((l.take i).map (·.1)) = d at *
      replace hxi := Lib.hid hxi
      replace hA3 := Lib.hid hA3
      replace hsn := Lib.hid hsn
      have hzi : (0 : Int) ≤ i := by omega
      have hzn : (i : Int) < l.length := by omega
      have hdl : (strs d).length ≤ 100000 := by simp [strs]; omega
      clear h1
      go_wp2_with (at_builtin; refine wpList_join1 _ rfl _ _ 22 rfl W.heap.size 9 _ 16 under23 info9 rfl _ _ rfl (ho.alloc _) _ _ 1 1 [.string x.1] rfl (rd_blk (Blk.new _ _ _)) (by simp [Value.oneCell']) (by omega) (by simp) (by simp; omega) ?_; intro v' w1 hown1 hg1 hat1 hb1)
      have hb2 : Below W.heap.size W w1 := hb1 W ((hb.alloc hbs _))
      rw [strs_snoc, hsn.out] at hown1
      go_roundg (l.length - (i + 1))
      case measure => have := hi.out; omega
      case rel => exact ⟨i + 1, by go_num, by have := hi.out; omega, hown1, hb2⟩
    · have hii : i = l.length := by have := hi.out; omega
      subst hii
      rw [List.take_of_length_le (Nat.le_refl _)] at ho
      clear h1
      go_wp2_with fail
      exact hR.out _ _ (ho.mono (by omega)) (hb0.trans (hb.mono (by omega)))
section
variable {rb : Nat} {r : RS} {l : List Lx} {W W' : World}
theorem alt_inv {f : Nat} {d a : List ByteArray} {m r' : List Lx} (h : altF f d m = some (a, r')) :
    ∃ f' x m', f = f' + 1 ∧ m = x :: m' ∧ ((x.kind ≠ 1 ∧ a = d ∧ r' = m) ∨ (x.kind = 1 ∧ (smallB x.text = true ∨ capB x.text = true) ∧ d.length ≠ 6 ∧ altF f' (d ++ [x.text]) m' = some (a, r'))) := by
  cases f with
  | zero => simp [altF] at h
  | succ f =>
    cases m with
    | nil => simp [altF] at h
    | cons x m' =>
      refine ⟨f, x, m', rfl, rfl, ?_⟩
      unfold altF at h
      by_cases hk : x.kind = 1
      · rw [if_pos hk] at h
        by_cases hc : (smallB x.text = true ∨ capB x.text = true) ∧ d.length ≠ 6
        · rw [if_pos hc] at h
          exact .inr ⟨hk, hc.1, hc.2, h⟩
        · rw [if_neg hc] at h; cases h
      · rw [if_neg hk] at h
        injection h with h
        injection h with h1 h2
        exact .inl ⟨hk, h1.symm, h2.symm⟩
def RetAlt (W : World) (rb : Nat) (r : RS) (l : List Lx) (a : List ByteArray) (e : Ending) (w' : World) : Prop :=
  ∃ v, e = .returned v ∧ Own1 w' W.heap.size 9 v (strs a) ∧ RBox rb { r with at' := r.at' + a.length, alts := r.alts + 1 } l w' ∧ Keep rb W w'
theorem RBox.put5 (h : RBox rb r l W) (i : Int) : RBox rb { r with alts := i } l (W.setCell ⟨rb, 5, none⟩ (.int .i64 i)) :=
  ⟨h.1.put 5 _, h.2.1.below (Below.setCell (p := ⟨rb, 5, none⟩) (Below.refl rb W) (Nat.le_refl rb) _), h.2.2⟩
set_option maxRecDepth 100000 in
set_option maxHeartbeats 4000000 in
theorem alternative_any {a : List ByteArray} {m : List Lx} (h : RBox rb r l W) (ha : altF 7 [] (l.drop r.at') = some (a, m)) (h24 : r.alts ≠ 24) (h25 : 0 ≤ r.alts) (h26 : r.alts ≤ 24) (htx : ∀ x ∈ l, x.text.size ≤ maxLen) :
    Calls Tryz.prog 130 #[.pointer (some ⟨rb, 0, none⟩)] W (RetAlt W rb r l a) := by
  have hR := Lib.hid (fun (v : Value) (w' : World) (h1 : Own1 w' W.heap.size 9 v (strs a)) (h2 : RBox rb { r with at' := r.at' + a.length, alts := r.alts + 1 } l w') (h3 : Keep rb W w') => (show RetAlt W rb r l a (.returned v) w' from ⟨v, rfl, h1, h2, h3⟩))
  generalize hRR : RetAlt W rb r l a = RR at *
  replace hRR := Lib.hid hRR
  replace htx := Lib.hid htx
  have hrl := h.lt
  have c5 := h.1.cell 5
  have z5 := h.1.frozen 5
  have h1 := h.put5 (r.alts + 1)
  have hk1 : Keep rb W (W.setCell ⟨rb, 5, none⟩ (.int .i64 (r.alts + 1))) := (Keep.refl rb W).set 5 _
  have hne : (r.alts == 24) = false := by simp [h24]
  replace ha := Lib.hid ha
  clear h
  simp only [List.getElem?_toArray, List.getElem?_cons_zero, List.getElem?_cons_succ] at c5
  go_enter Tryz.func130, Tryz.ntmps130
  go_upto_region 5 with (fail)
  generalize W.setCell ⟨rb, 5, none⟩ (.int .i64 (r.alts + 1)) = W0 at *
  replace hne := Lib.hid hne
  go_loopg [3] 7 (fun gk s3 wr => ∃ (d : List ByteArray) (m1 : List Lx), Hid (l.drop (r.at' + d.length) = m1) ∧ Hid (altF gk d m1 = some (a, m)) ∧ Own1 wr W.heap.size 9 s3 (strs d) ∧ RBox rb { r with at' := r.at' + d.length, alts := r.alts + 1 } l wr ∧ Keep rb W wr ∧ d.length + gk = 7)
  case atStart => exact ⟨[], _, Lib.hid rfl, ha, Own1.nil _ _ _, h1, hk1, rfl⟩
  case round =>
    clear h1 hk1 ha
    obtain ⟨d, m1, hm1, hal, ho, hb, hk, hd7⟩ := hrel
    obtain ⟨f', x, m', rfl, hm2, hcase⟩ := alt_inv hal.out
    have hx : l[r.at' + d.length]? = some x := by
      have h0 : (l.drop (r.at' + d.length))[0]? = some x := by rw [hm1.out, hm2]; rfl
      rw [List.getElem?_drop] at h0
      exact h0
    have hm3 : Hid (l.drop (r.at' + d.length + 1) = m') := Lib.hid (by
      have h0 : (l.drop (r.at' + d.length)).drop 1 = m' := by rw [hm1.out, hm2]; rfl
      rw [List.drop_drop] at h0
      exact h0)
    have hO := Lib.hid (ok_any hb)
    have hPk := Lib.hid (peek_any hb hx)
    have hxt := htx.out x (List.mem_of_getElem? hx)
    rcases hcase with ⟨hkd, hda, _⟩ | ⟨hkd, hsc, hd6, hal2⟩
    · have hkf : (x.kind == 1) = false := by simp [hkd]
      subst hda
      clear hm1 hal hm3 hm2 hx hkd
      go_wp2_with (first
        | (go_at_call 88; refine hO.out.mono ?_; clear hO; rintro e w3 ⟨rfl, rfl⟩)
        | (go_at_call 126; refine hPk.out.mono ?_; clear hPk; rintro e w3 ⟨rfl, hb3⟩; have hf0 := field_lx0 x.kind x.text x.at'))
      obtain ⟨hb4, hk4⟩ := hb.keep hb3
      exact hR.out _ _ (ho.step hb3) hb4 (hk.trans hk4)
    · have hkt : (x.kind == 1) = true := by simp [hkd]
      have hxL : l[(r.at' + d.length)]? = some x := hx
      have hT := Lib.hid (fun (W1 : World) (h : RBox rb { r with at' := r.at' + d.length, alts := r.alts + 1 } l W1) => take_any h hxL)
      have hS := Lib.hid (fun w => rsmall_any x.text w hxt)
      have hC := Lib.hid (fun w => rcap_any x.text w hxt)
      generalize hsb : smallB x.text = sb at *
      generalize hcb : capB x.text = cb at *
      have hd6b : ((d.length : Int) == 6) = false := by simp; omega
      have hdl : (strs d).length ≤ 100 := by simp [strs]; omega
      replace hd6 := Lib.hid hd6
      clear hm1 hal hm2 hx hxL hkd hsb hcb
      go_upto_region 6 with (first
        | (go_at_call 88; refine hO.out.mono ?_; clear hO; rintro e w3 ⟨rfl, rfl⟩)
        | (go_at_call 126; refine hPk.out.mono ?_; clear hPk; rintro e w3 ⟨rfl, hb3⟩; have hf0 := field_lx0 x.kind x.text x.at'))
      obtain ⟨hb4, hk4⟩ := hb.keep hb3
      have hk5 := hk.trans hk4
      have ho4 := ho.step hb3
      clear hb3 hk4 hb hk ho
      have hP := Lib.hid (hT.out w3 hb4)
      clear hT hf0
      go_upto_region 7 with (go_at_call 122; refine hP.out.mono ?_; clear hP; rintro e w5 ⟨rfl, hb5, hk6⟩)
      have q : Blk (w5.alloc (.cells #[.int .i64 x.kind, .string x.text, .int .i64 x.at'] 124)) w5.heap.size 124 #[.int .i64 x.kind, .string x.text, .int .i64 x.at'] := Blk.new _ _ _
      obtain ⟨hb6, hk7⟩ := hb5.keep (W' := w5.alloc (.cells #[.int .i64 x.kind, .string x.text, .int .i64 x.at'] 124)) (bAlc (Below.refl _ _) _)
      have hk8 := (hk5.trans hk6).trans hk7
      have ho6 := (hk6.trans hk7).own1 ho4 hrl
      clear hk5 hk6 hk7 hb5 hb4 ho4
      generalize w5.alloc (.cells #[.int .i64 x.kind, .string x.text, .int .i64 x.at'] 124) = W2 at *
      generalize w5.heap.size = gx at *
      have d0 := q.cell 0
      have d1 := q.cell 1
      have d2 := q.cell 2
      simp only [List.getElem?_toArray, List.getElem?_cons_zero, List.getElem?_cons_succ] at d0 d1 d2
      have hsz := hk8.1.size
      obtain ⟨A3, c3, e3⟩ := own_sl ho6
      subst e3
      have hcond : Hid (sb = true ∨ (sb = false ∧ cb = true)) := Lib.hid (by cases sb <;> simp_all)
      clear hsc
      have hfin : ∀ (v' : Value) (w' : World), Own1 w' W.heap.size 9 v' (strs d ++ [.string x.text]) → (∀ W0, Below W.heap.size W0 (W2.alloc (.cells #[.string x.text] 9)) → Below W.heap.size W0 w') →
          ∃ (d2 : List ByteArray) (m2 : List Lx), Hid (l.drop (r.at' + d2.length) = m2) ∧ Hid (altF f' d2 m2 = some (a, m)) ∧ Own1 w' W.heap.size 9 v' (strs d2) ∧ RBox rb { r with at' := r.at' + d2.length, alts := r.alts + 1 } l w' ∧ Keep rb W w' ∧ d2.length + f' = 7 := by
        intro v' w' h1 h2
        have hB : Below W.heap.size W2 w' := h2 W2 ((Below.refl _ _).alloc hsz _)
        have e1 : r.at' + (d ++ [x.text]).length = r.at' + d.length + 1 := by simp; omega
        refine ⟨d ++ [x.text], m', Lib.hid (by rw [e1]; exact hm3.out), Lib.hid hal2, by rw [← strs_snoc]; exact h1, ?_, hk8.then hB (Nat.le_of_lt hrl), by simp; omega⟩
        have := hb6.low hB hrl
        rw [e1]
        exact this
      replace hfin := Lib.hid hfin
      replace hal2 := Lib.hid hal2
      rcases hcond.out with rfl | ⟨rfl, rfl⟩
      · go_wp2_with (first
          | (go_at_call 112; refine (hS.out _).mono ?_; clear hS; rintro e w7 ⟨rfl, rfl⟩)
          | (at_builtin; refine wpList_join1 _ rfl _ _ 22 rfl W.heap.size 9 _ 16 under23 info9 rfl _ _ rfl (ho6.alloc _) _ _ 1 1 [.string x.text] rfl (rd_blk (Blk.new _ _ _)) (by simp [Value.oneCell']) (by omega) (by simp) (by simp; omega) ?_; intro v' w1 hown1 hg1 hat1 hb1))
        go_roundg f'
        case measure => omega
        case rel => exact hfin.out _ _ hown1 hb1
      · go_wp2_with (first
          | (go_at_call 112; refine (hS.out _).mono ?_; clear hS; rintro e w7 ⟨rfl, rfl⟩)
          | (go_at_call 113; refine (hC.out _).mono ?_; clear hC; rintro e w7 ⟨rfl, rfl⟩)
          | (at_builtin; refine wpList_join1 _ rfl _ _ 22 rfl W.heap.size 9 _ 16 under23 info9 rfl _ _ rfl (ho6.alloc _) _ _ 1 1 [.string x.text] rfl (rd_blk (Blk.new _ _ _)) (by simp [Value.oneCell']) (by omega) (by simp) (by simp; omega) ?_; intro v' w1 hown1 hg1 hat1 hb1))
        go_roundg f'
        case measure => omega
        case rel => exact hfin.out _ _ hown1 hb1
end
end Go.Proofs.YtnnkfgekiaaehaaGreat

/- The reader of the reference (layer 8): rule. -/
namespace Go.Proofs.YtnnkfgekiaaehaaGreat
open Go.ChangeShapes Go.WideShapes Go.ChangeAt Go.RowKit
set_option linter.unusedVariables false
theorem cell_of_heap {w w' : World} {b o : Nat} {u : Value} (h : w'.heap[b]? = w.heap[b]?) (hc : w.cell? ⟨b, o, none⟩ = some u) : w'.cell? ⟨b, o, none⟩ = some u := by
  unfold World.cell? at hc ⊢
  simp only [h]
  exact hc
theorem Keep.rdv {rb : Nat} {w w' : World} {S : Nat → Prop} {v : Value} {d : Dat} (h : Keep rb w w') (hv : RdX w S v d) (hS : ∀ b, S b → b ≠ rb) : RdX w' S v d :=
  hv.frame (fun _ h => h) fun b o u hs hc => cell_of_heap (h.2 b (cellx_lt hc) (hS b hs)) hc
theorem Keep.owv {rb : Nat} {w w' : World} {base : Nat} {S : Nat → Prop} {e : TypeId} {k : Nat} {v : Value} {rows : List (List Dat)} (h : Keep rb w w') (hv : OwV w base S e k v rows) (hS : ∀ b, S b → b ≠ rb) (hb : rb < base) : OwV w' base S e k v rows :=
  hv.frame h.1.size (fun _ h => h) (fun g hg => h.2 g (hv.lt g hg).2 (by have := (hv.lt g hg).1; omega)) fun b o u hs _ hc => cell_of_heap (h.2 b (cellx_lt hc) (hS b hs)) hc
theorem OwV.reads' {w : World} {base : Nat} {S S' : Nat → Prop} {e : TypeId} {k : Nat} {v : Value} {rows : List (List Dat)} (h : OwV w base S e k v rows) (hS : ∀ b, b < w.heap.size → S b → S' b) (hb : ∀ b, base ≤ b → b < w.heap.size → S' b) : RdX w S' v (.sl k rows) :=
  h.reads.mono fun b hs => by
    rcases hs.2 with h1 | h1
    · exact hS b hs.1 h1
    · exact hb b (h.lt b h1).1 hs.1
def SB (rb : Nat) (r : RS) (l : List Lx) (ts : List ByteArray) (rs : List Rule) (W : World) : Prop :=
  RBox rb r l W ∧ RdX W (fun b => b < W.heap.size ∧ rb < b ∧ r.R.ownBlock ≠ some b) r.T (strsV ts) ∧ OwV W (rb + 1) (fun b => rb < b) 133 2 r.R (rs.map ruleV)
def RetRule (W : World) (rb : Nat) (r : RS) (l : List Lx) (ts : List ByteArray) (rs : List Rule) (x : Rule) (m : List Lx) (e : Ending) (w' : World) : Prop :=
  e = .returned (.tuple #[]) ∧ ∃ R i, l.drop i = m ∧ SB rb { r with at' := i, alts := nAlts (rs ++ [x]), R := R } l ts (rs ++ [x]) w' ∧ Below rb W w' ∧ (∀ k, k < W.heap.size → k ≠ rb → r.R.ownBlock ≠ some k → w'.heap[k]? = W.heap[k]?) ∧ (∀ k, R.ownBlock = some k → r.R.ownBlock = some k ∨ W.heap.size ≤ k)
theorem name_inv {cap : Bool} {m m' : List Lx} {s : ByteArray} (h : nameF cap m = some (s, m')) : ∃ x, m = x :: m' ∧ s = x.text ∧ x.kind = 1 ∧ (if cap = true then capB x.text else smallB x.text) = true := by
  cases m with
  | nil => cases h
  | cons x m2 =>
    have h : (if x.kind = 1 ∧ (if cap = true then capB x.text else smallB x.text) = true then some (x.text, m2) else none) = some (s, m') := h
    by_cases hc : x.kind = 1 ∧ (if cap = true then capB x.text else smallB x.text) = true
    · rw [if_pos hc] at h
      injection h with h
      injection h with h1 h2
      exact ⟨x, by rw [h2], h1.symm, hc.1, hc.2⟩
    · rw [if_neg hc] at h
      cases h
theorem must_inv {k : Int} {t : ByteArray} {m m' : List Lx} (h : mustF k t m = some m') : ∃ x, m = x :: m' ∧ x.kind = k ∧ x.text = t := by
  cases m with
  | nil => cases h
  | cons x m2 =>
    unfold mustF at h
    dsimp only at h
    split at h
    · rename_i hc
      injection h with h
      exact ⟨x, by rw [h], hc.1, hc.2⟩
    · cases h
theorem drop_head {l : List Lx} {i : Nat} {x : Lx} {m : List Lx} (h : l.drop i = x :: m) : l[i]? = some x ∧ l.drop (i + 1) = m := by
  have h0 : (l.drop i)[0]? = some x := by rw [h]; rfl
  have h1 : (l.drop i).drop 1 = m := by rw [h]; rfl
  rw [List.getElem?_drop] at h0
  rw [List.drop_drop] at h1
  exact ⟨h0, h1⟩
theorem alt_len {f : Nat} {d a : List ByteArray} {m m' : List Lx} : ∀ {f : Nat} {d m}, altF f d m = some (a, m') → ∃ n, a.length = d.length + n ∧ m' = m.drop n := by
  intro f
  induction f with
  | zero => intro d m h; simp [altF] at h
  | succ f ih =>
    intro d m h
    obtain ⟨f', x, m2, h1, rfl, hc⟩ := alt_inv h
    injection h1 with h1; subst h1
    rcases hc with ⟨_, rfl, rfl⟩ | ⟨_, _, _, h2⟩
    · exact ⟨0, rfl, rfl⟩
    · obtain ⟨n, h3, h4⟩ := ih h2
      refine ⟨n + 1, by rw [h3]; simp; omega, h4⟩
theorem next_true {t : ByteArray} {l : List Lx} (h : (nextF t l).1 = true) : (nextF t l).2 = l.drop 1 := by
  cases l with
  | nil => cases h
  | cons x r =>
    have e : nextF t (x :: r) = if x.kind = 3 ∧ x.text = t then (true, r) else (false, x :: r) := rfl
    rw [e] at h ⊢
    by_cases hc : x.kind = 3 ∧ x.text = t
    · rw [if_pos hc]; rfl
    · rw [if_neg hc] at h; cases h
theorem next_false {t : ByteArray} {l : List Lx} (h : (nextF t l).1 = false) : (nextF t l).2 = l := by
  cases l with
  | nil => rfl
  | cons x r =>
    have e : nextF t (x :: r) = if x.kind = 3 ∧ x.text = t then (true, r) else (false, x :: r) := rfl
    rw [e] at h ⊢
    by_cases hc : x.kind = 3 ∧ x.text = t
    · rw [if_pos hc] at h; cases h
    · rw [if_neg hc]
theorem RBox.put10 {rb : Nat} {r : RS} {l : List Lx} {W : World} (h : RBox rb r l W) (v : Value) : RBox rb { r with R := v } l (W.setCell ⟨rb, 10, none⟩ v) :=
  ⟨h.1.put 10 _, h.2.1.below (Below.setCell (p := ⟨rb, 10, none⟩) (Below.refl rb W) (Nat.le_refl rb) _), h.2.2⟩
theorem under78 : Tryz.prog.underlying 78 = some (.slice 133) := by kernel_rfl
theorem under131 : Tryz.prog.underlying 131 = some (.slice 22) := by kernel_rfl
theorem info133 : (Tryz.prog.info? 133).map (fun i => (i.zero, i.size, i.bytes)) = some (some (.agg #[.string ByteArray.empty, .slice none 0 0]), 2, 40) := by kernel_rfl
theorem info22 : (Tryz.prog.info? 22).map (fun i => (i.zero, i.size, i.bytes)) = some (some (.slice none 0 0), 1, 24) := by kernel_rfl
theorem alts_inv {f n : Nat} {d az : List (List ByteArray)} {l m : List Lx} (h : altsF f n d l = some (az, m)) :
    ∃ f' a l', f = f' + 1 ∧ n ≠ 24 ∧ altF 7 [] l = some (a, l') ∧ (((nextF sgBar l').1 = true ∧ altsF f' (n + 1) (d ++ [a]) (nextF sgBar l').2 = some (az, m)) ∨ ((nextF sgBar l').1 = false ∧ az = d ++ [a] ∧ m = (nextF sgBar l').2)) := by
  cases f with
  | zero => simp [altsF] at h
  | succ f =>
    unfold altsF at h
    by_cases hn : n = 24
    · rw [if_pos hn] at h; cases h
    · rw [if_neg hn] at h
      cases ha : altF 7 [] l with
      | none => rw [ha] at h; cases h
      | some q =>
        obtain ⟨a, l'⟩ := q
        rw [ha] at h
        dsimp only at h
        refine ⟨f, a, l', rfl, hn, rfl, ?_⟩
        by_cases hb : (nextF sgBar l').1 = true
        · rw [if_pos hb] at h
          exact .inl ⟨hb, h⟩
        · rw [if_neg hb] at h
          injection h with h
          injection h with h1 h2
          exact .inr ⟨by simpa using hb, h1.symm, h2.symm⟩
theorem rule_inv {rs : List Rule} {l m : List Lx} {x : Rule} (h : ruleF rs l = some (x, m)) :
    ∃ y z l1 l2 l3, l = y :: l1 ∧ y.kind = 1 ∧ capB y.text = true ∧ x.1 = y.text ∧ hasN x.1 (rs.map (·.1)) = false ∧ rs.length ≠ 8 ∧ mustF 3 sgEq l1 = some l2 ∧ altsF 25 (nAlts rs) [] l2 = some (x.2, l3) ∧ mustF 3 sgSemi l3 = some m ∧ z = y := by
  unfold ruleF at h
  cases hn : nameF true l with
  | none => rw [hn] at h; cases h
  | some q =>
    obtain ⟨s, l1⟩ := q
    rw [hn] at h
    obtain ⟨y, rfl, rfl, hy1, hy2⟩ := name_inv hn
    dsimp only at h
    by_cases hc : hasN y.text (rs.map (·.1)) = true ∨ rs.length = 8
    · rw [if_pos hc] at h; cases h
    · rw [if_neg hc] at h
      cases h1 : mustF 3 sgEq l1 with
      | none => rw [h1] at h; cases h
      | some l2 =>
        rw [h1] at h
        dsimp only at h
        cases h2 : altsF 25 (nAlts rs) [] l2 with
        | none => rw [h2] at h; cases h
        | some q =>
          obtain ⟨az, l3⟩ := q
          rw [h2] at h
          dsimp only at h
          cases h3 : mustF 3 sgSemi l3 with
          | none => rw [h3] at h; cases h
          | some l4 =>
            rw [h3] at h
            injection h with h
            injection h with h4 h5
            subst h4 h5
            refine ⟨y, y, l1, l2, l3, rfl, hy1, hy2, rfl, ?_, fun e => hc (.inr e), h1, h2, h3, rfl⟩
            cases hh : hasN y.text (rs.map (·.1)) with
            | true => exact absurd (.inl hh) hc
            | false => rfl
theorem nAlts_snoc (rs : List Rule) (x : Rule) : nAlts (rs ++ [x]) = nAlts rs + x.2.length := by simp [nAlts]
end Go.Proofs.YtnnkfgekiaaehaaGreat
