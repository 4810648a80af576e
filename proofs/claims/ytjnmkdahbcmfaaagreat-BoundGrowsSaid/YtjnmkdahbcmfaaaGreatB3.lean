/- Walks and plain laws, part 3 of 30: slices.AppendSeq(nil, seq) and slices.Collect over looks, for whatever iterator; slices.Values over looks; first.sorted; FIRST of the program, plainly: sets of looks as predicates; first: then; first.sorted: a closure over the sorted slice; first: fold, of; first: of; first: sets; Grammars in memory, with nothing said of capacities; first: sets, the walk; first.All, first.Of: the walks; first.Of: the walk; FIRST reckoned: the least sets, by rounds. Conditions: none beyond those that each theorem states. -/
import Derived.Test.YtjnmkdahbcmfaaaGreatB2
import Derived.WalkMore
/- slices.AppendSeq(nil, seq) and slices.Collect over looks, for whatever iterator. -/
namespace Go.Proofs.YtjnmkdahbcmfaaaGreat
open Go.RowKit Go.Shelf
set_option linter.unusedVariables false
attribute [local go_sem] Oper.semAt_some
def KpB (B : Nat) (A C : World) : Prop := KeepsWalks A C ∧ Below B A C
theorem kpB_t {B : Nat} {A C D : World} (h : KpB B A C) (k : KpB B C D) : KpB B A D := ⟨h.1.trans k.1, h.2.trans k.2⟩
theorem kpB_b {w : World} {B : Nat} (hn : B ≤ w.heap.size) (W : World) (l : Nat) (o o' : Obj) (hl : w.heap.size ≤ l) (h : W.heap[l]? = some o) (hc : o.isCells = false) (hw : o.isWalk = false) : KpB B W (W.putObj l o') := ⟨walksK_b (w := w) W l o o' hl h hc hw, belowK_b hn W l o o' hl h hc hw⟩
theorem seqK_mono {α : Type} {F : Fence} {n : Nat} {P : Program} {g : Nat} {lb : Array Value} {encs : α → Array Value} {Kp Kp' : World → World → Prop} {S Sp : List α → Prop} {N : Nat} {w : World} (hK : ∀ A B, Kp' A B → Kp A B)
    (h : SeqStopsK F n P g lb encs Kp S Sp N w) : SeqStopsK F n P g lb encs Kp' S Sp N w := fun l J Jx W hb hJ hJx hY h0 =>
  h l J Jx W hb hJ hJx (fun pre x W1 hj hl => (hY pre x W1 hj hl).mono fun e W' hq => hq.imp (fun hq => ⟨hq.1, hq.2.1, hK _ _ hq.2.2⟩) id) h0
def ApI (w : World) (pre : List Lk) (W : World) : Prop := (∃ v, Boxed W w.heap.size 147 v ∧ W.ownsRow w.heap.size 45 5 v pre.length (cellsL pre) ∧ True) ∧ Below w.heap.size w W
theorem apI_own {B : Nat} (w : World) (h : w.heap.size ≤ B) : OwnFrom B (ApI w) := OwnFrom.and (Own.from (holdsRow_own w.heap.size w.heap.size 147 45 5 (fun l : List Lk => l.length) (fun l => cellsL l) (fun _ _ => True)) _) (ownFrom_below (Nat.le_refl _) h)
def RetAp (w : World) (S : List Lk → Prop) (e : Ending) (w' : World) : Prop := ∃ v out, e = .returned v ∧ S out ∧ OwnL w' w.heap.size v out ∧ Below w.heap.size w w'
set_option maxRecDepth 100000 in
set_option maxHeartbeats 4000000 in
theorem appendSeq_any (gf : Nat) (lb : Array Value) (S Sp : List Lk → Prop) (N : Nat) (w : World) (eg : ∀ args w, (callFunc gf args).run Tryz.prog w = .ok (.enter gf args) w)
    (hseq : ∀ w1, Below w.heap.size w w1 → SeqStopsK Fence.wide 5 Tryz.prog gf lb encL (KpB w.heap.size) S Sp N w1) (hlen : N ≤ 900000) :
    Calls Tryz.prog 289 #[.slice none 0 0, .func (.func gf) #[] lb] w (RetAp w S) := by
  refine (callsIn_wide (n := 6)).1 ?_
  refine callsIn_of_wp_marks Tryz.func289 rfl trivial ?_ rfl
  simp only [Tryz.ntmps289, List.size_toArray, List.length_cons, List.length_nil, Nat.reduceAdd, Nat.reduceSub, Array.replicate_succ, Array.replicate_zero, List.push_toArray, List.append_toArray, List.nil_append, List.cons_append]
  have hseq' := Lib.hid hseq
  clear hseq
  gi_wp2
  have hb1 : Below w.heap.size w (w.alloc (.cells #[.slice none 0 0] 147)) := bAlc (Below.refl _ _) _
  have hI0 : ApI w [] (w.alloc (.cells #[.slice none 0 0] 147)) := ⟨⟨_, Boxed.new _ _ _, OwnL.nil _ _, trivial⟩, bAlc (Below.refl _ _) _⟩
  have hs1 : (w.alloc (.cells #[.slice none 0 0] 147)).heap.size = w.heap.size + 1 := by simp
  have hlen' := Lib.hid hlen
  generalize w.alloc (.cells #[.slice none 0 0] 147) = w1 at *
  have hw1 : w.heap.size ≤ w1.heap.size := by omega
  refine wpIn_rangeFunc_ownH (F := Fence.wide) rfl (by omega) (gf := gf) (lb := lb) rfl trivial eg
    (hseq'.out w1 hb1) kpB_t (kpB_b hw1) (Below.refl _ _) (fun _ => rfl)
    (ApI w) (fun _ _ _ => False) (apI_own w hw1) (fun _ _ _ _ _ h _ _ => h) hI0
    (fun x a' W => ∃ Bx, w.heap.size < Bx ∧ Blk W Bx 45 x.cells ∧ ∃ (u7 u8 u9 u10 u11 u12 : Value), a' = { tmps := #[.slice none 0 0, .func (.func gf) #[] lb, .pointer (some ⟨w.heap.size, 0, none⟩), undef, .slice none 0 0, .pointer (some ⟨Bx, 0, none⟩), .func (.func gf) #[] lb, u7, u8, u9, u10, u11, u12], defers := [] })
    (fun x a' _ X Y row hs hg hr => by obtain ⟨Bx, h1, h2, h3⟩ := hs; exact ⟨Bx, h1, blk_own Bx 45 (fun (_ : Unit) => x.cells) () X Y row h2 hg (fun r e => (hr r e).2), h3⟩)
    ?assign ?body ?done ?stop
  case assign =>
    rintro l pre x W K ⟨⟨v, hv, hr, _⟩, hb⟩ hK
    dsimp only [encL]
    unfold Lk.v
    gi_wp2
    exact hK _ _ ((KeepsOthers.alloc _ _).from _) ⟨(KeepsOthers.alloc _ _).walks, (Below.refl _ W).alloc hb.size _⟩ ⟨⟨v, hv.alloc _, hr.alloc _, trivial⟩, bAlc hb _⟩ ⟨W.heap.size, by have := hv.lt; omega, Blk.new W 45 _, _, _, _, _, _, _, rfl⟩
  case body =>
    rintro l pre x a' W hl ⟨r, hr⟩ ⟨⟨v, hv, hrow, _⟩, hb⟩ ⟨Bx, hBx, bX, u7, u8, u9, u10, u11, u12, rfl⟩ hlt
    have p0 := bX.cell 0
    have p1 := bX.cell 1
    have p2 := bX.cell 2
    have p3 := bX.cell 3
    have p4 := bX.cell 4
    simp only [Lk.cells, List.getElem?_toArray, List.getElem?_cons_zero, List.getElem?_cons_succ] at p0 p1 p2 p3 p4
    have r0 := hv.cell
    have f0 := hv.frozen
    have hlt' := hlen'.out
    have hrow' := Lib.hid hrow
    clear hr hseq'
    gi_wp2_with (first
      | (gi_at_builtin; refine wpListIn_pushL _ rfl _ _ rfl w.heap.size v pre rfl (OwnL.alloc hrow'.out _) W.heap.size x rfl (Blk.new W 45 x.cells) (by omega) (by have := hb.size; simp; omega) ?_; intro v' w3 hown' hg3
         have hA := Boxed.appended (tmp := .cells x.cells 45) hv (by decide) hrow'.out hb.size (Nat.le_refl _) hown' hg3
         obtain ⟨g', cap', rfl⟩ := ownsRow_succ (k := pre.length) (by have := hown'; unfold OwnL at this; rw [List.length_append, List.length_singleton] at this; exact this)
         have r1 := hA.1.cell
         have f1 := hA.1.frozen
         replace hown' := Lib.hid hown'
         replace hA := Lib.hid hA
         go_frame)
      | gi_in)
    obtain ⟨a1, a2, a3, a4, a5⟩ := hA.out
    exact ⟨a4.from _, ⟨a4.walks, a5⟩, ⟨_, a2, a3, trivial⟩, hb.trans a5⟩
  case done =>
    rintro D ys W hD hS ⟨⟨v, hv, hrow, _⟩, hb⟩ hK
    have r0 := hv.cell
    have f0 := hv.frozen
    gi_wp2
    refine ⟨by simp, .inl ⟨_, _, rfl, run_takeDeferred hK, ?_⟩⟩
    exact ⟨_, results_tmp rfl _ _ _, v, ys, rfl, hS, ownsRow_putObj hrow _ hK rfl, hb.trans (belowK_b (w := w1) hw1 _ D _ _ hD hK rfl rfl)⟩
  case stop =>
    rintro D c pre W hD _ hf
    exact hf.elim
theorem collect_any (gf : Nat) (lb : Array Value) (S Sp : List Lk → Prop) (N : Nat) (w : World) (eg : ∀ args w, (callFunc gf args).run Tryz.prog w = .ok (.enter gf args) w)
    (hseq : ∀ w1, Below w.heap.size w w1 → SeqStopsK Fence.wide 5 Tryz.prog gf lb encL (KpB w.heap.size) S Sp N w1) (hlen : N ≤ 900000) :
    Calls Tryz.prog 269 #[.func (.func gf) #[] lb] w (RetAp w S) := by
  have hC := Lib.hid (appendSeq_any gf lb S Sp N w eg hseq hlen)
  clear hseq eg
  go_enter Tryz.func269, Tryz.ntmps269
  go_wp2_with (go_at_call 289; refine hC.out.mono ?_; rintro e w2 ⟨v, out, rfl, hS, ho, hb⟩)
  go_ret
  exact ⟨v, out, rfl, hS, ho, hb⟩
end Go.Proofs.YtjnmkdahbcmfaaaGreat

/- slices.Values over looks; first.sorted. -/
namespace Go.Proofs.YtjnmkdahbcmfaaaGreat
open Go.RowKit Go.Shelf
set_option linter.unusedVariables false
attribute [local go_sem] Oper.semAt_some
theorem take_succ_get {l : List Lk} {k : Nat} {x : Lk} (h : l[k]? = some x) : l.take (k + 1) = l.take k ++ [x] := by
  rw [List.take_add_one, h]; rfl
set_option maxRecDepth 100000 in
set_option maxHeartbeats 2000000 in
theorem values_stops (n : Nat) (hn : 1 ≤ n) (Bs n₀ : Nat) (A : Option Addr) (len c : Nat) (l : List Lk) (w : World) (hBs : w.cell? ⟨Bs, 0, none⟩ = some (.slice A len c)) (hlt : Bs < w.heap.size) (hn₀ : n₀ ≤ w.heap.size) (hR : RdL w n₀ A len l) (hlen : len ≤ 900000) :
    SeqStopsK Fence.wide n Tryz.prog 312 #[.pointer (some ⟨Bs, 0, none⟩)] encL (Below n₀) (fun out => out = l) (fun pre => True) len w := by
  intro lb J Jx W hW hJ _ hY h0
  have hc := (hW.cell (p := ⟨Bs, 0, none⟩) hlt).trans hBs
  have hRW : RdL W n₀ A len l := hR.below (hW.mono hn₀)
  have hn0 : n₀ ≤ W.heap.size := Nat.le_trans hn₀ hW.size
  have hll := Lib.hid hR.1
  refine callsIn_of_wp Tryz.func312 rfl trivial ?_ rfl
  simp only [Tryz.ntmps312, List.size_toArray, List.length_cons, List.length_nil, Nat.reduceAdd, Nat.reduceSub, Array.replicate_succ, Array.replicate_zero, List.push_toArray, List.append_toArray, List.nil_append, List.cons_append]
  replace hJ := Lib.hid hJ
  replace hY := Lib.hid hY
  clear hR hBs hW
  gi_wp2
  gi_loopg [7] len (fun gk s7 wr => ∃ k : Nat, s7 = .int .i64 k ∧ k + gk = len ∧ J (l.take k) wr ∧ Below n₀ W wr ∧ W.heap.size ≤ wr.heap.size)
  case atStart => exact ⟨0, rfl, by omega, h0, Below.refl _ _, Nat.le_refl _⟩
  case round =>
    obtain ⟨k, rfl, hk, hJs, hnx, hge⟩ := hrel
    replace hk := Lib.hid hk
    by_cases hkl : k < len
    · have hil : k < l.length := by have := hll.out; omega
      have hx : l[k]? = some l[k] := List.getElem?_eq_getElem hil
      obtain ⟨b, off, rfl, hbt, x0, x1, x2, x3, x4⟩ := (hRW.below hnx).get hx
      have hsu := Lib.hid (take_succ_get hx)
      generalize hy : l[k] = x at *
      replace hy := Lib.hid hy
      replace hx := Lib.hid hx
      have hbA : Below n₀ wr (lay5 wr x) := (lay5_below wr x).mono (by omega)
      have hJ3 : J (l.take k) (lay5 wr x) := hJ.out _ wr _ none hJs (grown_of_below (lay5_below wr x)) (by simp)
      obtain ⟨fn, tmps, assign, body, hy, hR2⟩ := hY.out (l.take k) x _ hJ3 (by rw [List.length_take]; have := hll.out; omega)
      unfold encL Lk.v at hy
      unfold lay5 at hy hR2 hbA
      replace hR2 := Lib.hid hR2
      replace hbA := Lib.hid hbA
      have hk2 := Lib.hid (show k + 1 + (len - (k + 1)) = len by omega)
      clear hJ3
      gi_wp2
      refine hR2.out.mono ?_
      rintro e W3 (⟨rfl, hJ3, hk3⟩ | ⟨rfl, hJx3⟩)
      · gi_wp2
        go_roundg (len - (k + 1))
        case measure => have := hk.out; omega
        case rel => exact ⟨k + 1, by go_num, hk2.out, by rw [hsu.out]; exact hJ3, hnx.trans (hbA.out.trans hk3), Nat.le_trans hge (hbA.out.trans hk3).size⟩
      · gi_wp2
        refine bodyPost_ret (results_none rfl _ _ _) rfl ?_
        exact ⟨⟨_, rfl⟩, .inr ⟨l.take k ++ [x], trivial, hJx3⟩⟩
    · obtain rfl : k = len := by have := hk.out; omega
      have hfull : l.take k = l := List.take_of_length_le (by have := hll.out; omega)
      rw [hfull] at hJs
      gi_wp2
      go_end0
      exact ⟨⟨_, rfl⟩, .inl ⟨l, rfl, hJs⟩⟩
theorem egV : ∀ args w, (callFunc 312 args).run Tryz.prog w = .ok (.enter 312 args) w := enters_of Tryz.func312 (by kernel_rfl) rfl
theorem egK : ∀ args w, (callFunc 309 args).run Tryz.prog w = .ok (.enter 309 args) w := enters_of Tryz.func309 (by kernel_rfl) rfl
theorem values_any (A : Option Addr) (len c : Nat) (w : World) : Calls Tryz.prog 293 #[.slice A len c] w fun e w' => e = .returned (.func (.func 312) #[] #[.pointer (some ⟨w.heap.size, 0, none⟩)]) ∧ w' = w.alloc (.cells #[.slice A len c] 147) := by
  refine opq fun RR hR => ?_
  go_enter Tryz.func293, Tryz.ntmps293
  go_wp2_with fail
  exact hR.out _ _ ⟨rfl, rfl⟩
theorem keys_any (b : Nat) (w : World) : Calls Tryz.prog 290 #[.map (some b)] w fun e w' => e = .returned (.func (.func 309) #[] #[.pointer (some ⟨w.heap.size, 0, none⟩)]) ∧ w' = w.alloc (.cells #[.map (some b)] 279) := by
  refine opq fun RR hR => ?_
  go_enter Tryz.func290, Tryz.ntmps290
  go_wp2_with fail
  exact hR.out _ _ ⟨rfl, rfl⟩
end Go.Proofs.YtjnmkdahbcmfaaaGreat

/- FIRST of the program, plainly: sets of looks as predicates. -/
namespace Go.Proofs.YtjnmkdahbcmfaaaGreat
open Go.ChangeShapes Go.WideShapes Go.ChangeAt Go.RowKit
set_option linter.unusedVariables false
def thenP (k : Int) (J : Lk → Lk → Lk) (A B : Lk → Prop) (z : Lk) : Prop := ∃ x, A x ∧ ((x.n = k ∧ z = x ∧ ∃ y, B y) ∨ (x.n ≠ k ∧ ∃ y, B y ∧ z = J x y))
def oneK (s : Int) : Lk := ⟨1, s, 0, 0, 0⟩
def nilK : Lk := ⟨0, 0, 0, 0, 0⟩
def symP (T : Nat → Lk → Prop) (s : Int) (z : Lk) : Prop := if s < 16 then z = oneK s else T (s - 16).toNat z
def ofP (k : Int) (J : Lk → Lk → Lk) (T : Nat → Lk → Prop) : (Lk → Prop) → List Int → Lk → Prop
  | A, [] => A
  | A, s :: r => ofP k J T (thenP k J A (symP T s)) r
theorem thenP_mono {k : Int} {J : Lk → Lk → Lk} {A A' B B' : Lk → Prop} (h1 : ∀ z, A z → A' z) (h2 : ∀ z, B z → B' z) (z : Lk) (h : thenP k J A B z) : thenP k J A' B' z := by
  obtain ⟨x, hx, h⟩ := h
  refine ⟨x, h1 x hx, ?_⟩
  rcases h with ⟨a, b, y, hy⟩ | ⟨a, y, hy, b⟩
  · exact .inl ⟨a, b, y, h2 y hy⟩
  · exact .inr ⟨a, y, h2 y hy, b⟩
theorem symP_mono {T T' : Nat → Lk → Prop} (h : ∀ i z, T i z → T' i z) (s : Int) (z : Lk) (hz : symP T s z) : symP T' s z := by
  unfold symP at *
  split
  · rename_i hs; rw [if_pos hs] at hz; exact hz
  · rename_i hs; rw [if_neg hs] at hz; exact h _ _ hz
theorem ofP_mono {k : Int} {J : Lk → Lk → Lk} {T T' : Nat → Lk → Prop} (h : ∀ i z, T i z → T' i z) : ∀ (l : List Int) (A A' : Lk → Prop), (∀ z, A z → A' z) → ∀ z, ofP k J T A l z → ofP k J T' A' l z
  | [], A, A', h1, z, hz => h1 z hz
  | s :: l, A, A', h1, z, hz => ofP_mono h l _ _ (fun z hz => thenP_mono h1 (symP_mono h s) z hz) z hz
def Closed1 (k : Int) (J : Lk → Lk → Lk) (T : Nat → Lk → Prop) (p : Pr) : Prop := ∀ z, ofP k J T (· = nilK) p.right z → T (p.left - 16).toNat z
def ClosedP (k : Int) (J : Lk → Lk → Lk) (T : Nat → Lk → Prop) (ps : List Pr) : Prop := ∀ p ∈ ps, Closed1 k J T p
theorem done_snoc {k : Int} {J : Lk → Lk → Lk} {l : List Lk} {x : Lk} {B : Lk → Prop} (z : Lk) : thenP k J (· ∈ l ++ [x]) B z ↔ thenP k J (· ∈ l) B z ∨ ((x.n = k ∧ z = x ∧ ∃ y, B y) ∨ (x.n ≠ k ∧ ∃ y, B y ∧ z = J x y)) := by
  constructor
  · rintro ⟨y, hy, h⟩
    rcases List.mem_append.1 hy with hy | hy
    · exact .inl ⟨y, hy, h⟩
    · rw [List.mem_singleton.1 hy] at h; exact .inr h
  · rintro (⟨y, hy, h⟩ | h)
    · exact ⟨y, List.mem_append_left _ hy, h⟩
    · exact ⟨x, by simp, h⟩
end Go.Proofs.YtjnmkdahbcmfaaaGreat

/- first: then. -/
namespace Go.Proofs.YtjnmkdahbcmfaaaGreat
open Go.ChangeShapes Go.WideShapes Go.ChangeAt Go.RowKit
set_option linter.unusedVariables false
set_option maxRecDepth 100000
theorem underLM : Tryz.prog.underlying 279 = some (.map 45 4) := by kernel_rfl
theorem gbel {W W' : World} (h : Below W.heap.size W W') : W.grownBy W' none := ⟨h.os, h.tape, h.output, h.size, fun i hi _ => h.block i hi⟩
theorem wf64 {n : Int} (h0 : 0 ≤ n) (h1 : n ≤ 1000) : (Lit.int .i64 n).wf = true := by
  have e1 : IntKind.i64.min = -9223372036854775808 := by decide
  have e2 : IntKind.i64.max = 9223372036854775807 := by decide
  simp only [Lit.wf, e1, e2, Bool.and_eq_true, decide_eq_true_eq]; omega
theorem oneK_wf {s : Int} (h0 : 0 ≤ s) (h1 : s ≤ 1000) : (oneK s).wf := ⟨wf64 (by simp [oneK]) (by simp [oneK]), wf64 h0 h1, wf64 (by simp [oneK]) (by simp [oneK]), wf64 (by simp [oneK]) (by simp [oneK]), wf64 (by simp [oneK]) (by simp [oneK])⟩
theorem IterL.later {w w' : World} {b r : Nat} {s out : List Lk} (h : IterL w b r s out) (hb : Below w.heap.size w w') : IterL w' b r s out := h.grown (gbel hb) (by simp) (by simp)
theorem IterL.lts {w : World} {b r : Nat} {s out : List Lk} (h : IterL w b r s out) : b < w.heap.size ∧ r < w.heap.size ∧ b ≠ r := by
  obtain ⟨es, clock, since, seen, c0, h1, _, h3, _⟩ := h
  refine ⟨(Array.getElem?_eq_some_iff.1 h1).1, (Array.getElem?_eq_some_iff.1 h3).1, ?_⟩
  rintro rfl
  rw [h1] at h3; cases h3
theorem MapL.wfs {w : World} {b : Nat} {s : List Lk} (h : MapL w b s) : ∀ x ∈ s, x.wf := by
  obtain ⟨es, clock, h1, h2, h3, h4, h5⟩ := h
  exact h4
theorem IterL.sub {w : World} {b r : Nat} {s out : List Lk} (h : IterL w b r s out) : out.Nodup ∧ (∀ x ∈ out, x ∈ s) ∧ s.Nodup := by
  obtain ⟨es, clock, since, seen, c0, h1, h2, h3, h4, h5, h6, h7, h8, h9⟩ := h
  exact ⟨h8, h9, h2.2.2.2.1⟩
theorem sub_len {out s : List Lk} (h1 : out.Nodup) (h2 : ∀ x ∈ out, x ∈ s) : out.length ≤ s.length := by
  induction out generalizing s with
  | nil => simp
  | cons x out ih =>
    obtain ⟨hx, hn⟩ := List.nodup_cons.1 h1
    have hm := h2 x List.mem_cons_self
    have := ih (s := s.erase x) hn (fun y hy => (List.mem_erase_of_ne (by rintro rfl; exact hx hy)).2 (h2 y (List.mem_cons_of_mem _ hy)))
    rw [List.length_erase_of_mem hm] at this
    have : 0 < s.length := List.length_pos_of_mem hm
    simp; omega
structure TW (w : World) (tb : Nat) (cs : Array Value) (bA : Nat) (sA : List Lk) (bo : Nat) (o : List Lk) (W : World) : Prop where
  box : Blk W tb 276 cs
  after : MapL W bA sA
  out : MapL W bo o
  bel : Below w.heap.size w W
  ge : w.heap.size ≤ bo
  ne : tb ≠ bo
  na : bA ≠ bo
section
variable {w W W' : World} {tb bA bo : Nat} {cs : Array Value} {sA o o' : List Lk}
theorem MapL.lt {w : World} {b : Nat} {s : List Lk} (h : MapL w b s) : b < w.heap.size := by
  obtain ⟨es, clock, h1, h2⟩ := h
  exact (Array.getElem?_eq_some_iff.1 h1).1
theorem TW.step (h : TW w tb cs bA sA bo o W) (hb : Below W.heap.size W W') : TW w tb cs bA sA bo o W' :=
  ⟨h.box.step hb, h.after.grown (gbel hb) (by simp), h.out.grown (gbel hb) (by simp), bStep h.bel hb, h.ge, h.ne, h.na⟩
theorem TW.moved {r : Nat} (h : TW w tb cs bA sA bo o W) (hg : W.grownBy W' (some r)) (h1 : tb ≠ r) (h2 : bA ≠ r) (h3 : bo ≠ r) (h4 : w.heap.size ≤ r) : TW w tb cs bA sA bo o W' :=
  ⟨h.box.grown hg (by simpa using h1), h.after.grown hg (by simpa using h2), h.out.grown hg (by simpa using h3), h.bel.grown hg h.bel.size (fun k hk => by cases hk; exact h4), h.ge, h.ne, h.na⟩
theorem TW.turn (h : TW w tb cs bA sA bo o W) (ht : W.mapTurned W' bo) (hm : MapL W' bo o') : TW w tb cs bA sA bo o' W' :=
  ⟨h.box.grown (turned_grown ht) (by simpa using h.ne), h.after.grown (turned_grown ht) (by simpa using h.na), hm, h.bel.grown (turned_grown ht) h.bel.size (fun k hk => by cases hk; exact h.ge), h.ge, h.ne, h.na⟩
end
theorem mapl_new (w : World) (b : Nat) (hb : b = w.heap.size) : MapL (w.alloc (.map #[] 0)) b [] := by
  subst hb
  exact ⟨#[], 0, heap_alloc_new w _, by simp, by simp, by simp, by simp, (MapKept.stamped_iff _ _).2 (by simp)⟩
theorem put_mem {o : List Lk} {z y : Lk} : y ∈ (if z ∈ o then o else o ++ [z]) ↔ y ∈ o ∨ y = z := by
  split
  · rename_i h
    exact ⟨.inl, fun hh => hh.elim id fun e => e ▸ h⟩
  · simp
set_option maxHeartbeats 8000000 in
theorem then_any (k : Int) (J : Lk → Lk → Lk) (x1 x2 x3 x4 x5 : Value) (A : Option Addr) (n c : Nat) (ms : List Nat) (bB : Nat) (sB : List Lk) (sym : Int) (bA : Nat) (sA : List Lk) (w : World)
    (hB : MapL w bB sB) (hn : n ≤ 1000000) (hS : Rd1 w w.heap.size A n (ms.map fun b => Value.map (some b))) (hs0 : 0 ≤ sym) (hs3 : sym ≤ 1000) (hs1 : 16 ≤ sym → ms[(sym - 16).toNat]? = some bA ∧ MapL w bA sA) (hs2 : sym < 16 → sA = [oneK sym])
    (hJ : ∀ x ∈ sB, x.n ≠ k → ∀ y ∈ sA, (J x y).wf ∧ ∀ W, Calls Tryz.prog 308 #[.int .i64 k, x.v, y.v] W fun e W' => e = .returned (.tuple #[(J x y).v, .int .i64 0]) ∧ Below W.heap.size W W') :
    Calls Tryz.prog 306 #[.agg #[.int .i64 k, x1, x2, x3, x4, x5, .slice A n c], .map (some bB), .int .i64 sym] w fun e w' => ∃ b out, e = .returned (.map (some b)) ∧ w.heap.size ≤ b ∧ MapL w' b out ∧ Below w.heap.size w w' ∧ ∀ z, z ∈ out ↔ thenP k J (· ∈ sB) (· ∈ sA) z := by
  refine opq fun RR hR => ?_
  have hmm := @run_makeMap Tryz.prog
  have hJ' := Lib.hid hJ
  clear hJ
  by_cases h16 : sym < 16
  · have hs2' := hs2 h16
    clear hs1 hs2 hS
    have hwf : (oneK sym).wf := oneK_wf hs0 hs3
    go_enter Tryz.func306, Tryz.ntmps306
    go_upto_region 6 with (at_mapUpdate; refine wpList_lay _ underLM rfl _ _ _ rfl (w.heap.size + 1) [] (oneK sym) rfl rfl rfl (mapl_new _ _ (by simp)) hwf ?_; intro w5 hM5 ht5)
    have q5 : Blk w5 w.heap.size 276 #[.int .i64 k, x1, x2, x3, x4, x5, .slice A n c] := ((Blk.new w 276 _).alloc _).grown (turned_grown ht5) (by simp)
    have hB5 : MapL w5 bB sB := (hB.grown (gbel (bAlc (bAlc (Below.refl _ _) _) _)) (by simp)).grown (turned_grown ht5) (by have := hB.lt; simp; omega)
    have hb5 : Below w.heap.size w w5 := (bAlc (bAlc (Below.refl _ _) _) _).grown (turned_grown ht5) (by simp; omega) (fun k hk => by cases hk; omega)
    have hA5 : MapL w5 (w.heap.size + 1) sA := by rw [hs2']; simpa using hM5
    clear hM5 ht5 hs2' hB hwf hmm
    generalize w.heap.size + 1 = bA at *
    have hmm := @run_makeMap Tryz.prog
    have hT6 : TW w w.heap.size #[.int .i64 k, x1, x2, x3, x4, x5, .slice A n c] bA sA w5.heap.size [] (w5.alloc (.map #[] 0)) :=
      ⟨q5.alloc _, hA5.grown (gbel (bAlc (Below.refl _ _) _)) (by simp), mapl_new _ _ rfl, bAlc hb5 _, hb5.size, by have := q5.lt; omega, by have := hA5.lt; omega⟩
    have hB6 : MapL (w5.alloc (.map #[] 0)) bB sB := hB5.grown (gbel (bAlc (Below.refl _ _) _)) (by simp)
    have hbB : bB ≠ w5.heap.size := by have := hB5.lt; omega
    have hbo : w5.heap.size < (w5.alloc (.map #[] 0)).heap.size := by simp
    clear hB5 hA5 hb5 q5
    generalize w5.alloc (.map #[] 0) = w6 at *
    generalize w5.heap.size = bo at *
    go_wp2_with (at_range; refine wpList_range_look _ underLM rfl _ rfl bB sB rfl hB6 ?_; intro w7 hit hb7; go_frame)
    have hT7 := hT6.step hb7
    have htr : w.heap.size < w6.heap.size := hT6.box.lt
    have har : bA < w6.heap.size := hT6.after.lt
    clear hT6 hB6 hb7
    generalize w6.heap.size = r at *
    have hbT : Hid (bA < r ∧ w.heap.size < r) := Lib.hid ⟨har, htr⟩
    have hwr : w.heap.size ≤ r := by omega
    clear har htr
    obtain ⟨tb, htb⟩ : ∃ tb, tb = w.heap.size := ⟨_, rfl⟩
    rw [← htb] at hT7 ⊢
    have htr : tb < r := by rw [htb]; exact hbT.out.2
    have har : bA < r := hbT.out.1
    clear htb hbT
    go_loopg [] sB.length (fun gk wr => ∃ done o : List Lk, Hid (done.length + gk = sB.length) ∧ IterL wr bB r sB done ∧ TW w tb #[.int .i64 k, x1, x2, x3, x4, x5, .slice A n c] bA sA bo o wr ∧ Hid (∀ z, z ∈ o ↔ thenP k J (· ∈ done) (· ∈ sA) z))
    case atStart => exact ⟨[], [], Lib.hid (by simp), hit, hT7, Lib.hid (fun z => by simp [thenP])⟩
    case round =>
      clear hit hT7
      obtain ⟨done, o, hlen, hit, hT, hz⟩ := hrel
      have hl3 := Lib.hid hit.lts
      go_wp2_with (first
        | (at_next; refine wpList_next_look _ rfl _ rfl bB r sB done rfl hit ?_ ?_)
        | go_in)
      · intro hall
        have hall' := Lib.hid hall
        clear hall
        go_wp2_with fail
        refine hR.out _ _ ⟨bo, o, rfl, hT.ge, hT.out, hT.bel, fun z => (hz.out z).trans ⟨thenP_mono (fun x hx => hit.sub.2.1 x hx) (fun _ h => h) z, thenP_mono (fun x hx => hall'.out x hx) (fun _ h => h) z⟩⟩
      · intro x w2 hxs hxd hit2 hen hg2 hsz2
        have hT2 := hT.moved hg2 (by omega) (by omega) (by omega) hwr
        have hwx : Hid (x.wf) := Lib.hid (hit.map.wfs x hxs)
        unfold Lk.v at hen
        replace hsz2 := Lib.hid hsz2
        go_upto_region 9 with (fail)
        change Code.wp Tryz.prog _ _ _ (lay5 w2 x)
        have q9 := lay5_blk w2 x
        have h9o : w2.heap.size ≠ bo := by have := hT2.out.lt; omega
        have hT3 := hT2.step (lay5_below w2 x)
        have hit3 := hit2.later (lay5_below w2 x)
        clear hit hT hit2 hT2 hen hg2
        generalize lay5 w2 x = W3 at *
        generalize w2.heap.size = b9 at *
        have d0 := q9.cell 0
        have d1 := q9.cell 1
        have d2 := q9.cell 2
        have d3 := q9.cell 3
        have d4 := q9.cell 4
        simp only [Lk.cells, List.getElem?_toArray, List.getElem?_cons_zero, List.getElem?_cons_succ] at d0 d1 d2 d3 d4
        have e0 := hT3.box.cell 0
        simp only [List.getElem?_toArray, List.getElem?_cons_zero, List.getElem?_cons_succ] at e0
        have hlen2 : Hid (done.length + 1 ≤ sB.length) := Lib.hid (by have := sub_len hit3.sub.1 hit3.sub.2.1; simpa using this)
        clear hsz2 hl3
        by_cases hxk : x.n = k
        · have hxk1 : (x.n == k) = true := by simp [hxk]
          replace hxk := Lib.hid hxk
          by_cases hA0 : sA = []
          · have hln := mapl_len underLM hT3.after 3
            rw [hA0] at hln
            go_wp2_with fail
            go_roundg (sB.length - (done.length + 1))
            case measure => have := hlen.out; have := hlen2.out; omega
            case rel =>
              refine ⟨done ++ [x], o, Lib.hid (by have := hlen2.out; rw [List.length_append, List.length_singleton]; omega), hit3, hT3, Lib.hid fun z => (hz.out z).trans ⟨fun h => (done_snoc z).2 (.inl h), fun h => ?_⟩⟩
              rcases (done_snoc z).1 h with h | ⟨_, _, y, hy⟩ | ⟨_, y, hy, _⟩
              · exact h
              · simp [hA0] at hy
              · simp [hA0] at hy
          · have hln := mapl_len underLM hT3.after 3
            obtain ⟨y0, hy0⟩ := List.exists_mem_of_ne_nil _ hA0
            have hgt : (0 : Int) < sA.length := by have := List.length_pos_of_mem hy0; omega
            generalize (sA.length : Int) = sl at *
            replace hy0 := Lib.hid hy0
            clear hA0
            go_wp2_with (at_mapUpdate; refine wpList_lay _ underLM rfl _ _ _ rfl bo o x rfl rfl rfl hT3.out hwx.out ?_; intro w5 hM5 ht5)
            go_roundg (sB.length - (done.length + 1))
            case measure => have := hlen.out; have := hlen2.out; omega
            case rel =>
              refine ⟨done ++ [x], _, Lib.hid (by have := hlen2.out; rw [List.length_append, List.length_singleton]; omega), hit3.grown (turned_grown ht5) (by simpa using hbB) (by simp; omega), hT3.turn ht5 hM5, Lib.hid fun z => ?_⟩
              rw [put_mem, done_snoc, hz.out z]
              constructor
              · rintro (h | h)
                · exact .inl h
                · exact .inr (.inl ⟨hxk.out, h, y0, hy0.out⟩)
              · rintro (h | ⟨_, h, _⟩ | ⟨h, _⟩)
                · exact .inl h
                · exact .inr h
                · exact absurd hxk.out h
        · have hxk1 : (x.n == k) = false := by simp [hxk]
          have hxk2 := Lib.hid hxk
          have hxs2 := Lib.hid hxs
          clear hxk hxs hxd
          go_upto_region 12 with (fail)
          have e1 := Lib.hid e0
          clear d0 d1 d2 d3 d4 e0
          go_wp2_with (at_range; refine wpList_range_look _ underLM rfl _ rfl bA sA rfl hT3.after ?_; intro w4 hit4 hb4; go_frame)
          have hT4 := hT3.step hb4
          have hit5 := hit3.later hb4
          have q4 := q9.step hb4
          have hr2 : Hid (tb < W3.heap.size ∧ bA < W3.heap.size ∧ bo < W3.heap.size ∧ b9 < W3.heap.size ∧ bB < W3.heap.size ∧ r < W3.heap.size ∧ w.heap.size ≤ W3.heap.size) := Lib.hid ⟨hT3.box.lt, hT3.after.lt, hT3.out.lt, q9.lt, hit3.lts.1, hit3.lts.2.1, hT3.bel.size⟩
          clear hT3 hit3 q9 hb4 e1
          generalize W3.heap.size = r2 at *
          clear W3
          generalize wr = wE at *
          have hlt2 : tb < r2 ∧ bA < r2 ∧ bo < r2 ∧ b9 < r2 ∧ bB < r2 ∧ r < r2 ∧ w.heap.size ≤ r2 := hr2.out
          obtain ⟨g1, g2, g3, g4, g5, g6, g7⟩ := hlt2
          go_loopg [] sA.length (fun gk2 wr => ∃ done2 o2 : List Lk, Hid (done2.length + gk2 = sA.length) ∧ IterL wr bA r2 sA done2 ∧ IterL wr bB r sB (done ++ [x]) ∧ TW w tb #[.int .i64 k, x1, x2, x3, x4, x5, .slice A n c] bA sA bo o2 wr ∧ Blk wr b9 45 x.cells ∧ Hid (∀ z, z ∈ o2 ↔ z ∈ o ∨ ∃ y ∈ done2, z = J x y))
          case atStart => exact ⟨[], o, Lib.hid (by simp), hit4, hit5, hT4, q4, Lib.hid (fun z => by simp)⟩
          case round =>
            clear hit4 hit5 hT4 q4
            obtain ⟨done2, o2, hln, hi2, hi1, hT, q9, hz2⟩ := hrel
            go_wp2_with (first
              | (at_next; refine wpList_next_look _ rfl _ rfl bA r2 sA done2 rfl hi2 ?_ ?_)
              | go_in)
            · intro hall
              have hall' := Lib.hid hall
              clear hall
              go_wp2_with fail
              go_roundg (sB.length - (done.length + 1))
              case measure => have := hlen.out; have := hlen2.out; omega
              case rel =>
                refine ⟨done ++ [x], o2, Lib.hid (by have := hlen2.out; rw [List.length_append, List.length_singleton]; omega), hi1, hT, Lib.hid fun z => ?_⟩
                rw [hz2.out z, done_snoc, hz.out z]
                constructor
                · rintro (h | ⟨y, hy, h⟩)
                  · exact .inl h
                  · exact .inr (.inr ⟨hxk2.out, y, hi2.sub.2.1 y hy, h⟩)
                · rintro (h | ⟨h, _⟩ | ⟨_, y, hy, h⟩)
                  · exact .inl h
                  · exact absurd h hxk2.out
                  · exact .inr ⟨y, hall'.out y hy, h⟩
            · intro y w2 hys hyd hit2 hen hg2 hsz2
              have hT2 := hT.moved hg2 (by omega) (by omega) (by omega) g7
              have q2 := q9.grown hg2 (by simp; omega)
              have hi3 := hi1.grown hg2 (by simp; omega) (by simp; omega)
              unfold Lk.v at hen
              replace hsz2 := Lib.hid hsz2
              go_upto_region 15 with (fail)
              change Code.wp Tryz.prog _ _ _ (lay5 w2 y)
              have q10 := lay5_blk w2 y
              have hT3 := hT2.step (lay5_below w2 y)
              have hit3 := hit2.later (lay5_below w2 y)
              have hi4 := hi3.later (lay5_below w2 y)
              have q9' := q2.step (lay5_below w2 y)
              have hln2 : Hid (done2.length + 1 ≤ sA.length) := Lib.hid (by have := sub_len hit2.sub.1 hit2.sub.2.1; simpa using this)
              clear hi2 hi1 hT hit2 hi3 hT2 q2 hen hg2 q9
              generalize lay5 w2 y = W3 at *
              generalize w2.heap.size = b10 at *
              obtain ⟨hwz, hcz⟩ := hJ'.out x hxs2.out hxk2.out y hys
              have hwz' := Lib.hid hwz
              have hJz := Lib.hid (show ∀ z, z = J x y → z ∈ o2 ++ [z] by intro z _; simp)
              have hzz : Hid (∀ z, (z ∈ o2 ∨ z = J x y) ↔ (z ∈ o ∨ ∃ y' ∈ done2 ++ [y], z = J x y')) := Lib.hid fun z => by
                rw [hz2.out z]
                constructor
                · rintro ((h | ⟨y', h1, h2⟩) | h)
                  · exact .inl h
                  · exact .inr ⟨y', List.mem_append_left _ h1, h2⟩
                  · exact .inr ⟨y, by simp, h⟩
                · rintro (h | ⟨y', h1, h2⟩)
                  · exact .inl (.inl h)
                  · rcases List.mem_append.1 h1 with h1 | h1
                    · exact .inl (.inr ⟨y', h1, h2⟩)
                    · rw [List.mem_singleton.1 h1] at h2; exact .inr h2
              clear hwz hJz hsz2
              generalize J x y = z0 at *
              unfold Lk.v at hcz
              replace hcz := Lib.hid hcz
              have d0 := q10.cell 0
              have d1 := q10.cell 1
              have d2 := q10.cell 2
              have d3 := q10.cell 3
              have d4 := q10.cell 4
              have c0 := q9'.cell 0
              have c1 := q9'.cell 1
              have c2 := q9'.cell 2
              have c3 := q9'.cell 3
              have c4 := q9'.cell 4
              simp only [Lk.cells, List.getElem?_toArray, List.getElem?_cons_zero, List.getElem?_cons_succ] at d0 d1 d2 d3 d4 c0 c1 c2 c3 c4
              have e0 := hT3.box.cell 0
              simp only [List.getElem?_toArray, List.getElem?_cons_zero, List.getElem?_cons_succ] at e0
              go_upto_region 16 with (go_at_call 308; refine (hcz.out W3).mono ?_; rintro e w6 ⟨rfl, hb6⟩)
              change Code.wp Tryz.prog _ _ _ (lay5 w6 z0)
              have hb7 := bStep hb6 (lay5_below w6 z0)
              have q11 := lay5_blk w6 z0
              have hT4 := hT3.step hb7
              have hit4 := hit3.later hb7
              have hi5 := hi4.later hb7
              have q94 := q9'.step hb7
              clear hT3 hit3 hi4 q9' q10 hb6 hb7 d0 d1 d2 d3 d4 c0 c1 c2 c3 c4 e0 hcz
              generalize lay5 w6 z0 = W7 at *
              generalize w6.heap.size = b11 at *
              have d0 := q11.cell 0
              have d1 := q11.cell 1
              have d2 := q11.cell 2
              have d3 := q11.cell 3
              have d4 := q11.cell 4
              simp only [Lk.cells, List.getElem?_toArray, List.getElem?_cons_zero, List.getElem?_cons_succ] at d0 d1 d2 d3 d4
              have hwz2 := hwz'.out
              go_wp2_with (at_mapUpdate; refine wpList_lay _ underLM rfl _ _ _ rfl bo o2 z0 rfl rfl rfl hT4.out hwz2 ?_; intro w8 hM8 ht8)
              go_roundg (sA.length - (done2.length + 1))
              case measure => have := hln.out; have := hln2.out; omega
              case rel =>
                exact ⟨done2 ++ [y], _, Lib.hid (by have := hln2.out; rw [List.length_append, List.length_singleton]; omega), hit4.grown (turned_grown ht8) (by simpa using hT4.na) (by simp; omega), hi5.grown (turned_grown ht8) (by simpa using hbB) (by simp; omega), hT4.turn ht8 hM8, q94.grown (turned_grown ht8) (by simpa using h9o), Lib.hid fun z => put_mem.trans (hzz.out z)⟩
  · obtain ⟨hm1, hA⟩ := hs1 (by omega)
    obtain ⟨sb, soff, rfl, hsb, z0⟩ := hS.get (i := (sym - 16).toNat) (v := .map (some bA)) (by rw [List.getElem?_map, hm1]; rfl)
    have hjn : (sym - 16).toNat < n := by
      have h1 := (List.getElem?_eq_some_iff.1 hm1).1
      have h2 := hS.1
      rw [List.length_map] at h2; omega
    clear hs1 hs2 hS hm1
    obtain ⟨j, hjj⟩ := Int.eq_ofNat_of_zero_le (show 0 ≤ sym - 16 by omega)
    have hjk : (sym - 16).toNat = j := by omega
    rw [hjk] at z0 hjn
    have zI : sym - 16 = (j : Int) := by omega
    have zw : IntKind.i64.wrap (j : Int) = j := IntWalk.i64_in _ (by omega)
    have h16' : 16 ≤ sym := by omega
    clear hjj hjk
    have hz5 : (j : Int) < n := by omega
    have hz6 : (0 : Int) ≤ j := by omega
    have z1 := cell_later (bAlc (Below.refl _ w) (.cells #[.int .i64 k, x1, x2, x3, x4, x5, .slice (some ⟨sb, soff, none⟩) n c] 276)) z0
    go_enter Tryz.func306, Tryz.ntmps306
    go_upto_region 6 with (fail)
    have q5 := (Blk.new w 276 #[.int .i64 k, x1, x2, x3, x4, x5, .slice (some ⟨sb, soff, none⟩) n c]).alloc (.map #[] 0)
    have hb5 : Below w.heap.size w ((w.alloc (.cells #[.int .i64 k, x1, x2, x3, x4, x5, .slice (some ⟨sb, soff, none⟩) n c] 276)).alloc (.map #[] 0)) := bAlc (bAlc (Below.refl _ _) _) _
    have hB5 := hB.grown (gbel hb5) (by simp)
    have hA5 := hA.grown (gbel hb5) (by simp)
    clear z0 z1 hB hA hmm
    have hmm := @run_makeMap Tryz.prog
    generalize (some (⟨sb, soff, none⟩ : Addr)) = A at *
    have hsz : ((w.alloc (.cells #[.int .i64 k, x1, x2, x3, x4, x5, .slice A n c] 276)).alloc (.map #[] 0)).heap.size = w.heap.size + 1 + 1 := by simp
    generalize (w.alloc (.cells #[.int .i64 k, x1, x2, x3, x4, x5, .slice A n c] 276)).alloc (.map #[] 0) = w5 at *
    rw [← hsz]
    clear hsz
    have hT6 : TW w w.heap.size #[.int .i64 k, x1, x2, x3, x4, x5, .slice A n c] bA sA w5.heap.size [] (w5.alloc (.map #[] 0)) :=
      ⟨q5.alloc _, hA5.grown (gbel (bAlc (Below.refl _ _) _)) (by simp), mapl_new _ _ rfl, bAlc hb5 _, hb5.size, by have := q5.lt; omega, by have := hA5.lt; omega⟩
    have hB6 : MapL (w5.alloc (.map #[] 0)) bB sB := hB5.grown (gbel (bAlc (Below.refl _ _) _)) (by simp)
    have hbB : bB ≠ w5.heap.size := by have := hB5.lt; omega
    have hbo : w5.heap.size < (w5.alloc (.map #[] 0)).heap.size := by simp
    clear hB5 hA5 hb5 q5
    generalize w5.alloc (.map #[] 0) = w6 at *
    generalize w5.heap.size = bo at *
    go_wp2_with (at_range; refine wpList_range_look _ underLM rfl _ rfl bB sB rfl hB6 ?_; intro w7 hit hb7; go_frame)
    have hT7 := hT6.step hb7
    have htr : w.heap.size < w6.heap.size := hT6.box.lt
    have har : bA < w6.heap.size := hT6.after.lt
    clear hT6 hB6 hb7
    generalize w6.heap.size = r at *
    have hbT : Hid (bA < r ∧ w.heap.size < r) := Lib.hid ⟨har, htr⟩
    have hwr : w.heap.size ≤ r := by omega
    clear har htr
    obtain ⟨tb, htb⟩ : ∃ tb, tb = w.heap.size := ⟨_, rfl⟩
    rw [← htb] at hT7 ⊢
    have htr : tb < r := by rw [htb]; exact hbT.out.2
    have har : bA < r := hbT.out.1
    clear htb hbT
    go_loopg [] sB.length (fun gk wr => ∃ done o : List Lk, Hid (done.length + gk = sB.length) ∧ IterL wr bB r sB done ∧ TW w tb #[.int .i64 k, x1, x2, x3, x4, x5, .slice A n c] bA sA bo o wr ∧ Hid (∀ z, z ∈ o ↔ thenP k J (· ∈ done) (· ∈ sA) z))
    case atStart => exact ⟨[], [], Lib.hid (by simp), hit, hT7, Lib.hid (fun z => by simp [thenP])⟩
    case round =>
      clear hit hT7
      obtain ⟨done, o, hlen, hit, hT, hz⟩ := hrel
      have hl3 := Lib.hid hit.lts
      go_wp2_with (first
        | (at_next; refine wpList_next_look _ rfl _ rfl bB r sB done rfl hit ?_ ?_)
        | go_in)
      · intro hall
        have hall' := Lib.hid hall
        clear hall
        go_wp2_with fail
        refine hR.out _ _ ⟨bo, o, rfl, hT.ge, hT.out, hT.bel, fun z => (hz.out z).trans ⟨thenP_mono (fun x hx => hit.sub.2.1 x hx) (fun _ h => h) z, thenP_mono (fun x hx => hall'.out x hx) (fun _ h => h) z⟩⟩
      · intro x w2 hxs hxd hit2 hen hg2 hsz2
        have hT2 := hT.moved hg2 (by omega) (by omega) (by omega) hwr
        have hwx : Hid (x.wf) := Lib.hid (hit.map.wfs x hxs)
        unfold Lk.v at hen
        replace hsz2 := Lib.hid hsz2
        go_upto_region 9 with (fail)
        change Code.wp Tryz.prog _ _ _ (lay5 w2 x)
        have q9 := lay5_blk w2 x
        have h9o : w2.heap.size ≠ bo := by have := hT2.out.lt; omega
        have hT3 := hT2.step (lay5_below w2 x)
        have hit3 := hit2.later (lay5_below w2 x)
        clear hit hT hit2 hT2 hen hg2
        generalize lay5 w2 x = W3 at *
        generalize w2.heap.size = b9 at *
        have d0 := q9.cell 0
        have d1 := q9.cell 1
        have d2 := q9.cell 2
        have d3 := q9.cell 3
        have d4 := q9.cell 4
        simp only [Lk.cells, List.getElem?_toArray, List.getElem?_cons_zero, List.getElem?_cons_succ] at d0 d1 d2 d3 d4
        have e0 := hT3.box.cell 0
        simp only [List.getElem?_toArray, List.getElem?_cons_zero, List.getElem?_cons_succ] at e0
        have hlen2 : Hid (done.length + 1 ≤ sB.length) := Lib.hid (by have := sub_len hit3.sub.1 hit3.sub.2.1; simpa using this)
        clear hsz2 hl3
        by_cases hxk : x.n = k
        · have hxk1 : (x.n == k) = true := by simp [hxk]
          replace hxk := Lib.hid hxk
          by_cases hA0 : sA = []
          · have hln := mapl_len underLM hT3.after 3
            rw [hA0] at hln
            go_wp2_with fail
            go_roundg (sB.length - (done.length + 1))
            case measure => have := hlen.out; have := hlen2.out; omega
            case rel =>
              refine ⟨done ++ [x], o, Lib.hid (by have := hlen2.out; rw [List.length_append, List.length_singleton]; omega), hit3, hT3, Lib.hid fun z => (hz.out z).trans ⟨fun h => (done_snoc z).2 (.inl h), fun h => ?_⟩⟩
              rcases (done_snoc z).1 h with h | ⟨_, _, y, hy⟩ | ⟨_, y, hy, _⟩
              · exact h
              · simp [hA0] at hy
              · simp [hA0] at hy
          · have hln := mapl_len underLM hT3.after 3
            obtain ⟨y0, hy0⟩ := List.exists_mem_of_ne_nil _ hA0
            have hgt : (0 : Int) < sA.length := by have := List.length_pos_of_mem hy0; omega
            generalize (sA.length : Int) = sl at *
            replace hy0 := Lib.hid hy0
            clear hA0
            go_wp2_with (at_mapUpdate; refine wpList_lay _ underLM rfl _ _ _ rfl bo o x rfl rfl rfl hT3.out hwx.out ?_; intro w5 hM5 ht5)
            go_roundg (sB.length - (done.length + 1))
            case measure => have := hlen.out; have := hlen2.out; omega
            case rel =>
              refine ⟨done ++ [x], _, Lib.hid (by have := hlen2.out; rw [List.length_append, List.length_singleton]; omega), hit3.grown (turned_grown ht5) (by simpa using hbB) (by simp; omega), hT3.turn ht5 hM5, Lib.hid fun z => ?_⟩
              rw [put_mem, done_snoc, hz.out z]
              constructor
              · rintro (h | h)
                · exact .inl h
                · exact .inr (.inl ⟨hxk.out, h, y0, hy0.out⟩)
              · rintro (h | ⟨_, h, _⟩ | ⟨h, _⟩)
                · exact .inl h
                · exact .inr h
                · exact absurd hxk.out h
        · have hxk1 : (x.n == k) = false := by simp [hxk]
          have hxk2 := Lib.hid hxk
          have hxs2 := Lib.hid hxs
          clear hxk hxs hxd
          go_upto_region 12 with (fail)
          have e1 := Lib.hid e0
          clear d0 d1 d2 d3 d4 e0
          go_wp2_with (at_range; refine wpList_range_look _ underLM rfl _ rfl bA sA rfl hT3.after ?_; intro w4 hit4 hb4; go_frame)
          have hT4 := hT3.step hb4
          have hit5 := hit3.later hb4
          have q4 := q9.step hb4
          have hr2 : Hid (tb < W3.heap.size ∧ bA < W3.heap.size ∧ bo < W3.heap.size ∧ b9 < W3.heap.size ∧ bB < W3.heap.size ∧ r < W3.heap.size ∧ w.heap.size ≤ W3.heap.size) := Lib.hid ⟨hT3.box.lt, hT3.after.lt, hT3.out.lt, q9.lt, hit3.lts.1, hit3.lts.2.1, hT3.bel.size⟩
          clear hT3 hit3 q9 hb4 e1
          generalize W3.heap.size = r2 at *
          clear W3
          generalize wr = wE at *
          have hlt2 : tb < r2 ∧ bA < r2 ∧ bo < r2 ∧ b9 < r2 ∧ bB < r2 ∧ r < r2 ∧ w.heap.size ≤ r2 := hr2.out
          obtain ⟨g1, g2, g3, g4, g5, g6, g7⟩ := hlt2
          go_loopg [] sA.length (fun gk2 wr => ∃ done2 o2 : List Lk, Hid (done2.length + gk2 = sA.length) ∧ IterL wr bA r2 sA done2 ∧ IterL wr bB r sB (done ++ [x]) ∧ TW w tb #[.int .i64 k, x1, x2, x3, x4, x5, .slice A n c] bA sA bo o2 wr ∧ Blk wr b9 45 x.cells ∧ Hid (∀ z, z ∈ o2 ↔ z ∈ o ∨ ∃ y ∈ done2, z = J x y))
          case atStart => exact ⟨[], o, Lib.hid (by simp), hit4, hit5, hT4, q4, Lib.hid (fun z => by simp)⟩
          case round =>
            clear hit4 hit5 hT4 q4
            obtain ⟨done2, o2, hln, hi2, hi1, hT, q9, hz2⟩ := hrel
            go_wp2_with (first
              | (at_next; refine wpList_next_look _ rfl _ rfl bA r2 sA done2 rfl hi2 ?_ ?_)
              | go_in)
            · intro hall
              have hall' := Lib.hid hall
              clear hall
              go_wp2_with fail
              go_roundg (sB.length - (done.length + 1))
              case measure => have := hlen.out; have := hlen2.out; omega
              case rel =>
                refine ⟨done ++ [x], o2, Lib.hid (by have := hlen2.out; rw [List.length_append, List.length_singleton]; omega), hi1, hT, Lib.hid fun z => ?_⟩
                rw [hz2.out z, done_snoc, hz.out z]
                constructor
                · rintro (h | ⟨y, hy, h⟩)
                  · exact .inl h
                  · exact .inr (.inr ⟨hxk2.out, y, hi2.sub.2.1 y hy, h⟩)
                · rintro (h | ⟨h, _⟩ | ⟨_, y, hy, h⟩)
                  · exact .inl h
                  · exact absurd h hxk2.out
                  · exact .inr ⟨y, hall'.out y hy, h⟩
            · intro y w2 hys hyd hit2 hen hg2 hsz2
              have hT2 := hT.moved hg2 (by omega) (by omega) (by omega) g7
              have q2 := q9.grown hg2 (by simp; omega)
              have hi3 := hi1.grown hg2 (by simp; omega) (by simp; omega)
              unfold Lk.v at hen
              replace hsz2 := Lib.hid hsz2
              go_upto_region 15 with (fail)
              change Code.wp Tryz.prog _ _ _ (lay5 w2 y)
              have q10 := lay5_blk w2 y
              have hT3 := hT2.step (lay5_below w2 y)
              have hit3 := hit2.later (lay5_below w2 y)
              have hi4 := hi3.later (lay5_below w2 y)
              have q9' := q2.step (lay5_below w2 y)
              have hln2 : Hid (done2.length + 1 ≤ sA.length) := Lib.hid (by have := sub_len hit2.sub.1 hit2.sub.2.1; simpa using this)
              clear hi2 hi1 hT hit2 hi3 hT2 q2 hen hg2 q9
              generalize lay5 w2 y = W3 at *
              generalize w2.heap.size = b10 at *
              obtain ⟨hwz, hcz⟩ := hJ'.out x hxs2.out hxk2.out y hys
              have hwz' := Lib.hid hwz
              have hJz := Lib.hid (show ∀ z, z = J x y → z ∈ o2 ++ [z] by intro z _; simp)
              have hzz : Hid (∀ z, (z ∈ o2 ∨ z = J x y) ↔ (z ∈ o ∨ ∃ y' ∈ done2 ++ [y], z = J x y')) := Lib.hid fun z => by
                rw [hz2.out z]
                constructor
                · rintro ((h | ⟨y', h1, h2⟩) | h)
                  · exact .inl h
                  · exact .inr ⟨y', List.mem_append_left _ h1, h2⟩
                  · exact .inr ⟨y, by simp, h⟩
                · rintro (h | ⟨y', h1, h2⟩)
                  · exact .inl (.inl h)
                  · rcases List.mem_append.1 h1 with h1 | h1
                    · exact .inl (.inr ⟨y', h1, h2⟩)
                    · rw [List.mem_singleton.1 h1] at h2; exact .inr h2
              clear hwz hJz hsz2
              generalize J x y = z0 at *
              unfold Lk.v at hcz
              replace hcz := Lib.hid hcz
              have d0 := q10.cell 0
              have d1 := q10.cell 1
              have d2 := q10.cell 2
              have d3 := q10.cell 3
              have d4 := q10.cell 4
              have c0 := q9'.cell 0
              have c1 := q9'.cell 1
              have c2 := q9'.cell 2
              have c3 := q9'.cell 3
              have c4 := q9'.cell 4
              simp only [Lk.cells, List.getElem?_toArray, List.getElem?_cons_zero, List.getElem?_cons_succ] at d0 d1 d2 d3 d4 c0 c1 c2 c3 c4
              have e0 := hT3.box.cell 0
              simp only [List.getElem?_toArray, List.getElem?_cons_zero, List.getElem?_cons_succ] at e0
              go_upto_region 16 with (go_at_call 308; refine (hcz.out W3).mono ?_; rintro e w6 ⟨rfl, hb6⟩)
              change Code.wp Tryz.prog _ _ _ (lay5 w6 z0)
              have hb7 := bStep hb6 (lay5_below w6 z0)
              have q11 := lay5_blk w6 z0
              have hT4 := hT3.step hb7
              have hit4 := hit3.later hb7
              have hi5 := hi4.later hb7
              have q94 := q9'.step hb7
              clear hT3 hit3 hi4 q9' q10 hb6 hb7 d0 d1 d2 d3 d4 c0 c1 c2 c3 c4 e0 hcz
              generalize lay5 w6 z0 = W7 at *
              generalize w6.heap.size = b11 at *
              have d0 := q11.cell 0
              have d1 := q11.cell 1
              have d2 := q11.cell 2
              have d3 := q11.cell 3
              have d4 := q11.cell 4
              simp only [Lk.cells, List.getElem?_toArray, List.getElem?_cons_zero, List.getElem?_cons_succ] at d0 d1 d2 d3 d4
              have hwz2 := hwz'.out
              go_wp2_with (at_mapUpdate; refine wpList_lay _ underLM rfl _ _ _ rfl bo o2 z0 rfl rfl rfl hT4.out hwz2 ?_; intro w8 hM8 ht8)
              go_roundg (sA.length - (done2.length + 1))
              case measure => have := hln.out; have := hln2.out; omega
              case rel =>
                exact ⟨done2 ++ [y], _, Lib.hid (by have := hln2.out; rw [List.length_append, List.length_singleton]; omega), hit4.grown (turned_grown ht8) (by simpa using hT4.na) (by simp; omega), hi5.grown (turned_grown ht8) (by simpa using hbB) (by simp; omega), hT4.turn ht8 hM8, q94.grown (turned_grown ht8) (by simpa using h9o), Lib.hid fun z => put_mem.trans (hzz.out z)⟩
end Go.Proofs.YtjnmkdahbcmfaaaGreat

/- first.sorted: a closure over the sorted slice. -/
namespace Go.Proofs.YtjnmkdahbcmfaaaGreat
open Go.ChangeShapes Go.WideShapes Go.ChangeAt Go.RowKit Go.Shelf
set_option linter.unusedVariables false
def RetIt (w : World) (l : List Lk) (e : Ending) (w' : World) : Prop := ∃ Bs A c, e = .returned (.func (.func 312) #[] #[.pointer (some ⟨Bs, 0, none⟩)]) ∧ w'.cell? ⟨Bs, 0, none⟩ = some (.slice A l.length c) ∧ Bs < w'.heap.size ∧ RdL w' w'.heap.size A l.length l ∧ Below w.heap.size w w'
theorem MapL.below {w w' : World} {b : Nat} {s : List Lk} (h : MapL w b s) (hb : Below w.heap.size w w') : MapL w' b s := by
  obtain ⟨es, clock, h1, h2⟩ := h
  exact ⟨es, clock, (hb.block b (Array.getElem?_eq_some_iff.1 h1).1).trans h1, h2⟩
set_option maxRecDepth 100000 in
set_option maxHeartbeats 2000000 in
theorem sorted2_any (b : Nat) (s : List Lk) (w : World) (hm : MapL w b s) (hr : ∀ x ∈ s, x.right 8) (hlen : s.length ≤ 900000) : Calls Tryz.prog 270 #[.map (some b)] w (RetIt w (lset s)) := by
  refine opq fun RR hR => ?_
  have hK := Lib.hid (keys_any b w)
  have hcell : (w.alloc (.cells #[.map (some b)] 279)).cell? ⟨w.heap.size, 0, none⟩ = some (.map (some b)) := (Blk.new w 279 #[.map (some b)]).cell 0
  have hm1 : MapL (w.alloc (.cells #[.map (some b)] 279)) b s := hm.below (bAlc (Below.refl _ _) _)
  have hb1 : Below w.heap.size w (w.alloc (.cells #[.map (some b)] 279)) := bAlc (Below.refl _ _) _
  have hs1 : (w.alloc (.cells #[.map (some b)] 279)).heap.size = w.heap.size + 1 := by simp
  have hC := Lib.hid (collect_any 309 #[.pointer (some ⟨w.heap.size, 0, none⟩)] (KeyS s) (KeyP s) s.length (w.alloc (.cells #[.map (some b)] 279)) egK
    (fun w1 hb => seqK_mono (fun _ _ h => h.1) (keys_stops 5 (by omega) w.heap.size b s w1 ((hb.cell (p := ⟨w.heap.size, 0, none⟩) (by simp)).trans hcell) (hm1.below hb))) hlen)
  have hSF := Lib.hid (fun (out : List Lk) (v : Value) (base : Nat) (W : World) (hk : KeyS s out) (ho : OwnL W base v out) => sortfunc2_any out v base W (fun x hx => hr x (hk.2.1 x hx)) hk.1 (by
    have := sub_len hk.1 (fun x hx => hk.2.1 x hx)
    omega) ho)
  have hset := Lib.hid (fun (out : List Lk) (hk : KeyS s out) => lset_same (m := out) hr fun z => ⟨hk.2.1 z, hk.2.2 z⟩)
  clear hm hr hcell hm1 hlen
  go_enter Tryz.func270, Tryz.ntmps270
  go_wp2_with (go_at_call 290; refine hK.out.mono ?_; rintro e w1 ⟨rfl, hw1⟩; rw [← hw1] at hC hb1 hs1; replace hw1 := Lib.hid hw1)
  refine hC.out.mono ?_
  rintro e w2 ⟨v, out, rfl, hks, ho, hb2⟩
  obtain ⟨A, c, hv, -⟩ := ho.reads
  subst hv
  have hSF2 := Lib.hid (hSF.out out _ _ w2 hks ho)
  have hset2 := hset.out out hks
  rw [hset2] at hSF2
  clear hSF hset
  replace hset2 := Lib.hid hset2
  have hin : ∀ j, (Value.slice A out.length c).ownBlock = some j → w1.heap.size ≤ j := fun j hj => (own_in ho j hj).1
  go_wp2_with fail
  refine hSF2.out.mono ?_
  rintro e w3 ⟨rfl, ho3, hg3, hl3⟩
  have hb3 : Below w.heap.size w w3 := (bStep hb1 hb2).grown hg3 (bStep hb1 hb2).size (fun j hj => by have := hin j hj; omega)
  obtain ⟨A3, c3, hv3, hrd, -⟩ := ho3.reads
  injection hv3 with e1 e2 e3
  subst e1 e3
  clear hl3 hs1 hin ho3 hg3 hks
  go_wp2_with fail
  refine (values_any _ _ _ _).mono ?_
  rintro e w4 ⟨rfl, hw4⟩
  go_wp2_with fail
  refine hR.out _ _ ⟨_, A, c, rfl, ?_, ?_, ?_, ?_⟩
  · exact (Blk.new w3 147 _).cell 0
  · simp
  · exact (hrd.below (bAlc (Below.refl _ _) _)).mono (by simp)
  · exact bAlc hb3 _
theorem collectV_any (Bs : Nat) (A : Option Addr) (c : Nat) (l : List Lk) (w : World) (hc : w.cell? ⟨Bs, 0, none⟩ = some (.slice A l.length c)) (hlt : Bs < w.heap.size) (hR : RdL w w.heap.size A l.length l) (hlen : l.length ≤ 900000) :
    Calls Tryz.prog 269 #[.func (.func 312) #[] #[.pointer (some ⟨Bs, 0, none⟩)]] w (RetAp w (· = l)) :=
  collect_any _ _ (· = l) (fun _ => True) l.length w egV (fun w1 hb => seqK_mono (fun _ _ h => h.2) (values_stops 5 (by omega) Bs w.heap.size A l.length c l w1 ((hb.cell (p := ⟨Bs, 0, none⟩) hlt).trans hc) (Nat.lt_of_lt_of_le hlt hb.size) hb.size (hR.below hb) hlen)) hlen
end Go.Proofs.YtjnmkdahbcmfaaaGreat

/- first: fold, of. -/
namespace Go.Proofs.YtjnmkdahbcmfaaaGreat
open Go.ChangeShapes Go.WideShapes Go.ChangeAt Go.RowKit
set_option linter.unusedVariables false
set_option maxRecDepth 100000
def AllM (W : World) (ms : List Nat) (ss : List (List Lk)) : Prop := ms.length = ss.length ∧ ∀ (i b : Nat) (s : List Lk), ms[i]? = some b → ss[i]? = some s → MapL W b s
theorem AllM.step {W W' : World} {ms : List Nat} {ss : List (List Lk)} (h : AllM W ms ss) (hb : Below W.heap.size W W') : AllM W' ms ss := ⟨h.1, fun i b s h1 h2 => (h.2 i b s h1 h2).grown (gbel hb) (by simp)⟩
structure UJ (k : Int) (J : Lk → Lk → Lk) (U : Lk → Prop) : Prop where
  wf : ∀ x, U x → x.wf
  join : ∀ x, U x → x.n ≠ k → ∀ y, U y → U (J x y) ∧ ∀ W, Calls Tryz.prog 308 #[.int .i64 k, x.v, y.v] W fun e W' => e = .returned (.tuple #[(J x y).v, .int .i64 0]) ∧ Below W.heap.size W W'
def SymU (U : Lk → Prop) (n : Nat) (s : Int) : Prop := 0 ≤ s ∧ s ≤ 1000 ∧ (s < 16 → U (oneK s)) ∧ (16 ≤ s → (s - 16).toNat < n)
def setOf (ss : List (List Lk)) (i : Nat) (z : Lk) : Prop := z ∈ ss.getD i []
theorem ofP_snoc {k : Int} {J : Lk → Lk → Lk} {T : Nat → Lk → Prop} (s : Int) : ∀ (l : List Int) (A : Lk → Prop), ofP k J T A (l ++ [s]) = thenP k J (ofP k J T A l) (symP T s)
  | [], A => rfl
  | x :: l, A => ofP_snoc s l _
theorem thenP_sub {k : Int} {J : Lk → Lk → Lk} {U : Lk → Prop} (hU : UJ k J U) {A B : Lk → Prop} (hA : ∀ z, A z → U z) (hB : ∀ z, B z → U z) (z : Lk) (h : thenP k J A B z) : U z := by
  obtain ⟨x, hx, ⟨_, rfl, _⟩ | ⟨h1, y, hy, rfl⟩⟩ := h
  · exact hA _ hx
  · exact (hU.join x (hA x hx) h1 y (hB y hy)).1
theorem thenP_iff {k : Int} {J : Lk → Lk → Lk} {A A' B B' : Lk → Prop} (h1 : ∀ z, A z ↔ A' z) (h2 : ∀ z, B z ↔ B' z) (z : Lk) : thenP k J A B z ↔ thenP k J A' B' z :=
  ⟨thenP_mono (fun z => (h1 z).1) (fun z => (h2 z).1) z, thenP_mono (fun z => (h1 z).2) (fun z => (h2 z).2) z⟩
theorem then_sym (k : Int) (J : Lk → Lk → Lk) (U : Lk → Prop) (hU : UJ k J U) (x1 x2 x3 x4 x5 : Value) (A : Option Addr) (n c : Nat) (ms : List Nat) (ss : List (List Lk)) (bB : Nat) (sB : List Lk) (sym : Int) (w : World)
    (hB : MapL w bB sB) (hn : n ≤ 1000000) (hS : Rd1 w w.heap.size A n (ms.map fun b => Value.map (some b))) (hM : AllM w ms ss) (hss : ∀ s ∈ ss, ∀ z ∈ s, U z) (hsB : ∀ z ∈ sB, U z) (hs : SymU U n sym) :
    Calls Tryz.prog 306 #[.agg #[.int .i64 k, x1, x2, x3, x4, x5, .slice A n c], .map (some bB), .int .i64 sym] w fun e w' => ∃ b out, e = .returned (.map (some b)) ∧ w.heap.size ≤ b ∧ MapL w' b out ∧ Below w.heap.size w w' ∧ (∀ z, z ∈ out ↔ thenP k J (· ∈ sB) (symP (setOf ss) sym) z) ∧ ∀ z ∈ out, U z := by
  obtain ⟨h0, h1, h2, h3⟩ := hs
  have hml : ms.length = n := by have := hS.1; rwa [List.length_map] at this
  by_cases h16 : sym < 16
  · refine (then_any k J x1 x2 x3 x4 x5 A n c ms bB sB sym 0 [oneK sym] w hB hn hS h0 h1 (fun h => by omega) (fun _ => rfl) (fun x hx hxk y hy => ?_)).mono ?_
    · rw [List.mem_singleton.1 hy]
      exact ⟨hU.wf _ (hU.join x (hsB x hx) hxk _ (h2 h16)).1, (hU.join x (hsB x hx) hxk _ (h2 h16)).2⟩
    · rintro e w' ⟨b, out, rfl, a1, a2, a3, a4⟩
      have hi : ∀ z, z ∈ out ↔ thenP k J (· ∈ sB) (symP (setOf ss) sym) z := fun z => (a4 z).trans (thenP_iff (fun _ => Iff.rfl) (fun z => by unfold symP; rw [if_pos h16]; simp) z)
      exact ⟨b, out, rfl, a1, a2, a3, hi, fun z hz => thenP_sub hU hsB (fun z hz => by unfold symP at hz; rw [if_pos h16] at hz; rw [hz]; exact h2 h16) z ((hi z).1 hz)⟩
  · have hj := h3 (by omega)
    have hm : ms[(sym - 16).toNat]? = some ms[(sym - 16).toNat] := List.getElem?_eq_getElem (by omega)
    obtain ⟨sA, hs1⟩ : ∃ sA, ss[(sym - 16).toNat]? = some sA := ⟨_, List.getElem?_eq_getElem (by have := hM.1; omega)⟩
    have hd : ss.getD (sym - 16).toNat [] = sA := by rw [List.getD_eq_getElem?_getD, hs1]; rfl
    have hsu : ∀ z ∈ sA, U z := hss _ (List.mem_of_getElem? hs1)
    refine (then_any k J x1 x2 x3 x4 x5 A n c ms bB sB sym ms[(sym - 16).toNat] sA w hB hn hS h0 h1 (fun _ => ⟨hm, hM.2 _ _ _ hm hs1⟩) (fun h => absurd h h16) (fun x hx hxk y hy => ?_)).mono ?_
    · exact ⟨hU.wf _ (hU.join x (hsB x hx) hxk _ (hsu y hy)).1, (hU.join x (hsB x hx) hxk _ (hsu y hy)).2⟩
    · rintro e w' ⟨b, out, rfl, a1, a2, a3, a4⟩
      have hi : ∀ z, z ∈ out ↔ thenP k J (· ∈ sB) (symP (setOf ss) sym) z := fun z => (a4 z).trans (thenP_iff (fun _ => Iff.rfl) (fun z => by unfold symP setOf; rw [if_neg h16, hd]) z)
      exact ⟨b, out, rfl, a1, a2, a3, hi, fun z hz => thenP_sub hU hsB (fun z hz => by unfold symP setOf at hz; rw [if_neg h16, hd] at hz; exact hsu z hz) z ((hi z).1 hz)⟩
def RetMap (w : World) (Q : Lk → Prop) (U : Lk → Prop) (e : Ending) (w' : World) : Prop := ∃ b out, e = .returned (.map (some b)) ∧ w.heap.size ≤ b ∧ MapL w' b out ∧ Below w.heap.size w w' ∧ (∀ z, z ∈ out ↔ Q z) ∧ ∀ z ∈ out, U z
set_option maxHeartbeats 4000000 in
theorem fold_any (k : Int) (J : Lk → Lk → Lk) (U : Lk → Prop) (hU : UJ k J U) (x1 x2 x3 x4 x5 : Value) (A : Option Addr) (n c : Nat) (ms : List Nat) (ss : List (List Lk)) (bB : Nat) (sB : List Lk) (L : Option Addr) (ln lc : Nat) (l : List Int) (w : World) (base : Nat) (hbs : base ≤ bB ∧ base ≤ w.heap.size)
    (hB : MapL w bB sB) (hn : n ≤ 1000000) (hS : Rd1 w w.heap.size A n (ms.map fun b => Value.map (some b))) (hM : AllM w ms ss) (hss : ∀ s ∈ ss, ∀ z ∈ s, U z) (hsB : ∀ z ∈ sB, U z) (hL : Rd1 w w.heap.size L ln (ints l)) (hln : ln ≤ 1000000) (hl : ∀ s ∈ l, SymU U n s) :
    Calls Tryz.prog 305 #[.map (some bB), .func (.func 306) #[.agg #[.int .i64 k, x1, x2, x3, x4, x5, .slice A n c]] #[], .slice L ln lc] w fun e w' => ∃ b out, e = .returned (.map (some b)) ∧ base ≤ b ∧ MapL w' b out ∧ Below w.heap.size w w' ∧ (∀ z, z ∈ out ↔ ofP k J (setOf ss) (· ∈ sB) l z) ∧ ∀ z ∈ out, U z := by
  refine opq fun RR hR => ?_
  have hll : l.length = ln := by have := hL.1; rwa [ints, List.length_map] at this
  have hL' := Lib.hid hL
  have hl' := Lib.hid hl
  have hll' := Lib.hid hll
  have hT := Lib.hid (fun (W : World) (b : Nat) (s : List Lk) (sym : Int) (hw : Below w.heap.size w W) (hb : MapL W b s) (hs : ∀ z ∈ s, U z) (hsy : SymU U n sym) =>
    then_sym k J U hU x1 x2 x3 x4 x5 A n c ms ss b s sym W hb hn ((hS.below hw).mono hw.size) (hM.step hw) hss hs hsy)
  clear hL hl hll hS hM
  go_enter Tryz.func305, Tryz.ntmps305
  go_wp2_with fail
  go_loopg [0, 11] ln (fun gk s0 s11 wr => ∃ (i b : Nat) (cur : List Lk), s0 = .map (some b) ∧ s11 = .int .i64 i ∧ Hid (i + gk = ln) ∧ MapL wr b cur ∧ Hid (base ≤ b) ∧ Below w.heap.size w wr ∧ Hid (∀ z, z ∈ cur ↔ ofP k J (setOf ss) (· ∈ sB) (l.take i) z) ∧ Hid (∀ z ∈ cur, U z))
  case atStart => exact ⟨0, bB, sB, rfl, rfl, Lib.hid (by omega), hB, Lib.hid hbs.1, Below.refl _ _, Lib.hid (fun z => by simp [ofP]), Lib.hid hsB⟩
  case round =>
    clear hB
    obtain ⟨i, b, cur, rfl, rfl, hi, hm, hba, hbw, hz, hu⟩ := hrel
    by_cases hin : i < ln
    · have hil : i < l.length := by have := hll'.out; omega
      have hsi : (ints l)[i]? = some (.int .i64 l[i]) := by simp [ints, hil]
      have htk : Hid (l.take (i + 1) = l.take i ++ [l[i]]) := Lib.hid (List.take_succ_eq_append_getElem hil)
      have hsy := Lib.hid (hl'.out _ (List.getElem_mem hil))
      obtain ⟨lb, loff, rfl, hlb, y0⟩ := ((hL'.out.below hbw)).get hsi
      generalize l[i] = s at *
      replace hsi := Lib.hid hsi
      have hz1 : (0 : Int) ≤ i := by omega
      have hz2 : (i : Int) < ln := by omega
      go_wp2_with (go_at_call 306; refine (hT.out wr b cur s hbw hm hu.out hsy.out).mono ?_; rintro e w6 ⟨b2, out, rfl, a1, a2, a3, a4, a5⟩)
      go_roundg (ln - (i + 1))
      case measure => have := hi.out; omega
      case rel =>
        refine ⟨i + 1, b2, out, rfl, by simp, Lib.hid (by omega), a2, Lib.hid (by have := hbw.size; omega), bStep hbw a3, Lib.hid fun z => ?_, Lib.hid a5⟩
        rw [a4 z, htk.out, ofP_snoc]
        exact thenP_iff hz.out (fun _ => Iff.rfl) z
    · have hie : i = ln := by have := hi.out; omega
      have htk : Hid (l.take i = l) := Lib.hid (List.take_of_length_le (by have := hll'.out; omega))
      have hz3 : ¬ ((i : Int) < ln) := by omega
      replace hie := Lib.hid hie
      go_wp2_with fail
      exact hR.out _ _ ⟨b, cur, rfl, hba.out, hm, hbw, fun z => by rw [hz.out z, htk.out], hu.out⟩
end Go.Proofs.YtjnmkdahbcmfaaaGreat

/- first: of. -/
namespace Go.Proofs.YtjnmkdahbcmfaaaGreat
open Go.ChangeShapes Go.WideShapes Go.ChangeAt Go.RowKit
set_option linter.unusedVariables false
set_option maxRecDepth 100000
theorem opw_insert {w : World} {a : Act} {K : Act → World → Prop} {Q : Exit → Act → World → Prop} {t : TypeId} (ht : Tryz.prog.underlying t = some (.map 45 4)) (o : Oper) (m x v : Operand) (hop : o.op = Op.insert t m x v) (b : Nat) (s : List Lk) (k : Lk) (hm : a.eval m = .map (some b)) (hx : a.eval x = k.v) (hv : a.eval v = .bool true) (h : MapL w b s) (hk : k.wf)
    (hK : ∀ w', MapL w' b (if k ∈ s then s else s ++ [k]) → w.mapTurned w' b → K (a.put o.dst undef) w') : Oper.wp Tryz.prog o a w K Q := by
  obtain ⟨w', hrun, h1, h2⟩ := mapl_put ht h k hk
  unfold Oper.wp
  simp [execOp, hop, hm, hx, hv, hrun, Result.andThen]
  exact hK w' h1 h2
theorem nilK_wf : nilK.wf := ⟨wf64 (by simp [nilK]) (by simp [nilK]), wf64 (by simp [nilK]) (by simp [nilK]), wf64 (by simp [nilK]) (by simp [nilK]), wf64 (by simp [nilK]) (by simp [nilK]), wf64 (by simp [nilK]) (by simp [nilK])⟩
set_option maxHeartbeats 4000000 in
theorem of_any (k : Int) (J : Lk → Lk → Lk) (U : Lk → Prop) (hU : UJ k J U) (hU0 : U nilK) (x1 x2 x3 x4 x5 : Value) (A : Option Addr) (n c : Nat) (ms : List Nat) (ss : List (List Lk)) (L : Option Addr) (ln lc : Nat) (l : List Int) (w : World)
    (hn : n ≤ 1000000) (hS : Rd1 w w.heap.size A n (ms.map fun b => Value.map (some b))) (hM : AllM w ms ss) (hss : ∀ s ∈ ss, ∀ z ∈ s, U z) (hL : Rd1 w w.heap.size L ln (ints l)) (hln : ln ≤ 1000000) (hl : ∀ s ∈ l, SymU U n s) :
    Calls Tryz.prog 274 #[.agg #[.int .i64 k, x1, x2, x3, x4, x5, .slice A n c], .slice L ln lc] w (RetMap w (ofP k J (setOf ss) (· = nilK) l) U) := by
  refine opq fun RR hR => ?_
  have hmm := @run_makeMap Tryz.prog
  have q0 := Blk.new w 276 #[.int .i64 k, x1, x2, x3, x4, x5, .slice A n c]
  have hb0 : Below w.heap.size w (w.alloc (.cells #[.int .i64 k, x1, x2, x3, x4, x5, .slice A n c] 276)) := bAlc (Below.refl _ _) _
  go_enter Tryz.func274, Tryz.ntmps274
  go_upto_region 1 with (fail)
  have hz1 : w.heap.size ≤ (w.alloc (.cells #[.int .i64 k, x1, x2, x3, x4, x5, .slice A n c] 276)).heap.size := by simp
  generalize w.alloc (.cells #[.int .i64 k, x1, x2, x3, x4, x5, .slice A n c] 276) = W1 at *
  have hF := Lib.hid (fun (W : World) (b : Nat) (hw : Below W1.heap.size W1 W) (hbb : W1.heap.size ≤ b) (hb : MapL W b [nilK]) =>
    have hw0 := bStep hb0 hw
    fold_any k J U hU x1 x2 x3 x4 x5 A n c ms ss b [nilK] L ln lc l W W1.heap.size ⟨hbb, hw.size⟩ hb hn ((hS.below hw0).mono hw0.size) (hM.step hw0) hss (fun z hz => by rw [List.mem_singleton.1 hz]; exact hU0) ((hL.below hw0).mono hw0.size) hln hl)
  have c0 := q0.cell 0
  have c1 := q0.cell 1
  have c2 := q0.cell 2
  have c3 := q0.cell 3
  have c4 := q0.cell 4
  have c5 := q0.cell 5
  have c6 := q0.cell 6
  simp only [List.getElem?_toArray, List.getElem?_cons_zero, List.getElem?_cons_succ] at c0 c1 c2 c3 c4 c5 c6
  have hAll : Hid (∀ w', Below W1.heap.size W1 w' → w'.cell? ⟨w.heap.size, 0, none⟩ = some (.int .i64 k) ∧ w'.cell? ⟨w.heap.size, 1, none⟩ = some x1 ∧ w'.cell? ⟨w.heap.size, 2, none⟩ = some x2 ∧ w'.cell? ⟨w.heap.size, 3, none⟩ = some x3 ∧ w'.cell? ⟨w.heap.size, 4, none⟩ = some x4 ∧ w'.cell? ⟨w.heap.size, 5, none⟩ = some x5 ∧ w'.cell? ⟨w.heap.size, 6, none⟩ = some (.slice A n c)) := Lib.hid fun w' h => ⟨cell_later h c0, cell_later h c1, cell_later h c2, cell_later h c3, cell_later h c4, cell_later h c5, cell_later h c6⟩
  clear c0 c1 c2 c3 c4 c5 c6 q0
  have hcv : ∀ z, ofP k J (setOf ss) (· ∈ [nilK]) l z ↔ ofP k J (setOf ss) (· = nilK) l z := fun z => ⟨ofP_mono (fun _ _ h => h) l _ _ (fun z hz => by simpa using hz) z, ofP_mono (fun _ _ h => h) l _ _ (fun z hz => by simpa using hz) z⟩
  refine wp_region_held_drew (S := (fun w' => w'.cell? ⟨w.heap.size, 0, none⟩ = some (.int .i64 k) ∧ w'.cell? ⟨w.heap.size, 1, none⟩ = some x1 ∧ w'.cell? ⟨w.heap.size, 2, none⟩ = some x2 ∧ w'.cell? ⟨w.heap.size, 3, none⟩ = some x3 ∧ w'.cell? ⟨w.heap.size, 4, none⟩ = some x4 ∧ w'.cell? ⟨w.heap.size, 5, none⟩ = some x5 ∧ w'.cell? ⟨w.heap.size, 6, none⟩ = some (.slice A n c))) (by kernel_rfl) (hAll.out _ (bDrw (Below.refl _ _))) (fun hHeld => ?_)
  refine wpAnyH_take (i := 1) (oi := ⟨some 6, _, _, _, _, _⟩) (v := ?v1) rfl (by kernel_rfl) (by kernel_rfl) (by kernel_rfl) (fun _ _ _ h => h) (Or.inl ⟨by rfl, ?hy1⟩) (by assumption) ?rest1
  case hy1 => (intro w hSw; (try dsimp only at hSw); go_simp <;> with_reducible rfl)
  try simp only [Act.put, List.setIfInBounds_toArray, List.set_cons_zero, List.set_cons_succ]
  refine wpAnyH_take (i := 4) (oi := ⟨some 8, _, _, _, _, _⟩) (v := ?v2) rfl (by kernel_rfl) (by kernel_rfl) (by kernel_rfl) (fun _ _ _ h => h) (Or.inl ⟨by rfl, ?hy2⟩) (by assumption) ?rest2
  case hy2 => (intro w hSw; (try dsimp only at hSw); go_simp <;> with_reducible rfl)
  try simp only [Act.put, List.setIfInBounds_toArray, List.set_cons_zero, List.set_cons_succ]
  refine wpAnyH_take (i := 5) (oi := ⟨some 9, _, _, _, _, _⟩) (v := ?v3) rfl (by kernel_rfl) (by kernel_rfl) (by kernel_rfl) (fun _ _ _ h => h) (Or.inl ⟨by rfl, ?hy3⟩) (by assumption) ?rest3
  case hy3 => (intro w hSw; (try dsimp only at hSw); go_simp <;> with_reducible rfl)
  try simp only [Act.put, List.setIfInBounds_toArray, List.set_cons_zero, List.set_cons_succ]
  refine wpAnyH_take (i := 6) (oi := ⟨some 10, _, _, _, _, _⟩) (v := ?v4) rfl (by kernel_rfl) (by kernel_rfl) (by kernel_rfl) (fun _ _ _ h => h) (Or.inl ⟨by rfl, ?hy4⟩) (by assumption) ?rest4
  case hy4 => (intro w hSw; (try dsimp only at hSw); go_simp <;> with_reducible rfl)
  try simp only [Act.put, List.setIfInBounds_toArray, List.set_cons_zero, List.set_cons_succ]
  refine wpAnyH_ready (rs := [0]) (by kernel_rfl) (by simp) ?_
  refine AllReadyH.cons (o := ⟨some 5, _, _, _, _, _⟩) rfl (fun K hK => ?_) ?_
  · go_simp
    have hb1 := bAlc (bDrw (Below.refl W1.heap.size W1)) (.map #[] 0)
    refine hK.out _ _ ?_ (fun hHeld => ?_)
    · exact hAll.out _ (by assumption)
    clear hK K
    try simp only [Act.put, List.setIfInBounds_toArray, List.set_cons_zero, List.set_cons_succ]
    refine wpAnyH_ready (rs := [2]) (by kernel_rfl) (by simp) ?_
    refine AllReadyH.cons (o := ⟨none, _, _, _, _, _⟩) rfl (fun K hK => ?_) ?_
    · skip
      refine step_of_wp _ (by rfl) ?_
      refine opw_insert underLM _ _ _ _ (by rfl) W1.heap.size [] nilK (by rfl) (by rfl) (by rfl) (mapl_new _ _ (by simp)) nilK_wf ?_
      intro w5 hM5 ht5
      have hb5 : Below W1.heap.size W1 w5 := hb1.grown (turned_grown ht5) (by simp) (fun k hk => by cases hk; exact Nat.le_refl _)
      refine hK.out _ _ ?_ (fun hHeld => ?_)
      · exact hAll.out _ (by assumption)
      clear hK K
      try simp only [Act.put, List.setIfInBounds_toArray, List.set_cons_zero, List.set_cons_succ]
      refine wpAnyH_take (i := 3) (oi := ⟨some 7, _, _, _, _, _⟩) (v := ?v5) rfl (by kernel_rfl) (by kernel_rfl) (by kernel_rfl) (fun _ _ _ h => h) (Or.inl ⟨by rfl, ?hy5⟩) (by assumption) ?rest5
      case hy5 => (intro w hSw; (try dsimp only at hSw); go_simp <;> with_reducible rfl)
      try simp only [Act.put, List.setIfInBounds_toArray, List.set_cons_zero, List.set_cons_succ]
      refine wpAnyH_ready (rs := [7]) (by kernel_rfl) (by simp) ?_
      refine AllReadyH.cons (o := ⟨some 11, _, _, _, _, _⟩) rfl (fun K hK => ?_) ?_
      · go_simp
        go_at_call 305
        refine (hF.out w5 W1.heap.size hb5 (Nat.le_refl _) (by simpa using hM5)).mono ?_
        rintro e w6 ⟨b, out, rfl, a1, a2, a3, a4, a5⟩
        have hb6 : Below W1.heap.size W1 w6 := hb5.trans (a3.mono hb5.size)
        refine hK.out _ _ ?_ (fun hHeld => ?_)
        · exact hAll.out _ (by assumption)
        clear hK K
        try simp only [Act.put, List.setIfInBounds_toArray, List.set_cons_zero, List.set_cons_succ]
        refine wpAnyH_take (i := 8) (oi := ⟨some 4, _, _, _, _, _⟩) (v := ?v6) rfl (by kernel_rfl) (by kernel_rfl) (by kernel_rfl) (fun _ _ _ h => h) (Or.inl ⟨by rfl, ?hy6⟩) (by assumption) ?rest6
        case hy6 => (intro w hSw; (try dsimp only at hSw); go_simp <;> with_reducible rfl)
        try simp only [Act.put, List.setIfInBounds_toArray, List.set_cons_zero, List.set_cons_succ]
        refine wpAnyH_done (by kernel_rfl) ?_ _
        go_wp2_with fail
        exact hR.out _ _ ⟨b, out, rfl, Nat.le_trans hz1 a1, a2, bStep hb0 hb6, fun z => (a4 z).trans (hcv z), a5⟩
      exact AllReadyH.nil
    exact AllReadyH.nil
  exact AllReadyH.nil
end Go.Proofs.YtjnmkdahbcmfaaaGreat

/- first: sets. -/
namespace Go.Proofs.YtjnmkdahbcmfaaaGreat
open Go.ChangeShapes Go.WideShapes Go.ChangeAt Go.RowKit
set_option linter.unusedVariables false
set_option maxRecDepth 100000
theorem info1M : (Tryz.prog.info? 279).map (fun i => (i.zero, i.size, i.bytes)) = some (some (.map none), 1, 8) := by kernel_rfl
theorem underS : Tryz.prog.underlying 274 = some (.slice 279) := by kernel_rfl
def mvals (ms : List Nat) : List Value := ms.map fun b => Value.map (some b)
def Ms (W : World) (base : Nat) (ms : List Nat) (ss : List (List Lk)) : Prop := AllM W ms ss ∧ ms.Nodup ∧ ∀ b ∈ ms, base ≤ b
theorem Ms.step {W W' : World} {base : Nat} {ms : List Nat} {ss : List (List Lk)} (h : Ms W base ms ss) (hb : Below W.heap.size W W') : Ms W' base ms ss := ⟨h.1.step hb, h.2⟩
theorem Ms.lt {W : World} {base : Nat} {ms : List Nat} {ss : List (List Lk)} (h : Ms W base ms ss) : ∀ b ∈ ms, b < W.heap.size := by
  intro b hb
  obtain ⟨i, hi⟩ := List.mem_iff_getElem?.1 hb
  have hl : i < ss.length := by have := (List.getElem?_eq_some_iff.1 hi).1; rw [← h.1.1]; exact this
  exact (h.1.2 i b _ hi (List.getElem?_eq_getElem hl)).lt
theorem Ms.moved {W W' : World} {base : Nat} {ms : List Nat} {ss : List (List Lk)} {r : Nat} (h : Ms W base ms ss) (hg : W.grownBy W' (some r)) (hr : r ∉ ms) : Ms W' base ms ss :=
  ⟨⟨h.1.1, fun i b s h1 h2 => (h.1.2 i b s h1 h2).grown hg (fun e => by cases e; exact hr (List.mem_of_getElem? h1))⟩, h.2⟩
theorem Ms.snoc {W : World} {base : Nat} {ms : List Nat} {ss : List (List Lk)} (h : Ms W base ms ss) (hb : base ≤ W.heap.size) : Ms (W.alloc (.map #[] 0)) base (ms ++ [W.heap.size]) (ss ++ [[]]) := by
  have hl := h.lt
  refine ⟨⟨by simp [h.1.1], fun i b s h1 h2 => ?_⟩, ?_, fun b hm => ?_⟩
  · rw [List.getElem?_append] at h1 h2
    have := h.1.1
    split at h1
    · rw [if_pos (by omega)] at h2
      exact (h.1.2 i b s h1 h2).grown (gbel (bAlc (Below.refl _ _) _)) (by simp)
    · rw [if_neg (by omega)] at h2
      have e1 := List.mem_of_getElem? h1
      have e2 := List.mem_of_getElem? h2
      rw [List.mem_singleton.1 e1, List.mem_singleton.1 e2]
      exact mapl_new _ _ rfl
  · rw [List.nodup_append]
    refine ⟨h.2.1, by simp, fun x hx y hy => ?_⟩
    rw [List.mem_singleton.1 hy]
    have := hl x hx; omega
  · rcases List.mem_append.1 hm with hm | hm
    · exact h.2.2 b hm
    · rw [List.mem_singleton.1 hm]; exact hb
theorem nodup_idx {l : List Nat} (h : l.Nodup) {i j b : Nat} (h1 : l[i]? = some b) (h2 : l[j]? = some b) : i = j := by
  obtain ⟨a1, a2⟩ := List.getElem?_eq_some_iff.1 h1
  obtain ⟨b1, b2⟩ := List.getElem?_eq_some_iff.1 h2
  have hp := List.pairwise_iff_getElem.1 h
  rcases Nat.lt_trichotomy i j with hlt | he | hlt
  · exact absurd (a2.trans b2.symm) (hp i j a1 b1 hlt)
  · exact he
  · exact absurd (b2.trans a2.symm) (hp j i b1 a1 hlt)
theorem Ms.turn {W W' : World} {base : Nat} {ms : List Nat} {ss : List (List Lk)} {i b : Nat} {s' : List Lk} (h : Ms W base ms ss) (hi : ms[i]? = some b) (ht : W.mapTurned W' b) (hm : MapL W' b s') : Ms W' base ms (ss.set i s') := by
  refine ⟨⟨by rw [List.length_set]; exact h.1.1, fun j b' s h1 h2 => ?_⟩, h.2⟩
  by_cases hij : i = j
  · subst hij
    rw [hi] at h1; cases h1
    rw [List.getElem?_set_self (by have := (List.getElem?_eq_some_iff.1 hi).1; rw [← h.1.1]; exact this)] at h2
    cases h2; exact hm
  · rw [List.getElem?_set_ne hij] at h2
    refine (h.1.2 j b' s h1 h2).grown (turned_grown ht) (fun e => ?_)
    have e := Option.some.inj e
    subst e
    exact hij (nodup_idx h.2.1 hi h1)
def totM (ss : List (List Lk)) : Nat := (ss.map List.length).sum
theorem totM_le : ∀ {ss S : List (List Lk)}, ss.length = S.length → (∀ (i : Nat) (s t : List Lk), ss[i]? = some s → S[i]? = some t → s.Nodup ∧ ∀ z ∈ s, z ∈ t) → totM ss ≤ totM S
  | [], [], _, _ => Nat.le_refl _
  | s :: ss, t :: S, hl, h => by
    have h0 := h 0 s t rfl rfl
    have h1 := totM_le (ss := ss) (S := S) (by simpa using hl) (fun i s' t' a b => h (i + 1) s' t' (by simpa using a) (by simpa using b))
    have h2 := sub_len h0.1 h0.2
    simp only [totM, List.map_cons, List.sum_cons] at *
    omega
theorem totM_set : ∀ (ss : List (List Lk)) (i : Nat) (s s' : List Lk), ss[i]? = some s → totM (ss.set i s') + s.length = totM ss + s'.length
  | x :: ss, 0, s, s', h => by
    simp at h; subst h
    simp only [totM, List.set_cons_zero, List.map_cons, List.sum_cons]; omega
  | x :: ss, i + 1, s, s', h => by
    have := totM_set ss i s s' (by simpa using h)
    simp only [totM, List.set_cons_succ, List.map_cons, List.sum_cons] at *; omega
end Go.Proofs.YtjnmkdahbcmfaaaGreat

/- Grammars in memory, with nothing said of capacities. -/
namespace Go.Proofs.YtjnmkdahbcmfaaaGreat
open Go.ChangeShapes Go.WideShapes Go.ChangeAt Go.RowKit
set_option linter.unusedVariables false
def RdQ (w : World) (B : Nat) (A : Option Addr) (n : Nat) (ps : List Pr) : Prop :=
  ps.length = n ∧ (n = 0 ∨ ∃ b off, A = some ⟨b, off, none⟩ ∧ b < B ∧ ∀ (i : Nat) (p : Pr), ps[i]? = some p → w.cell? ⟨b, off + i * 2, none⟩ = some (.int .i64 p.left) ∧
    ∃ RA c, w.cell? ⟨b, off + i * 2 + 1, none⟩ = some (.slice RA p.right.length c) ∧ Rd1 w B RA p.right.length (ints p.right))
theorem RdQ.below {w w' : World} {B : Nat} {A : Option Addr} {n : Nat} {l : List Pr} (h : RdQ w B A n l) (hb : Below B w w') : RdQ w' B A n l := by
  refine ⟨h.1, ?_⟩
  rcases h.2 with h0 | ⟨b, off, rfl, hlt, hc⟩
  · exact .inl h0
  · refine .inr ⟨b, off, rfl, hlt, fun i x hx => ?_⟩
    obtain ⟨h1, RA, c, h2, h3⟩ := hc i x hx
    exact ⟨by rw [hb.cell (p := ⟨b, off + i * 2, none⟩) hlt]; exact h1, RA, c, by rw [hb.cell (p := ⟨b, off + i * 2 + 1, none⟩) hlt]; exact h2, h3.below hb⟩
theorem RdQ.get {w : World} {B : Nat} {A : Option Addr} {n : Nat} {l : List Pr} (h : RdQ w B A n l) {i : Nat} {p : Pr} (hi : l[i]? = some p) :
    ∃ b off, A = some ⟨b, off, none⟩ ∧ b < B ∧ w.cell? ⟨b, off + i * 2, none⟩ = some (.int .i64 p.left) ∧ ∃ RA c, w.cell? ⟨b, off + i * 2 + 1, none⟩ = some (.slice RA p.right.length c) ∧ Rd1 w B RA p.right.length (ints p.right) := by
  have hlt := (List.getElem?_eq_some_iff.1 hi).1
  rcases h.2 with h0 | ⟨b, off, rfl, hb, hc⟩
  · have := h.1; omega
  · obtain ⟨h1, h2⟩ := hc i p hi
    exact ⟨b, off, rfl, hb, h1, h2⟩
structure GrR (w : World) (B : Nat) (g : Gr) (a : GA) : Prop where
  prods : RdQ w B a.pa g.prods.length g.prods
theorem GrR.below {w w' : World} {B : Nat} {g : Gr} {a : GA} (h : GrR w B g a) (hb : Below B w w') : GrR w' B g a := ⟨h.prods.below hb⟩
def GQ (w : World) (g : Gr) (a : GA) (W : World) : Prop := Blk W w.heap.size 25 (gcells g a) ∧ GrR W w.heap.size g a ∧ Below w.heap.size w W
theorem GQ.start {w : World} {g : Gr} {a : GA} (h : GrR w w.heap.size g a) : GQ w g a (w.alloc (.cells (gcells g a) 25)) :=
  ⟨Blk.new w 25 _, h.below (bAlc (Below.refl w.heap.size w) _), bAlc (Below.refl w.heap.size w) _⟩
theorem GQ.step {w : World} {g : Gr} {a : GA} {W W1 : World} (h : GQ w g a W) (hb : Below W.heap.size W W1) : GQ w g a W1 :=
  ⟨h.1.step hb, h.2.1.below (hb.mono h.2.2.size), bStep h.2.2 hb⟩
theorem GQ.lt {w : World} {g : Gr} {a : GA} {W : World} (h : GQ w g a W) : w.heap.size < W.heap.size := h.1.lt
theorem GQ.far {w : World} {g : Gr} {a : GA} {W : World} (h : GQ w g a W) (p : Addr) (v : Value) (hp : w.heap.size < p.block) : GQ w g a (W.setCell p v) :=
  ⟨h.1.far (by omega) v, h.2.1.below ((Below.refl _ _).setCell (by omega) v), bSet h.2.2 p v (by omega)⟩
theorem GQ.low {w W W' : World} {g : Gr} {a : GA} {B : Nat} (h : GQ w g a W) (hb : Below B W W') (hB : w.heap.size < B) : GQ w g a W' :=
  ⟨h.1.below hb hB, h.2.1.below (hb.mono (by omega)), h.2.2.trans (hb.mono (by omega))⟩
theorem GQ.turned {w W W' : World} {g : Gr} {a : GA} {b : Nat} (h : GQ w g a W) (ht : W.mapTurned W' b) (hb : w.heap.size < b) : GQ w g a W' := by
  have hlt := h.lt
  exact h.low ((Below.refl _ _).grown (turned_grown ht) (show w.heap.size + 1 ≤ _ by omega) (fun k hk => by cases hk; exact hb)) (by omega)
theorem GQ.cells {w : World} {g : Gr} {a : GA} {W : World} (h : GQ w g a W) : W.cell? ⟨w.heap.size, 0, none⟩ = some (.int .i64 g.k) ∧ W.cell? ⟨w.heap.size, 1, none⟩ = some (.slice a.ta g.toks.length a.tc) ∧ W.cell? ⟨w.heap.size, 2, none⟩ = some (.string g.sep) ∧
    W.cell? ⟨w.heap.size, 3, none⟩ = some (.slice a.na g.names.length a.nc) ∧ W.cell? ⟨w.heap.size, 4, none⟩ = some (.int .i64 g.start) ∧ W.cell? ⟨w.heap.size, 5, none⟩ = some (.slice a.pa g.prods.length a.pc) :=
  ⟨h.1.cell 0, h.1.cell 1, h.1.cell 2, h.1.cell 3, h.1.cell 4, h.1.cell 5⟩
theorem GQ.fr {w : World} {g : Gr} {a : GA} (h : GrR w w.heap.size g a) : Hid (∀ X, Below (w.alloc (.cells (gcells g a) 25)).heap.size (w.alloc (.cells (gcells g a) 25)) X → GQ w g a X) := Lib.hid fun X hb => (GQ.start h).step hb
end Go.Proofs.YtjnmkdahbcmfaaaGreat

/- first: sets, the walk. -/
namespace Go.Proofs.YtjnmkdahbcmfaaaGreat
open Go.ChangeShapes Go.WideShapes Go.ChangeAt Go.RowKit
set_option linter.unusedVariables false
set_option maxRecDepth 100000
def tcs (g : Gr) (a : GA) (v : Value) : Array Value := #[.int .i64 g.k, .slice a.ta g.toks.length a.tc, .string g.sep, .slice a.na g.names.length a.nc, .int .i64 g.start, .slice a.pa g.prods.length a.pc, v]
def zcs : Array Value := #[.int .i64 0, .slice none 0 0, .string ⟨#[]⟩, .slice none 0 0, .int .i64 0, .slice none 0 0, .slice none 0 0]
structure SW (w : World) (g : Gr) (a : GA) (rb tb : Nat) (v : Value) (ms : List Nat) (ss : List (List Lk)) (W : World) : Prop where
  gb : GQ w g a W
  res : Blk W rb 276 zcs
  tab : Blk W tb 276 (tcs g a v)
  own : Own1 W (tb + 1) 279 v (mvals ms)
  maps : Ms W (tb + 1) ms ss
  wr : w.heap.size < rb
  rt : rb < tb
section
variable {w W W' : World} {g : Gr} {a : GA} {rb tb : Nat} {v : Value} {ms : List Nat} {ss : List (List Lk)}
theorem SW.step (h : SW w g a rb tb v ms ss W) (hb : Below W.heap.size W W') : SW w g a rb tb v ms ss W' :=
  ⟨h.gb.step hb, h.res.step hb, h.tab.step hb, h.own.step hb, h.maps.step hb, h.wr, h.rt⟩
theorem Own1.notMap {base b0 : Nat} {e : TypeId} {vs : List Value} (h : Own1 W base e v vs) (hm : Ms W b0 ms ss) : ∀ r, v.ownBlock = some r → r ∉ ms := by
  intro r hr hmem
  rcases h.2 with ⟨rfl, _⟩ | ⟨k, cap, cur, rfl, _, hk, _⟩
  · cases hr
  · have : k = r := by simpa [Value.ownBlock] using hr
    subst this
    obtain ⟨i, hi⟩ := List.mem_iff_getElem?.1 hmem
    have hl : i < ss.length := by have := (List.getElem?_eq_some_iff.1 hi).1; rw [← hm.1.1]; exact this
    obtain ⟨es, ck, h1, _⟩ := hm.1.2 i k _ hi (List.getElem?_eq_getElem hl)
    rw [hk] at h1; cases h1
theorem Ms.grown {base : Nat} {row : Option Nat} (h : Ms W base ms ss) (hg : W.grownBy W' row) (hr : ∀ r, row = some r → r ∉ ms) : Ms W' base ms ss :=
  ⟨⟨h.1.1, fun i b s h1 h2 => (h.1.2 i b s h1 h2).grown hg (fun e => hr b e.symm (List.mem_of_getElem? h1))⟩, h.2⟩
theorem Own1.farV {base : Nat} {e : TypeId} {vs : List Value} (h : Own1 W base e v vs) (p : Addr) (u : Value) (hp : p.block < base) : Own1 (W.setCell p u) base e v vs := by
  refine ⟨h.1, ?_⟩
  rcases h.2 with hn | ⟨k, cap, cur, rfl, hk0, hk, rest⟩
  · exact .inl hn
  · exact .inr ⟨k, cap, cur, rfl, hk0, (Below.heap_setCell W p u k (by omega)).trans hk, rest⟩
theorem Ms.far {base : Nat} (h : Ms W base ms ss) (p : Addr) (u : Value) (hp : p.block < base) : Ms (W.setCell p u) base ms ss := by
  refine ⟨⟨h.1.1, fun i b s h1 h2 => ?_⟩, h.2⟩
  obtain ⟨es, ck, h3, h4⟩ := h.1.2 i b s h1 h2
  have := h.2.2 b (List.mem_of_getElem? h1)
  exact ⟨es, ck, (Below.heap_setCell W p u b (by omega)).trans h3, h4⟩
theorem SW.snoc {W1 : World} {v' : Value} (h : SW w g a rb tb v ms ss W) (ho : Own1 W1 (tb + 1) 279 v' (mvals ms ++ [.map (some W.heap.size)])) (cs : Array Value) (hg : ((W.alloc (.map #[] 0)).alloc (.cells cs 279)).grownBy W1 v.ownBlock)
    (hb : Below (tb + 1) ((W.alloc (.map #[] 0)).alloc (.cells cs 279)) W1) : SW w g a rb tb v' (ms ++ [W.heap.size]) (ss ++ [[]]) (W1.setCell ⟨tb, 6, none⟩ v') := by
  have hb0 : Below W.heap.size W ((W.alloc (.map #[] 0)).alloc (.cells cs 279)) := bAlc (bAlc (Below.refl _ _) _) _
  have h1 := h.step hb0
  have hwr := h.wr
  have hrt := h.rt
  have hlt := h.tab.lt
  have hm : Ms ((W.alloc (.map #[] 0)).alloc (.cells cs 279)) (tb + 1) (ms ++ [W.heap.size]) (ss ++ [[]]) := (h.maps.snoc (by omega)).step (bAlc (Below.refl _ _) _)
  have ht := (h1.tab.below hb (by omega)).put 6 v'
  refine ⟨(h1.gb.low hb (by omega)).far ⟨tb, 6, none⟩ v' (by show w.heap.size < tb; omega), (h1.res.below hb (by omega)).far (by show rb ≠ tb; omega) v', ?_, ?_, ?_, hwr, hrt⟩
  · simpa [tcs] using ht
  · have : mvals (ms ++ [W.heap.size]) = mvals ms ++ [.map (some W.heap.size)] := by simp [mvals]
    rw [this]; exact ho.farV _ _ (by show tb < tb + 1; omega)
  · exact (hm.grown hg (Own1.notMap (h1.own) hm)).far _ _ (by show tb < tb + 1; omega)
theorem setM_same {ss : List (List Lk)} {i : Nat} {s : List Lk} (h : ss[i]? = some s) : ss.set i s = ss := by
  obtain ⟨h1, h2⟩ := List.getElem?_eq_some_iff.1 h
  rw [← h2]; exact List.set_getElem_self h1
theorem setOf_mem {ss : List (List Lk)} {i : Nat} {s : List Lk} (h : ss[i]? = some s) {z : Lk} : setOf ss i z ↔ z ∈ s := by unfold setOf; rw [List.getD_eq_getElem?_getD, h]; rfl
theorem setOf_set {ss : List (List Lk)} {i : Nat} {s s' : List Lk} (h : ss[i]? = some s) (k : Nat) (z : Lk) : setOf (ss.set i s') k z ↔ (k = i ∧ z ∈ s') ∨ (k ≠ i ∧ setOf ss k z) := by
  have hl := (List.getElem?_eq_some_iff.1 h).1
  unfold setOf
  rw [List.getD_eq_getElem?_getD, List.getD_eq_getElem?_getD]
  by_cases hk : k = i
  · subst hk; rw [List.getElem?_set_self hl]; simp
  · rw [List.getElem?_set_ne (Ne.symm hk)]; simp [hk]
theorem setOf_U {ss S : List (List Lk)} {U : Lk → Prop} (hs : ∀ i z, setOf ss i z → setOf S i z) (hU : ∀ s ∈ S, ∀ z ∈ s, U z) : ∀ s ∈ ss, ∀ z ∈ s, U z := by
  intro s hm z hz
  obtain ⟨i, hi⟩ := List.mem_iff_getElem?.1 hm
  have h1 := hs i z ((setOf_mem hi).2 hz)
  unfold setOf at h1
  rw [List.getD_eq_getElem?_getD] at h1
  cases h2 : S[i]? with
  | none => rw [h2] at h1; simp at h1
  | some t => rw [h2] at h1; exact hU t (List.mem_of_getElem? h2) z h1
theorem Own1.lt {base : Nat} {e : TypeId} {vs : List Value} {sb so : Nat} {n c : Nat} (h : Own1 W base e (.slice (some ⟨sb, so, none⟩) n c) vs) : sb < W.heap.size := by
  rcases h.2 with ⟨h1, _⟩ | ⟨k, cap, cur, h1, _, hk, _⟩
  · cases h1
  · injection h1 with h1; cases h1; exact (Array.getElem?_eq_some_iff.1 hk).1
theorem SW.rd {A : Option Addr} {n c : Nat} (h : SW w g a rb tb (.slice A n c) ms ss W) : Rd1 W W.heap.size A n (mvals ms) := by
  obtain ⟨A', c', he, hr, _⟩ := h.own.reads
  injection he with e1 e2 e3
  rw [e1, e2]; exact hr
theorem SW.moved {r : Nat} (h : SW w g a rb tb v ms ss W) (hg : W.grownBy W' (some r)) (hr : tb + 1 ≤ r) (hv : v.ownBlock ≠ some r) (hm : r ∉ ms) : SW w g a rb tb v ms ss W' := by
  have hwr := h.wr
  have hrt := h.rt
  have hlt := h.tab.lt
  have hb : Below (tb + 1) W W' := (Below.refl _ _).grown hg (by omega) (fun k hk => by cases hk; exact hr)
  exact ⟨h.gb.low hb (by omega), h.res.grown hg (by simp; omega), h.tab.grown hg (by simp; omega), World.ownsRow.kept h.own hg (.inr (fun e => hv e)), h.maps.moved hg hm, hwr, hrt⟩
theorem SW.turn {i b : Nat} {s' : List Lk} (h : SW w g a rb tb v ms ss W) (hi : ms[i]? = some b) (ht : W.mapTurned W' b) (hm : MapL W' b s') : SW w g a rb tb v ms (ss.set i s') W' := by
  have hwr := h.wr
  have hrt := h.rt
  have hlt := h.tab.lt
  have hbm := h.maps.2.2 b (List.mem_of_getElem? hi)
  have hg := turned_grown ht
  have hb : Below (tb + 1) W W' := (Below.refl _ _).grown hg (by omega) (fun k hk => by cases hk; exact hbm)
  exact ⟨h.gb.low hb (by omega), h.res.grown hg (by simp; omega), h.tab.grown hg (by simp; omega), World.ownsRow.kept h.own hg (.inr (fun e => Own1.notMap h.own h.maps b e (List.mem_of_getElem? hi))), h.maps.turn hi ht hm, hwr, hrt⟩
theorem Ms.tot {base : Nat} {S : List (List Lk)} (h : Ms W base ms ss) (hl : ss.length = S.length) (hs : ∀ i z, setOf ss i z → setOf S i z) : totM ss ≤ totM S := totM_le hl fun i s t h1 h2 => by
  have hb : ms[i]? = some (ms[i]'(by rw [h.1.1]; exact (List.getElem?_eq_some_iff.1 h1).1)) := List.getElem?_eq_getElem _
  obtain ⟨es, ck, h3, h4, h5, h6, h7, h8⟩ := h.1.2 i _ s hb h1
  exact ⟨h7, fun z hz => (setOf_mem h2).1 (hs i z ((setOf_mem h1).2 hz))⟩
structure RW (w : World) (rb tb : Nat) (v : Value) (ms : List Nat) (ss : List (List Lk)) (cs : Array Value) (W : World) : Prop where
  res : Blk W rb 276 cs
  own : Own1 W (tb + 1) 279 v (mvals ms)
  maps : Ms W (tb + 1) ms ss
  bel : Below w.heap.size w W
  wr : w.heap.size < rb
  rt : rb < tb
theorem RW.put {cs : Array Value} (h : RW w rb tb v ms ss cs W) (i : Nat) (u : Value) : RW w rb tb v ms ss (cs.setIfInBounds i u) (W.setCell ⟨rb, i, none⟩ u) := by
  have hwr := h.wr
  have hrt := h.rt
  exact ⟨h.res.put i u, h.own.farV _ _ (by show rb < tb + 1; omega), h.maps.far _ _ (by show rb < tb + 1; omega), bSet h.bel _ _ (by show w.heap.size ≤ rb; omega), hwr, hrt⟩
theorem underT : Tryz.prog.underlying 276 = some (.struct (Tryz.prog.fieldsOf 276)) := by kernel_rfl
theorem sizeT7 : (Tryz.prog.info? 276).map (·.size) = some 7 := by kernel_rfl
end
set_option maxHeartbeats 8000000 in
theorem sets_any (g : Gr) (a : GA) (J : Lk → Lk → Lk) (U : Lk → Prop) (hU : UJ g.k J U) (hU0 : U nilK) (S : List (List Lk)) (w : World) (hg : GrR w w.heap.size g a) (hSl : S.length = g.names.length) (hSU : ∀ s ∈ S, ∀ z ∈ s, U z) (hcl : ClosedP g.k J (setOf S) g.prods)
    (hle : ∀ T, ClosedP g.k J T g.prods → ∀ i z, setOf S i z → T i z) (hnm : g.names.length ≤ 1000) (hpm : g.prods.length ≤ 1000) (hpr : ∀ p ∈ g.prods, 16 ≤ p.left ∧ p.left < 16 + g.names.length ∧ p.right.length ≤ 1000 ∧ ∀ s ∈ p.right, SymU U g.names.length s) :
    Calls Tryz.prog 268 #[gval g a] w fun e w' => ∃ v ms ss, e = .returned (.agg (tcs g a v)) ∧ Own1 w' w.heap.size 279 v (mvals ms) ∧ Ms w' w.heap.size ms ss ∧ (∀ i z, setOf ss i z ↔ setOf S i z) ∧ ss.length = g.names.length ∧ Below w.heap.size w w' := by
  refine opq fun RR hR => ?_
  have hmm := @run_makeMap Tryz.prog
  have hG := GQ.fr hg
  obtain ⟨ta, tc, na, nc, pa, pc⟩ := a
  unfold tcs gval gcells at *
  dsimp only at *
  go_enter Tryz.func268, Tryz.ntmps268
  go_wp2_with fail
  go_step3
  go_upto_region 2 with (fail)
  have hbG : Below (w.alloc (.cells #[.int .i64 g.k, .slice ta g.toks.length tc, .string g.sep, .slice na g.names.length nc, .int .i64 g.start, .slice pa g.prods.length pc] 25)).heap.size (w.alloc (.cells #[.int .i64 g.k, .slice ta g.toks.length tc, .string g.sep, .slice na g.names.length nc, .int .i64 g.start, .slice pa g.prods.length pc] 25)) (((w.alloc (.cells #[.int .i64 g.k, .slice ta g.toks.length tc, .string g.sep, .slice na g.names.length nc, .int .i64 g.start, .slice pa g.prods.length pc] 25)).alloc (.cells #[.int .i64 0, .slice none 0 0, .string ⟨#[]⟩, .slice none 0 0, .int .i64 0, .slice none 0 0, .slice none 0 0] 276)).alloc (.cells #[.int .i64 g.k, .slice ta g.toks.length tc, .string g.sep, .slice na g.names.length nc, .int .i64 g.start, .slice pa g.prods.length pc, .slice none 0 0] 276)) := bAlc (bAlc (Below.refl _ _) _) _
  have hG1 := hG.out _ hbG
  have q1 : Blk (((w.alloc (.cells #[.int .i64 g.k, .slice ta g.toks.length tc, .string g.sep, .slice na g.names.length nc, .int .i64 g.start, .slice pa g.prods.length pc] 25)).alloc (.cells #[.int .i64 0, .slice none 0 0, .string ⟨#[]⟩, .slice none 0 0, .int .i64 0, .slice none 0 0, .slice none 0 0] 276)).alloc (.cells #[.int .i64 g.k, .slice ta g.toks.length tc, .string g.sep, .slice na g.names.length nc, .int .i64 g.start, .slice pa g.prods.length pc, .slice none 0 0] 276)) (w.heap.size + 1) 276 #[.int .i64 0, .slice none 0 0, .string ⟨#[]⟩, .slice none 0 0, .int .i64 0, .slice none 0 0, .slice none 0 0] := (Blk.newAt _ _ _ _ (by simp)).alloc _
  have q2 : Blk (((w.alloc (.cells #[.int .i64 g.k, .slice ta g.toks.length tc, .string g.sep, .slice na g.names.length nc, .int .i64 g.start, .slice pa g.prods.length pc] 25)).alloc (.cells #[.int .i64 0, .slice none 0 0, .string ⟨#[]⟩, .slice none 0 0, .int .i64 0, .slice none 0 0, .slice none 0 0] 276)).alloc (.cells #[.int .i64 g.k, .slice ta g.toks.length tc, .string g.sep, .slice na g.names.length nc, .int .i64 g.start, .slice pa g.prods.length pc, .slice none 0 0] 276)) (w.heap.size + 2) 276 #[.int .i64 g.k, .slice ta g.toks.length tc, .string g.sep, .slice na g.names.length nc, .int .i64 g.start, .slice pa g.prods.length pc, .slice none 0 0] := Blk.newAt _ _ _ _ (by simp)
  clear hbG
  generalize ((w.alloc (.cells #[.int .i64 g.k, .slice ta g.toks.length tc, .string g.sep, .slice na g.names.length nc, .int .i64 g.start, .slice pa g.prods.length pc] 25)).alloc (.cells #[.int .i64 0, .slice none 0 0, .string ⟨#[]⟩, .slice none 0 0, .int .i64 0, .slice none 0 0, .slice none 0 0] 276)).alloc (.cells #[.int .i64 g.k, .slice ta g.toks.length tc, .string g.sep, .slice na g.names.length nc, .int .i64 g.start, .slice pa g.prods.length pc, .slice none 0 0] 276) = W1 at *
  have hSW : SW w g ⟨ta, tc, na, nc, pa, pc⟩ (w.heap.size + 1) (w.heap.size + 1 + 1) (.slice none 0 0) [] [] W1 := ⟨hG1, q1, q2, Own1.nil _ _ _, ⟨⟨rfl, fun i b s h => by simp at h⟩, List.nodup_nil, by simp⟩, by omega, by omega⟩
  clear hG1 q1 q2 hG
  generalize w.heap.size + 1 = rb at *
  generalize rb + 1 = tb at *
  obtain ⟨c0, c1, c2, c3, c4, c5⟩ := hSW.gb.cells
  dsimp only at c3
  go_wp2_with fail
  clear c0 c1 c2 c3 c4 c5
  go_loopg [14] g.names.length (fun gk s14 wr => ∃ (i : Nat) (v : Value) (ms : List Nat), s14 = .int .i64 i ∧ Hid (i + gk = g.names.length) ∧ Hid (ms.length = i) ∧ SW w g ⟨ta, tc, na, nc, pa, pc⟩ rb tb v ms (List.replicate i []) wr)
  case atStart => exact ⟨0, _, [], rfl, Lib.hid (by omega), Lib.hid rfl, hSW⟩
  case round =>
    clear hSW
    obtain ⟨i, v, ms, rfl, hi, hml, hS⟩ := hrel
    by_cases hin : i < g.names.length
    · have hz1 : (0 : Int) ≤ i := by omega
      have hz2 : (i : Int) < g.names.length := by omega
      have y6 := hS.tab.cell 6
      simp only [tcs, List.getElem?_toArray, List.getElem?_cons_zero, List.getElem?_cons_succ] at y6
      have hlt : tb < wr.heap.size := hS.tab.lt
      have y7 := hS.tab.frozen 6
      go_wp2_with (at_builtin; refine wpList_join1 _ rfl _ _ 274 rfl (tb + 1) 279 _ 8 underS info1M rfl _ (mvals ms) rfl ((hS.own.alloc _).alloc _) _ _ 1 1 [.map (some wr.heap.size)] rfl (rd_blk (Blk.newAt _ _ _ _ (by simp))) (by simp [Value.oneCell']) (by have := hml.out; simp only [mvals, List.length_map]; omega) (by simp) (by simp; omega) ?_; intro v' w1 hown1 hg1 hat1 hb1; replace hg1 : ((wr.alloc (.map #[] 0)).alloc (.cells #[.map (some wr.heap.size)] 279)).grownBy w1 v.ownBlock := hg1; have hB1 := hb1 _ (Below.refl _ _); have q8 := (hS.tab.step (bAlc (bAlc (Below.refl _ _) (.map #[] 0)) (.cells #[.map (some wr.heap.size)] 279))).below hB1 (Nat.lt_succ_self tb); have y8 := q8.cell 6; have y9 := q8.frozen 6; simp only [tcs, List.getElem?_toArray, List.getElem?_cons_zero, List.getElem?_cons_succ] at y8; obtain ⟨A1, k1, hv1, _⟩ := hown1.reads; subst hv1; clear hat1 hb1)
      go_roundg (g.names.length - (i + 1))
      case measure => have := hi.out; omega
      case rel =>
        have h9 := hS.snoc hown1 _ hg1 hB1
        simp only [List.length_append, List.length_singleton] at h9
        refine ⟨i + 1, .slice A1 ((mvals ms).length + 1) k1, ms ++ [wr.heap.size], by go_num, Lib.hid (by omega), Lib.hid (by have := hml.out; simp; omega), ?_⟩
        rw [List.replicate_succ']
        exact h9
    · have hie : i = g.names.length := by have := hi.out; omega
      have hz3 : ¬ ((i : Int) < g.names.length) := by omega
      rw [hie] at hS
      have hml2 : Hid (ms.length = g.names.length) := Lib.hid (by rw [hml.out, hie])
      replace hie := Lib.hid hie
      clear hi hml
      obtain ⟨A, c, hv, _⟩ := hS.own.reads
      rw [show (mvals ms).length = g.names.length by rw [mvals, List.length_map]; exact hml2.out] at hv
      subst hv
      have hT0 : totM (List.replicate g.names.length ([] : List Lk)) = 0 := by simp [totM]
      go_wp2_with fail
      go_step3
      go_wp2_with fail
      generalize wr = wE at *
      go_loopg [] (totM S + 1) (fun gk wr => ∃ ss : List (List Lk), Hid (totM ss + gk = totM S + 1) ∧ Hid (ss.length = g.names.length) ∧ Hid (∀ i z, setOf ss i z → setOf S i z) ∧ SW w g ⟨ta, tc, na, nc, pa, pc⟩ rb tb (.slice A g.names.length c) ms ss wr)
      case atStart => exact ⟨_, Lib.hid (by omega), Lib.hid (by simp), Lib.hid (fun i z h => by unfold setOf at h; rw [List.getD_eq_getElem?_getD, List.getElem?_replicate] at h; split at h <;> simp at h), hS⟩
      case round =>
        clear hS hT0
        obtain ⟨ss, hgk, hsl, hsub, hS⟩ := hrel
        obtain ⟨c0, c1, c2, c3, c4, c5⟩ := hS.gb.cells
        dsimp only at c5
        go_wp2_with fail
        clear c0 c1 c2 c3 c4 c5
        generalize wr = wF at *
        go_loopg [4, 26] g.prods.length (fun gk2 s4 s26 wr => ∃ (j : Nat) (ss' : List (List Lk)) (ch : Bool), s26 = .int .i64 j ∧ s4 = .bool ch ∧ Hid (j + gk2 = g.prods.length) ∧ Hid (ss'.length = g.names.length) ∧ Hid (∀ i z, setOf ss' i z → setOf S i z) ∧ SW w g ⟨ta, tc, na, nc, pa, pc⟩ rb tb (.slice A g.names.length c) ms ss' wr ∧ Hid (if ch then totM ss < totM ss' else ss' = ss ∧ ClosedP g.k J (setOf ss) (g.prods.take j)))
        case atStart => exact ⟨0, ss, false, rfl, rfl, Lib.hid (by omega), hsl, hsub, hS, Lib.hid ⟨rfl, by simp [ClosedP]⟩⟩
        case round =>
          clear hS
          obtain ⟨j, ss', ch, rfl, rfl, hj, hsl', hsub', hS, hch⟩ := hrel
          by_cases hjn : j < g.prods.length
          · have hxi : g.prods[j]? = some g.prods[j] := List.getElem?_eq_getElem hjn
            obtain ⟨b, off, hA, hbt, x0, RA, rc, x1, hx2⟩ := hS.gb.2.1.prods.get hxi
            dsimp only at hA
            subst hA
            have htk : Hid (g.prods.take (j + 1) = g.prods.take j ++ [g.prods[j]]) := Lib.hid (List.take_succ_eq_append_getElem hjn)
            have hpp := hpr _ (List.getElem_mem hjn)
            have hcp := Lib.hid (hcl _ (List.getElem_mem hjn))
            generalize g.prods[j] = p at *
            obtain ⟨hp1, hp2, hp3, hp4⟩ := hpp
            replace hp4 := Lib.hid hp4
            obtain ⟨ix, hix⟩ := Int.eq_ofNat_of_zero_le (show 0 ≤ p.left - 16 by omega)
            have hixn : (p.left - 16).toNat = ix := by omega
            have hixl : ix < g.names.length := by omega
            obtain ⟨bm, hbm⟩ : ∃ bm, ms[ix]? = some bm := ⟨_, List.getElem?_eq_getElem (by rw [hml2.out]; exact hixl)⟩
            obtain ⟨old, hold⟩ : ∃ old, ss'[ix]? = some old := ⟨_, List.getElem?_eq_getElem (by rw [hsl'.out]; exact hixl)⟩
            obtain ⟨sb, soff, hAA, hsb, y0⟩ := hS.rd.get (i := ix) (v := .map (some bm)) (by rw [mvals, List.getElem?_map, hbm]; rfl)
            have hzj : (0 : Int) ≤ j := by omega
            have hzk : (j : Int) < g.prods.length := by omega
            have hzx : (0 : Int) ≤ ix := by omega
            have hzy : (ix : Int) < g.names.length := by omega
            have zw : IntKind.i64.wrap (ix : Int) = ix := IntWalk.i64_in _ (by omega)
            have y6 := hS.tab.cell 6
            simp only [tcs, List.getElem?_toArray, List.getElem?_cons_zero, List.getElem?_cons_succ] at y6
            have hlt : tb < wr.heap.size := hS.tab.lt
            have hsb2 : sb < wr.heap.size := hsb
            subst hAA
            replace hxi := Lib.hid hxi
            replace hixn := Lib.hid hixn
            replace hbm := Lib.hid hbm
            replace hold := Lib.hid hold
            go_upto_region 11 with (fail)
            have hb4 := bAlc (Below.refl wr.heap.size wr) (.cells #[.int .i64 p.left, .slice RA p.right.length rc] 61)
            have hS4 := hS.step hb4
            have q4 := Blk.new wr 61 #[.int .i64 p.left, .slice RA p.right.length rc]
            have hR4 := (hx2.below (hb4.mono hS.gb.2.2.size)).mono hS4.gb.2.2.size
            have hUs := setOf_U hsub'.out hSU
            clear hb4 hS hx2 x0 x1 y0 y6
            generalize wr.alloc (.cells #[.int .i64 p.left, .slice RA p.right.length rc] 61) = W4 at *
            generalize wr.heap.size = pb at *
            have hOf := Lib.hid (of_any g.k J U hU hU0 (.slice ta g.toks.length tc) (.string g.sep) (.slice na g.names.length nc) (.int .i64 g.start) (.slice (some ⟨b, off, none⟩) g.prods.length pc) (some ⟨sb, soff, none⟩) g.names.length c ms ss' RA p.right.length rc p.right W4 (by omega) hS4.rd hS4.maps.1 hUs hR4 (by omega) hp4.out)
            have d1 := q4.cell 1
            have e0 := hS4.tab.cell 0
            have e1 := hS4.tab.cell 1
            have e2 := hS4.tab.cell 2
            have e3 := hS4.tab.cell 3
            have e4 := hS4.tab.cell 4
            have e5 := hS4.tab.cell 5
            have e6 := hS4.tab.cell 6
            simp only [tcs, List.getElem?_toArray, List.getElem?_cons_zero, List.getElem?_cons_succ] at d1 e0 e1 e2 e3 e4 e5 e6
            go_wp2_with (first
              | (go_at_call 274; refine hOf.out.mono ?_; rintro e w5 ⟨b2, out, rfl, a1, a2, a3, a4, a5⟩; replace a4 := Lib.hid a4; replace a5 := Lib.hid a5)
              | (at_range; refine wpList_range_look _ underLM rfl _ rfl b2 out rfl a2 ?_; intro w6 hit hb6; go_frame))
            have hS5 := hS4.step a3
            have hS6 := hS5.step hb6
            have hsb5 : sb < w5.heap.size := hS5.own.lt
            have hb25 : b2 < w5.heap.size := a2.lt
            have htb5 : tb < w5.heap.size := hS5.tab.lt
            have hbm5 : bm < w5.heap.size := hS5.maps.lt bm (List.mem_of_getElem? hbm.out)
            have hms5 := Lib.hid hS5.maps.lt
            have hb2m : b2 ≠ bm := by have := hS4.maps.lt bm (List.mem_of_getElem? hbm.out); omega
            clear hS4 hS5 q4 hR4 hOf d1 e0 e1 e2 e3 e4 e5 e6 a1 a2 a3 hb6
            generalize w5.heap.size = r at *
            generalize wF = wF' at *
            rw [← setM_same hold.out] at hS6
            go_loopg [4] out.length (fun gk3 s4 wr => ∃ (done cur : List Lk) (ch2 : Bool), s4 = .bool ch2 ∧ Hid (done.length + gk3 = out.length) ∧ IterL wr b2 r out done ∧ SW w g ⟨ta, tc, na, nc, some ⟨b, off, none⟩, pc⟩ rb tb (.slice (some ⟨sb, soff, none⟩) g.names.length c) ms (ss'.set ix cur) wr ∧ Hid (∀ z, z ∈ cur ↔ z ∈ old ∨ z ∈ done) ∧ Hid ((ch2 = ch ∧ cur = old) ∨ (ch2 = true ∧ old.length < cur.length)))
            case atStart => exact ⟨[], old, ch, rfl, Lib.hid (by simp), hit, hS6, Lib.hid (fun z => by simp), Lib.hid (.inl ⟨rfl, rfl⟩)⟩
            case round =>
              clear hit hS6
              obtain ⟨done, cur, ch2, rfl, hdl, hit, hS, hcu, hc2⟩ := hrel
              go_wp2_with (first
                | (at_next; refine wpList_next_look _ rfl _ rfl b2 r out done rfl hit ?_ ?_)
                | go_in)
              · intro hall
                have hall' := Lib.hid hall
                clear hall
                have hdo := Lib.hid hit.sub.2.1
                go_wp2_with fail
                go_roundg (g.prods.length - (j + 1))
                case measure => have := hj.out; omega
                case rel =>
                  have hone : ∀ z, z ∈ out → setOf S ix z := fun z hz => by
                    have h1 := hcp.out z (ofP_mono hsub'.out p.right _ _ (fun _ h => h) z ((a4.out z).1 hz))
                    rwa [hixn.out] at h1
                  have hto := totM_set ss' ix old cur hold.out
                  refine ⟨j + 1, ss'.set ix cur, ch2, by go_num, rfl, Lib.hid (by have := hj.out; omega), Lib.hid (by rw [List.length_set]; exact hsl'.out), Lib.hid fun k z hz => ?_, hS, Lib.hid ?_⟩
                  · rcases (setOf_set hold.out k z).1 hz with ⟨hk, hz1⟩ | ⟨_, hz1⟩
                    · rw [hk]
                      rcases (hcu.out z).1 hz1 with hz2 | hz2
                      · exact hsub'.out _ z ((setOf_mem hold.out).2 hz2)
                      · exact hone z (hdo.out z hz2)
                    · exact hsub'.out k z hz1
                  · have hc := hch.out
                    rcases hc2.out with ⟨rfl, rfl⟩ | ⟨rfl, hlt2⟩
                    · rw [setM_same hold.out]
                      cases ch2 with
                      | true => simpa using hc
                      | false =>
                        simp only [Bool.false_eq_true, if_false] at hc ⊢
                        obtain ⟨rfl, hc⟩ := hc
                        refine ⟨rfl, ?_⟩
                        rw [htk.out]
                        intro p' hp'
                        rcases List.mem_append.1 hp' with hp' | hp'
                        · exact hc p' hp'
                        · rw [List.mem_singleton.1 hp']
                          intro z hz
                          rw [hixn.out, setOf_mem hold.out, hcu.out z]
                          exact .inr (hall'.out z ((a4.out z).2 hz))
                    · rw [if_pos rfl]
                      cases ch with
                      | true => simp only [if_true] at hc; omega
                      | false =>
                        simp only [Bool.false_eq_true, if_false] at hc
                        rw [← hc.1]; omega
              · intro x w2 hxs hxd hit2 hen hg2 hsz2
                have hwx : Hid x.wf := Lib.hid (hit.map.wfs x hxs)
                have hS2 := hS.moved hg2 (by omega) (by simp [Value.ownBlock]; omega) (fun hm => by have := hms5.out r hm; omega)
                unfold Lk.v at hen
                replace hsz2 := Lib.hid hsz2
                go_upto_region 14 with (fail)
                change Code.wp Tryz.prog _ _ _ (lay5 w2 x)
                have q10 := lay5_blk w2 x
                have hS3 := hS2.step (lay5_below w2 x)
                have hit3 := hit2.later (lay5_below w2 x)
                have hln2 : Hid (done.length + 1 ≤ out.length) := Lib.hid (by have := sub_len hit2.sub.1 hit2.sub.2.1; simpa using this)
                clear hit hS hit2 hS2 hen hg2 hsz2
                generalize lay5 w2 x = W7 at *
                generalize w2.heap.size = b10 at *
                have d0 := q10.cell 0
                have d1 := q10.cell 1
                have d2 := q10.cell 2
                have d3 := q10.cell 3
                have d4 := q10.cell 4
                simp only [Lk.cells, List.getElem?_toArray, List.getElem?_cons_zero, List.getElem?_cons_succ] at d0 d1 d2 d3 d4
                have hix0 : (ss'.set ix cur)[ix]? = some cur := List.getElem?_set_self (List.getElem?_eq_some_iff.1 hold.out).1
                have hMc := hS3.maps.1.2 ix bm cur hbm.out hix0
                replace hix0 := Lib.hid hix0
                have hwx2 := hwx.out
                by_cases hxc : x ∈ cur
                · have hdx : Hid (decide (x ∈ cur) = true) := Lib.hid (by simp [hxc])
                  replace hxc := Lib.hid hxc
                  go_upto_region 15 with (at_lookup; refine wpList_look _ underLM rfl _ _ rfl bm cur x rfl rfl hMc hwx2 ?_; rw [hdx.out])
                  go_roundg (out.length - (done.length + 1))
                  case measure => have := hdl.out; have := hln2.out; omega
                  case rel =>
                    refine ⟨done ++ [x], cur, ch2, rfl, Lib.hid (by have := hln2.out; rw [List.length_append, List.length_singleton]; omega), hit3, hS3, Lib.hid fun z => ?_, hc2⟩
                    rw [hcu.out z, List.mem_append, List.mem_singleton]
                    constructor
                    · rintro (h | h)
                      · exact .inl h
                      · exact .inr (.inl h)
                    · rintro (h | h | h)
                      · exact .inl h
                      · exact .inr h
                      · rw [h]; exact (hcu.out x).1 hxc.out
                · have hdx : Hid (decide (x ∈ cur) = false) := Lib.hid (by simp [hxc])
                  replace hxc := Lib.hid hxc
                  go_wp2_with (first
                    | (at_lookup; refine wpList_look _ underLM rfl _ _ rfl bm cur x rfl rfl hMc hwx2 ?_; rw [hdx.out])
                    | (at_mapUpdate; refine wpList_lay _ underLM rfl _ _ _ rfl bm cur x rfl rfl rfl hMc hwx2 ?_; intro w8 hM8 ht8))
                  rw [if_neg hxc.out] at hM8
                  have hS8 := hS3.turn hbm.out ht8 hM8
                  rw [List.set_set] at hS8
                  go_roundg (out.length - (done.length + 1))
                  case measure => have := hdl.out; have := hln2.out; omega
                  case rel =>
                    refine ⟨done ++ [x], cur ++ [x], true, rfl, Lib.hid (by have := hln2.out; rw [List.length_append, List.length_singleton]; omega), hit3.grown (turned_grown ht8) (by simpa using hb2m) (by simp; omega), hS8, Lib.hid fun z => ?_, Lib.hid (.inr ⟨rfl, ?_⟩)⟩
                    · rw [List.mem_append, hcu.out z, List.mem_append, or_assoc]
                    · have := hc2.out
                      rw [List.length_append, List.length_singleton]
                      rcases this with ⟨_, rfl⟩ | ⟨_, h⟩ <;> omega
          · have hje : j = g.prods.length := by have := hj.out; omega
            have hz4 : ¬ ((j : Int) < g.prods.length) := by omega
            have htk : g.prods.take j = g.prods := by rw [hje]; exact List.take_length
            rw [htk] at hch
            clear htk
            replace hje := Lib.hid hje
            cases ch with
            | true =>
              have hc := hch.out
              rw [if_pos rfl] at hc
              have hts : totM ss' ≤ totM S := hS.maps.tot (by rw [hsl'.out, hSl]) hsub'.out
              replace hc := Lib.hid hc
              go_wp2_with fail
              go_roundg (totM S + 1 - totM ss')
              case measure => have := hgk.out; have := hc.out; omega
              case rel => exact ⟨ss', Lib.hid (by omega), hsl', hsub', hS⟩
            | false =>
              have hc := hch.out
              simp only [Bool.false_eq_true, if_false] at hc
              obtain ⟨he, hc⟩ := hc
              replace hc := Lib.hid hc
              replace he := Lib.hid he
              have e0 := hS.tab.cell 0
              have e1 := hS.tab.cell 1
              have e2 := hS.tab.cell 2
              have e3 := hS.tab.cell 3
              have e4 := hS.tab.cell 4
              have e5 := hS.tab.cell 5
              have e6 := hS.tab.cell 6
              simp only [tcs, List.getElem?_toArray, List.getElem?_cons_zero, List.getElem?_cons_succ] at e0 e1 e2 e3 e4 e5 e6
              have r0 := hS.res.cell 0
              have r1 := hS.res.cell 1
              have r2 := hS.res.cell 2
              have r3 := hS.res.cell 3
              have r4 := hS.res.cell 4
              have r5 := hS.res.cell 5
              have r6 := hS.res.cell 6
              simp only [zcs, List.getElem?_toArray, List.getElem?_cons_zero, List.getElem?_cons_succ] at r0 r1 r2 r3 r4 r5 r6
              have f0 := hS.res.frozen 0
              have f1 := hS.res.frozen 1
              have f2 := hS.res.frozen 2
              have f3 := hS.res.frozen 3
              have f4 := hS.res.frozen 4
              have f5 := hS.res.frozen 5
              have f6 := hS.res.frozen 6
              have hrt := hS.rt
              have hrl : rb < wr.heap.size := hS.res.lt
              go_wp2_with fail
              have h7 := (((((((RW.mk hS.res hS.own hS.maps hS.gb.2.2 hS.wr hS.rt).put 0 (.int .i64 g.k)).put 1 (.slice ta g.toks.length tc)).put 2 (.string g.sep)).put 3 (.slice na g.names.length nc)).put 4 (.int .i64 g.start)).put 5 (.slice pa g.prods.length pc)).put 6 (.slice A g.names.length c)
              refine bodyPost_ret (results_cell_row rfl _ _ rb 276 _ (0, 0) _ rfl h7.res underT rfl sizeT7) rfl ?_
              have hwb := hS.wr
              refine hR.out _ _ ⟨.slice A g.names.length c, ms, ss', rfl, h7.own.mono (by omega), ⟨h7.maps.1, h7.maps.2.1, fun b hb => Nat.le_trans (by omega) (h7.maps.2.2 b hb)⟩, fun i z => ⟨hsub'.out i z, fun hz => ?_⟩, hsl'.out, h7.bel⟩
              rw [he.out]
              exact hle _ hc.out i z hz
end Go.Proofs.YtjnmkdahbcmfaaaGreat

/- first.All, first.Of: the walks. -/
namespace Go.Proofs.YtjnmkdahbcmfaaaGreat
open Go.ChangeShapes Go.WideShapes Go.ChangeAt Go.RowKit Go.Shelf
set_option linter.unusedVariables false
def OwnSD (W : World) (base : Nat) (v : Value) (Ls : List (List Lk)) : Prop :=
  ∃ (vals : List Value) (bs : List Nat), Own1 W base 147 v vals ∧ vals.length = Ls.length ∧ bs.length = Ls.length ∧ bs.Nodup ∧ (∀ b ∈ bs, b < W.heap.size) ∧
    ∀ (i : Nat) (L : List Lk), Ls[i]? = some L → ∃ u b, vals[i]? = some u ∧ bs[i]? = some b ∧ u.ownBlock = some b ∧ OwnL W base u L
theorem OwnSD.nil (W : World) (base : Nat) : OwnSD W base (.slice none 0 0) [] := ⟨[], [], Own1.nil _ _ _, rfl, rfl, List.nodup_nil, by simp, by simp⟩
theorem OwnSD.step {W W' : World} {base : Nat} {v : Value} {Ls : List (List Lk)} (h : OwnSD W base v Ls) (hb : Below W.heap.size W W') : OwnSD W' base v Ls := by
  obtain ⟨vals, bs, h1, h2, h3, h4, h5, h6⟩ := h
  exact ⟨vals, bs, row_step h1 hb, h2, h3, h4, fun b hm => Nat.lt_of_lt_of_le (h5 b hm) hb.size, fun i L hL => by obtain ⟨u, b, a1, a2, a3, a4⟩ := h6 i L hL; exact ⟨u, b, a1, a2, a3, a4.step hb⟩⟩
theorem own_block {W : World} {base : Nat} {u : Value} {L : List Lk} (h : OwnL W base u L) (hL : L ≠ []) : ∃ b, u.ownBlock = some b ∧ base ≤ b ∧ b < W.heap.size := by
  rcases h.2 with ⟨_, h0⟩ | ⟨g, cap, cur, rfl, hb, hg, _⟩
  · exact absurd (List.eq_nil_of_length_eq_zero h0) hL
  · exact ⟨g, rfl, hb, (Array.getElem?_eq_some_iff.1 hg).1⟩
theorem OwnSD.push {W W' : World} {base : Nat} {v v' : Value} {Ls : List (List Lk)} {L : List Lk} {u : Value} {vals : List Value} {bs : List Nat} {b0 : Nat} (h1 : Own1 W base 147 v vals) (h2 : vals.length = Ls.length) (h3 : bs.length = Ls.length) (h4 : bs.Nodup) (h5 : ∀ b ∈ bs, b < W.heap.size)
    (h6 : ∀ (i : Nat) (L : List Lk), Ls[i]? = some L → ∃ u b, vals[i]? = some u ∧ bs[i]? = some b ∧ u.ownBlock = some b ∧ OwnL W base u L) (hu : OwnL W base u L) (hub : u.ownBlock = some b0) (hb0 : b0 ∉ bs) (hlt : b0 < W.heap.size)
    (h' : W'.ownsRow base 147 1 v' (vals.length + 1) (vals ++ [u])) (hg : W.grownBy W' v.ownBlock) : OwnSD W' base v' (Ls ++ [L]) := by
  have hne : ∀ (b : Nat) (cs : Array Value), v.ownBlock = some b → ¬ Blk W b 45 cs := by
    intro b cs e hq
    rcases h1.2 with ⟨rfl, _⟩ | ⟨g, cap, cur, rfl, _, hgg, _⟩
    · cases e
    · injection e with e
      subst e
      have : W.heap[g]? = some (.cells cs 45 (0, 0)) := hq
      rw [hgg] at this
      cases this
  refine ⟨vals ++ [u], bs ++ [b0], by unfold Own1; rw [List.length_append]; exact h', by simp [h2], by simp [h3], ?_, ?_, fun i M hM => ?_⟩
  · rw [List.nodup_append]
    exact ⟨h4, by simp, fun a ha c hc => by rw [List.mem_singleton.1 hc]; exact fun e => hb0 (e ▸ ha)⟩
  · intro b hm
    have hs := hg.size
    rcases List.mem_append.1 hm with hm | hm
    · exact Nat.lt_of_lt_of_le (h5 b hm) hs
    · rw [List.mem_singleton.1 hm]; exact Nat.lt_of_lt_of_le hlt hs
  · by_cases hi : i < Ls.length
    · rw [List.getElem?_append_left hi] at hM
      obtain ⟨u', b', a1, a2, a3, a4⟩ := h6 i M hM
      exact ⟨u', b', by rw [List.getElem?_append_left (by omega)]; exact a1, by rw [List.getElem?_append_left (by omega)]; exact a2, a3, row_grown a4 hg hne⟩
    · have he : i = Ls.length := by have := (List.getElem?_eq_some_iff.1 hM).1; simp at this; omega
      subst he
      rw [List.getElem?_append_right (Nat.le_refl _), Nat.sub_self] at hM
      simp at hM
      subst hM
      exact ⟨u, b0, by rw [← h2, List.getElem?_append_right (Nat.le_refl _), Nat.sub_self]; rfl, by rw [← h3, List.getElem?_append_right (Nat.le_refl _), Nat.sub_self]; rfl, hub, row_grown hu hg hne⟩
structure SetsOk (g : Gr) (J : Lk → Lk → Lk) (U : Lk → Prop) (S : List (List Lk)) : Prop where
  uj : UJ g.k J U
  nil : U nilK
  u8 : ∀ x, U x → x.right 8
  len : S.length = g.names.length
  su : ∀ s ∈ S, ∀ z ∈ s, U z
  cl : ClosedP g.k J (setOf S) g.prods
  le : ∀ T, ClosedP g.k J T g.prods → ∀ i z, setOf S i z → T i z
  nm : g.names.length ≤ 1000
  pm : g.prods.length ≤ 1000
  pr : ∀ p ∈ g.prods, 16 ≤ p.left ∧ p.left < 16 + g.names.length ∧ p.right.length ≤ 1000 ∧ ∀ s ∈ p.right, SymU U g.names.length s
  sl : ∀ s ∈ S, s ≠ [] ∧ s.length ≤ 600
theorem SetsOk.sets {g : Gr} {J : Lk → Lk → Lk} {U : Lk → Prop} {S : List (List Lk)} (h : SetsOk g J U S) (a : GA) (w : World) (hg : GrR w w.heap.size g a) :
    Calls Tryz.prog 268 #[gval g a] w fun e w' => ∃ v ms ss, e = .returned (.agg (tcs g a v)) ∧ Own1 w' w.heap.size 279 v (mvals ms) ∧ Ms w' w.heap.size ms ss ∧ (∀ i z, setOf ss i z ↔ setOf S i z) ∧ ss.length = g.names.length ∧ Below w.heap.size w w' :=
  sets_any g a J U h.uj h.nil S w hg h.len h.su h.cl h.le h.nm h.pm h.pr
theorem MapL.nodup {w : World} {b : Nat} {s : List Lk} (h : MapL w b s) : s.Nodup := by
  obtain ⟨es, ck, _, _, _, _, h7, _⟩ := h
  exact h7
theorem lset_nil {l : List Lk} (hr : ∀ x ∈ l, x.right 8) (h : l ≠ []) : lset l ≠ [] := by
  intro h0
  cases l with
  | nil => exact h rfl
  | cons x l =>
    have := (lset_mem hr (z := x)).2 List.mem_cons_self
    rw [h0] at this; cases this
theorem sets_same {S ss : List (List Lk)} {i : Nat} {s t : List Lk} (h : ∀ i z, setOf ss i z ↔ setOf S i z) (hs : ss[i]? = some s) (ht : S[i]? = some t) (z : Lk) : z ∈ s ↔ z ∈ t := by
  rw [← setOf_mem hs, h i z, setOf_mem ht]
theorem infoLL : (Tryz.prog.info? 147).map (fun i => (i.zero, i.size, i.bytes)) = some (some (.slice none 0 0), 1, 24) := by kernel_rfl
theorem RdQ.mono {w : World} {B B' : Nat} {A : Option Addr} {n : Nat} {l : List Pr} (h : RdQ w B A n l) (hb : B ≤ B') : RdQ w B' A n l := by
  refine ⟨h.1, ?_⟩
  rcases h.2 with h0 | ⟨b, off, rfl, hlt, hc⟩
  · exact .inl h0
  · refine .inr ⟨b, off, rfl, by omega, fun i x hx => ?_⟩
    obtain ⟨h1, RA, c, h2, h3⟩ := hc i x hx
    exact ⟨h1, RA, c, h2, h3.mono hb⟩
theorem GQ.at {w : World} {g : Gr} {a : GA} {W : World} (h : GQ w g a W) : GrR W W.heap.size g a := ⟨h.2.1.prods.mono h.2.2.size⟩
theorem OwnSD.mono {W : World} {base b' : Nat} {v : Value} {Ls : List (List Lk)} (h : OwnSD W base v Ls) (hb : b' ≤ base) : OwnSD W b' v Ls := by
  obtain ⟨vals, bs, h1, h2, h3, h4, h5, h6⟩ := h
  exact ⟨vals, bs, h1.mono hb, h2, h3, h4, h5, fun i L hL => by obtain ⟨u, b, a1, a2, a3, a4⟩ := h6 i L hL; exact ⟨u, b, a1, a2, a3, a4.mono hb⟩⟩
theorem tab_field (x0 x1 x2 x3 x4 x5 : Value) (A : Option Addr) (n c : Nat) (w : World) : (Instr.field 276 (.agg #[x0, x1, x2, x3, x4, x5, .slice A n c]) 1).run Tryz.prog w = .ok (.slice A n c) w := by kernel_rfl
def RetFA (w : World) (S : List (List Lk)) (e : Ending) (w' : World) : Prop := ∃ v, e = .returned (.tuple #[v, .int .i64 0, .int .i64 0]) ∧ OwnSD w' w.heap.size v (S.map lset) ∧ Below w.heap.size w w'
set_option maxRecDepth 100000 in
set_option maxHeartbeats 8000000 in
theorem firstAll_any (g : Gr) (a : GA) (J : Lk → Lk → Lk) (U : Lk → Prop) (S : List (List Lk)) (hS : SetsOk g J U S) (w : World) (hg : GrR w w.heap.size g a)
    (hC : ∀ W, Below w.heap.size w W → Calls Tryz.prog 52 #[gval g a] W fun e w' => e = .returned (.int .i64 0) ∧ Below W.heap.size W w') :
    Calls Tryz.prog 234 #[gval g a] w (RetFA w S) := by
  refine opq fun RR hR => ?_
  have hfd := tab_field
  have hG := GQ.fr hg
  have hC' := Lib.hid hC
  have hSS := Lib.hid (fun (W : World) (h : GrR W W.heap.size g a) => hS.sets a W h)
  have hb0 : Below w.heap.size w (w.alloc (.cells (gcells g a) 25)) := bAlc (Below.refl _ _) _
  have hSl := Lib.hid hS.len
  have hS6 := Lib.hid hS.sl
  have hS8 := Lib.hid (fun (s : List Lk) (h : s ∈ S) (z : Lk) (hz : z ∈ s) => hS.u8 z (hS.su s h z hz))
  have hnm := hS.nm
  clear hS hC hg
  obtain ⟨ta, tc, na, nc, pa, pc⟩ := a
  unfold gval gcells tcs at *
  dsimp only at *
  go_enter Tryz.func234, Tryz.ntmps234
  go_upto_region 4 with (go_at_call 52; refine (hC'.out _ hb0).mono ?_; rintro e w1 ⟨rfl, hb1⟩)
  have hG1 := hG.out _ hb1
  clear hG hb1 hb0 hC'
  obtain ⟨c0, c1, c2, c3, c4, c5⟩ := hG1.cells
  dsimp only at c1 c3 c5
  go_wp2_with fail
  refine (hSS.out _ hG1.at).mono ?_
  rintro e w2 ⟨v, ms, ss, rfl, hO, hM, hiff, hlen, hb2⟩
  obtain ⟨A, c, hv, hrd, -⟩ := hO.reads
  subst hv
  have hbW := Lib.hid (hG1.step hb2).2.2
  have hml : (mvals ms).length = g.names.length := by unfold mvals; rw [List.length_map, hM.1.1, hlen]
  rw [hml] at hrd hO ⊢
  replace hml := Lib.hid hml
  replace hlen := Lib.hid hlen
  replace hiff := Lib.hid hiff
  generalize hn : g.names.length = n at *
  replace hn := Lib.hid hn
  clear hSS hb2 hG1 c0 c1 c2 c3 c4 c5 hO
  go_wp2_with fail
  go_loopg [6, 18] n (fun gk s6 s18 wr => ∃ i : Nat, s18 = .int .i64 i ∧ i + gk = n ∧ OwnSD wr w2.heap.size s6 ((S.take i).map lset) ∧ Below w2.heap.size w2 wr)
  case atStart => exact ⟨0, rfl, by omega, OwnSD.nil _ _, Below.refl _ _⟩
  case round =>
    obtain ⟨i, rfl, hi, ho, hb⟩ := hrel
    replace hi := Lib.hid hi
    by_cases hin : i < n
    · have hM1 := hM.step hb
      have hss : ss[i]? = some (ss[i]'(by rw [hlen.out]; exact hin)) := List.getElem?_eq_getElem _
      have hSi : S[i]? = some (S[i]'(by rw [hSl.out]; exact hin)) := List.getElem?_eq_getElem _
      have hmi : ms[i]? = some (ms[i]'(by rw [hM.1.1, hlen.out]; exact hin)) := List.getElem?_eq_getElem _
      generalize ss[i]'(by rw [hlen.out]; exact hin) = s at *
      generalize S[i]'(by rw [hSl.out]; exact hin) = t at *
      generalize ms[i]'(by rw [hM.1.1, hlen.out]; exact hin) = m at *
      have hMi : MapL wr m s := hM1.1.2 i m s hmi hss
      have hst := Lib.hid (sets_same hiff.out hss hSi)
      have ht8 := hS8.out t (List.mem_of_getElem? hSi)
      have hs8 : ∀ x ∈ s, x.right 8 := fun x hx => ht8 x ((hst.out x).1 hx)
      obtain ⟨ht0, ht6⟩ := hS6.out t (List.mem_of_getElem? hSi)
      have hls : Hid (lset s = lset t) := Lib.hid (lset_same (m := s) (l := t) ht8 hst.out)
      have hl6 : s.length ≤ 600 := Nat.le_trans (sub_len hMi.nodup fun z hz => (hst.out z).1 hz) ht6
      have hrg : (S.take (i + 1)).map lset = (S.take i).map lset ++ [lset t] := by rw [List.take_add_one, hSi]; simp
      have hlt1 : ((S.take i).map lset).length = i := by rw [List.length_map, List.length_take, hSl.out]; omega
      generalize (S.take i).map lset = Ls at *
      replace hrg := Lib.hid hrg
      replace hlt1 := Lib.hid hlt1
      have hnl := Lib.hid (lset_nil ht8 ht0)
      have hll : Hid ((lset s).length ≤ 900000) := Lib.hid (Nat.le_trans (lset_len hs8) (by omega))
      rcases hrd.2 with h0 | ⟨b, off, rfl, hbt, hcs⟩
      · omega
      have x0 : wr.cell? ⟨b, off + i, none⟩ = some (.map (some m)) := (hb.cell (p := ⟨b, off + i, none⟩) hbt).trans (hcs i _ (by unfold mvals; rw [List.getElem?_map, hmi]; rfl))
      have hmlen := mapl_len (t := 279) underLM hMi 3
      have hz : ¬ (600 : Int) < s.length := by omega
      have hMi' := Lib.hid hMi
      have hs8' := Lib.hid hs8
      clear hMi hM1 hss hSi hmi hst ht8 hs8 ht0 ht6
      go_wp2_with fail
      refine (sorted2_any m s _ hMi'.out hs8'.out (by omega)).mono ?_
      rintro e w3 ⟨Bs, A3, c3, rfl, q1, q2, q3, hb3⟩
      go_wp2_with fail
      refine (collectV_any Bs A3 c3 (lset s) _ q1 q2 q3 hll.out).mono ?_
      rintro e w4 ⟨u, out, rfl, hout, ho4, hb4⟩
      subst hout
      rw [hls.out] at ho4
      obtain ⟨b0, hub, hbge, hblt⟩ := own_block ho4 hnl.out
      obtain ⟨A4, c4, hu4, -⟩ := ho4.reads
      subst hu4
      obtain ⟨vals, bs, o1, o2, o3, o4, o5, o6⟩ := ho
      have hone : ∀ u ∈ (#[Value.slice A4 (lset t).length c4] : Array Value).toList, u.oneCell' = true := by
        intro u hu
        simp at hu
        subst hu
        rfl
      have hvl : vals.length = i := by rw [o2, hlt1.out]
      have hst4 := bStep hb3 hb4
      have hbA : Below w4.heap.size w4 (w4.alloc (.cells #[.slice A4 (lset t).length c4] 147)) := bAlc (Below.refl _ _) _
      have hz3 := hb3.size
      have hz4 := hb4.size
      have hz2 := hb.size
      have hb0n : b0 ∉ bs := fun hm => by have := o5 b0 hm; omega
      have o1' := (row_step (row_step o1 hst4) hbA)
      have o5' : Hid (∀ b ∈ bs, b < (w4.alloc (.cells #[.slice A4 (lset t).length c4] 147)).heap.size) := Lib.hid fun b hm => by have := o5 b hm; simp; omega
      have o6' : Hid (∀ (i : Nat) (L : List Lk), Ls[i]? = some L → ∃ u b, vals[i]? = some u ∧ bs[i]? = some b ∧ u.ownBlock = some b ∧ OwnL (w4.alloc (.cells #[.slice A4 (lset t).length c4] 147)) w2.heap.size u L) := Lib.hid fun i L hL => by obtain ⟨u, b, a1, a2, a3, a4⟩ := o6 i L hL; exact ⟨u, b, a1, a2, a3, (a4.step hst4).step hbA⟩
      have hu' := Lib.hid ((ho4.mono (show w2.heap.size ≤ w3.heap.size by omega)).step hbA)
      have hbF := Lib.hid (bAlc (bStep (bStep hb hb3) hb4) (.cells #[.slice A4 (lset t).length c4] 147))
      have hblt' : Hid (b0 < (w4.alloc (.cells #[.slice A4 (lset t).length c4] 147)).heap.size) := Lib.hid (by simp; omega)
      replace hone := Lib.hid hone
      replace hub := Lib.hid hub
      replace o4 := Lib.hid o4
      replace o3 := Lib.hid o3
      replace o2 := Lib.hid o2
      replace hb0n := Lib.hid hb0n
      clear o5 o6 o1 ho4 hst4 hb3 hb4 q1 q2 q3
      go_wp2_with (at_builtin; refine wpList_push _ rfl _ _ 142 rfl w2.heap.size 147 _ 1 24 (by kernel_rfl) infoLL rfl (by omega) _ vals.length vals rfl o1' _ #[.slice A4 (lset t).length c4] rfl (Blk.new _ _ _) rfl hone.out (by omega) (by omega) (by simp; omega) ?_; intro v' w5 ho5 hg5 hat5 hb5)
      have hS5 := OwnSD.push o1' o2.out o3.out o4.out o5'.out o6'.out hu'.out hub.out hb0n.out hblt'.out (by simpa using ho5) hg5
      have hb9 : Below w2.heap.size w2 w5 := hb5 w2 hbF.out
      go_roundg (n - (i + 1))
      case measure => have := hi.out; omega
      case rel => exact ⟨i + 1, by go_num, by have := hi.out; omega, by rw [hrg.out]; exact hS5, hb9⟩
    · have he : i = n := by have := hi.out; omega
      have hfull : S.take i = S := List.take_of_length_le (by rw [hSl.out]; omega)
      rw [hfull] at ho
      subst he
      have hb9 := Lib.hid (bStep hbW.out hb)
      have hsz := hbW.out.size
      have hoF := Lib.hid (ho.mono hsz)
      obtain ⟨vals, bs, o1, -⟩ := ho
      obtain ⟨A6, c6, hv6, -⟩ := o1.reads
      subst hv6
      clear o1
      go_wp2_with fail
      go_ret3
      exact hR.out _ _ ⟨_, rfl, hoF.out, hb9.out⟩
end Go.Proofs.YtjnmkdahbcmfaaaGreat

/- first.Of: the walk. -/
namespace Go.Proofs.YtjnmkdahbcmfaaaGreat
open Go.ChangeShapes Go.WideShapes Go.ChangeAt Go.RowKit Go.Shelf
set_option linter.unusedVariables false
def RetFO (w : World) (T : List Lk) (e : Ending) (w' : World) : Prop := ∃ v, e = .returned (.tuple #[v, .int .i64 0]) ∧ OwnL w' w.heap.size v (lset T) ∧ Below w.heap.size w w'
set_option maxRecDepth 100000 in
set_option maxHeartbeats 8000000 in
theorem firstOf_any (g : Gr) (a : GA) (J : Lk → Lk → Lk) (U : Lk → Prop) (S : List (List Lk)) (hS : SetsOk g J U S) (w : World) (hg : GrR w w.heap.size g a) (L : Option Addr) (ln lc : Nat) (l : List Int) (T : List Lk)
    (hL : Rd1 w w.heap.size L ln (ints l)) (hln : ln ≤ 1000) (hl : ∀ s ∈ l, SymU U g.names.length s) (hT : ∀ z, z ∈ T ↔ ofP g.k J (setOf S) (· = nilK) l z) (hT6 : T.length ≤ 600)
    (hC : ∀ W, Below w.heap.size w W → Calls Tryz.prog 273 #[gval g a, .slice L ln lc] W fun e w' => e = .returned (.int .i64 0) ∧ Below W.heap.size W w') :
    Calls Tryz.prog 236 #[gval g a, .slice L ln lc] w (RetFO w T) := by
  refine opq fun RR hR => ?_
  have hG := GQ.fr hg
  have hC' := Lib.hid hC
  have hSS := Lib.hid (fun (W : World) (h : GrR W W.heap.size g a) => hS.sets a W h)
  have hb0 : Below w.heap.size w (w.alloc (.cells (gcells g a) 25)) := bAlc (Below.refl _ _) _
  have hnm := hS.nm
  have hS' := Lib.hid hS
  have hL' := Lib.hid hL
  have hl' := Lib.hid hl
  have hT' := Lib.hid hT
  clear hS hC hg hL hl hT
  obtain ⟨ta, tc, na, nc, pa, pc⟩ := a
  unfold gval gcells tcs at *
  dsimp only at *
  go_enter Tryz.func236, Tryz.ntmps236
  go_upto_region 4 with (go_at_call 273; refine (hC'.out _ hb0).mono ?_; rintro e w1 ⟨rfl, hb1⟩)
  have hG1 := hG.out _ hb1
  clear hG hb1 hb0 hC'
  obtain ⟨c0, c1, c2, c3, c4, c5⟩ := hG1.cells
  dsimp only at c1 c3 c5
  go_wp2_with fail
  refine (hSS.out _ hG1.at).mono ?_
  rintro e w2 ⟨v, ms, ss, rfl, hO, hM, hiff, hlen, hb2⟩
  obtain ⟨A, c, hv, hrd, -⟩ := hO.reads
  subst hv
  have hbW := Lib.hid (hG1.step hb2).2.2
  have hml : (mvals ms).length = g.names.length := by unfold mvals; rw [List.length_map, hM.1.1, hlen]
  have hL2 := Lib.hid ((hL'.out.below hbW.out).mono hbW.out.size)
  have hssU : ∀ s ∈ ss, ∀ z ∈ s, U z := setOf_U (fun i z h => (hiff i z).1 h) hS'.out.su
  have hOf := Lib.hid (of_any g.k J U hS'.out.uj hS'.out.nil (.slice ta g.toks.length tc) (.string g.sep) (.slice na g.names.length nc) (.int .i64 g.start) (.slice pa g.prods.length pc) A (mvals ms).length c ms ss L ln lc l w2 (by rw [hml]; omega) hrd hM.1 hssU hL2.out (by omega) (by rw [hml]; exact hl'.out))
  have hTe : Hid (∀ z, ofP g.k J (setOf ss) (· = nilK) l z ↔ z ∈ T) := Lib.hid fun z => (Iff.intro (ofP_mono (fun i z h => (hiff i z).1 h) l _ _ (fun _ h => h) z) (ofP_mono (fun i z h => (hiff i z).2 h) l _ _ (fun _ h => h) z)).trans (hT'.out z).symm
  have hU8 := Lib.hid hS'.out.u8
  replace hml := Lib.hid hml
  clear hSS hb2 hG1 c0 c1 c2 c3 c4 c5 hO hM hiff hlen hrd hssU hL2 hL' hl' hT' hS'
  go_wp2_with fail
  refine hOf.out.mono ?_
  rintro e w3 ⟨b, out, rfl, hbge, hMb, hb3, hio, hUo⟩
  have hsame : ∀ z, z ∈ out ↔ z ∈ T := fun z => (hio z).trans (hTe.out z)
  have ho8 : ∀ x ∈ out, x.right 8 := fun x hx => hU8.out x (hUo x hx)
  have hT8 : ∀ x ∈ T, x.right 8 := fun x hx => ho8 x ((hsame x).2 hx)
  have hls : Hid (lset out = lset T) := Lib.hid (lset_same (m := out) (l := T) hT8 hsame)
  have hl6 : out.length ≤ 600 := Nat.le_trans (sub_len hMb.nodup fun z hz => (hsame z).1 hz) hT6
  have hll : Hid ((lset out).length ≤ 900000) := Lib.hid (Nat.le_trans (lset_len ho8) (by omega))
  have hmlen := mapl_len (t := 279) underLM hMb 3
  have hz : ¬ (600 : Int) < out.length := by omega
  have hM' := Lib.hid hMb
  have ho8' := Lib.hid ho8
  have hlo : out.length ≤ 900000 := by omega
  clear hMb hio hUo hsame ho8 hT8 hOf hTe
  go_wp2_with fail
  refine (sorted2_any b out _ hM'.out ho8'.out hlo).mono ?_
  rintro e w4 ⟨Bs, A3, c3, rfl, q1, q2, q3, hb4⟩
  go_wp2_with fail
  refine (collectV_any Bs A3 c3 (lset out) _ q1 q2 q3 hll.out).mono ?_
  rintro e w5 ⟨u, out2, rfl, hout, ho5, hb5⟩
  subst hout
  rw [hls.out] at ho5
  have hsz1 := hbW.out.size
  have hsz3 := hb3.size
  have hsz4 := hb4.size
  have hF := Lib.hid (bStep (bStep (bStep hbW.out hb3) hb4) hb5)
  have hoF := Lib.hid (ho5.mono (show w.heap.size ≤ w4.heap.size by omega))
  obtain ⟨A6, c6, hv6, -⟩ := ho5.reads
  subst hv6
  clear ho5 hb3 hb4 hb5 q1 q2 q3
  go_wp2_with fail
  exact hR.out _ _ ⟨_, rfl, hoF.out, hF.out⟩
end Go.Proofs.YtjnmkdahbcmfaaaGreat

/- FIRST reckoned: the least sets, by rounds. -/
namespace Go.Proofs.YtjnmkdahbcmfaaaGreat
open Go.ChangeShapes Go.WideShapes Go.ChangeAt Go.RowKit
set_option linter.unusedVariables false
def lkC (x : Lk) : Nat := (((x.n.toNat * 9 + x.a.toNat) * 9 + x.b.toNat) * 9 + x.c.toNat) * 9 + x.d.toNat
def memL (z : Lk) (a : List Lk) : Bool := a.any fun y => Nat.beq (lkC y) (lkC z) && decide (y = z)
theorem memL_s {z : Lk} {a : List Lk} (h : memL z a = true) : z ∈ a := by
  unfold memL at h
  obtain ⟨y, hy, e⟩ := List.any_eq_true.1 h
  rw [Bool.and_eq_true, decide_eq_true_eq] at e
  rw [← e.2]; exact hy
def uni : List Lk → List Lk → List Lk
  | a, [] => a
  | a, z :: r => uni (match memL z a with | true => a | false => a ++ [z]) r
theorem uni_mem {z : Lk} : ∀ (b a : List Lk), z ∈ uni a b ↔ z ∈ a ∨ z ∈ b
  | [], a => by simp [uni]
  | y :: r, a => by
    unfold uni
    rw [uni_mem r]
    split
    · rename_i h
      have h := memL_s h
      constructor
      · rintro (h1 | h1)
        · exact .inl h1
        · exact .inr (List.mem_cons_of_mem _ h1)
      · rintro (h1 | h1)
        · exact .inl h1
        · rcases List.mem_cons.1 h1 with rfl | h1
          · exact .inl h
          · exact .inr h1
    · simp [or_assoc]
def thenL (k : Nat) (A B : List Lk) : List Lk := A.flatMap fun x => if x.n = (k : Int) then (match B with | [] => [] | _ => [x]) else B.map (lplus k x)
theorem thenL_mem {k : Nat} {A B : List Lk} (z : Lk) : z ∈ thenL k A B ↔ thenP k (lplus k) (· ∈ A) (· ∈ B) z := by
  unfold thenL thenP
  rw [List.mem_flatMap]
  constructor
  · rintro ⟨x, hx, h⟩
    refine ⟨x, hx, ?_⟩
    split at h
    · rename_i hk
      cases B with
      | nil => cases h
      | cons y B => exact .inl ⟨hk, List.mem_singleton.1 h, y, List.mem_cons_self⟩
    · rename_i hk
      obtain ⟨y, hy, rfl⟩ := List.mem_map.1 h
      exact .inr ⟨hk, y, hy, rfl⟩
  · rintro ⟨x, hx, ⟨hk, rfl, y, hy⟩ | ⟨hk, y, hy, rfl⟩⟩
    · refine ⟨_, hx, ?_⟩
      rw [if_pos hk]
      cases B with
      | nil => cases hy
      | cons y B => exact List.mem_singleton.2 rfl
    · refine ⟨_, hx, ?_⟩
      rw [if_neg hk]
      exact List.mem_map_of_mem hy
def symL (ss : List (List Lk)) (s : Int) : List Lk := if s < 16 then [oneK s] else ss.getD (s - 16).toNat []
theorem symL_mem {ss : List (List Lk)} {s : Int} (z : Lk) : z ∈ symL ss s ↔ symP (setOf ss) s z := by
  unfold symL symP setOf
  split
  · simp
  · exact Iff.rfl
def ofL (k : Nat) (ss : List (List Lk)) : List Lk → List Int → List Lk
  | A, [] => A
  | A, s :: r => ofL k ss (uni [] (thenL k A (symL ss s))) r
theorem ofP_congr {k : Int} {J : Lk → Lk → Lk} {T : Nat → Lk → Prop} {A A' : Lk → Prop} (h : ∀ z, A z ↔ A' z) (l : List Int) (z : Lk) : ofP k J T A l z ↔ ofP k J T A' l z :=
  ⟨ofP_mono (fun _ _ h => h) l _ _ (fun z => (h z).1) z, ofP_mono (fun _ _ h => h) l _ _ (fun z => (h z).2) z⟩
theorem ofL_mem {k : Nat} {ss : List (List Lk)} : ∀ (l : List Int) (A : List Lk) (z : Lk), z ∈ ofL k ss A l ↔ ofP k (lplus k) (setOf ss) (· ∈ A) l z
  | [], A, z => Iff.rfl
  | s :: r, A, z => by
    unfold ofL ofP
    rw [ofL_mem r]
    refine ofP_congr (fun y => ?_) r z
    rw [uni_mem, thenL_mem]
    simp only [List.not_mem_nil, false_or]
    exact thenP_iff (fun _ => Iff.rfl) (fun z => symL_mem z) y
def stepS (k : Nat) : List (List Lk) → List Pr → List (List Lk)
  | ss, [] => ss
  | ss, p :: r => stepS k (ss.set (p.left - 16).toNat (uni (ss.getD (p.left - 16).toNat []) (ofL k ss [nilK] p.right))) r
def sameN : List (List Lk) → List (List Lk) → Bool
  | [], [] => true
  | a :: r, b :: t => Nat.beq a.length b.length && sameN r t
  | _, _ => false
def iterS (k : Nat) (ps : List Pr) : Nat → List (List Lk) → List (List Lk)
  | 0, ss => ss
  | n + 1, ss => match sameN ss (stepS k ss ps) with | true => ss | false => iterS k ps n (stepS k ss ps)
theorem one_iff (z : Lk) : z ∈ [nilK] ↔ z = nilK := List.mem_singleton
theorem stepS_le {k : Nat} {ps : List Pr} {T : Nat → Lk → Prop} (hT : ClosedP k (lplus k) T ps) : ∀ (r : List Pr) (ss : List (List Lk)), (∀ p ∈ r, p ∈ ps) → (∀ i z, setOf ss i z → T i z) → ∀ i z, setOf (stepS k ss r) i z → T i z
  | [], ss, _, h => h
  | p :: r, ss, hp, h => by
    unfold stepS
    refine stepS_le hT r _ (fun q hq => hp q (List.mem_cons_of_mem _ hq)) fun i z hz => ?_
    unfold setOf at hz
    rw [List.getD_eq_getElem?_getD, List.getElem?_set] at hz
    split at hz
    · rename_i hi
      split at hz
      · have hz' : z ∈ uni (ss.getD (p.left - 16).toNat []) (ofL k ss [nilK] p.right) := hz
        rw [uni_mem] at hz'
        rcases hz' with h1 | h1
        · exact h i z (by unfold setOf; rw [← hi]; exact h1)
        · rw [ofL_mem] at h1
          have h2 := ofP_mono h p.right _ (· = nilK) (fun z hz => (one_iff z).1 hz) z h1
          rw [← hi]
          exact hT p (hp p List.mem_cons_self) z h2
      · cases hz
    · exact h i z (by unfold setOf; rw [List.getD_eq_getElem?_getD]; exact hz)
theorem iterS_le {k : Nat} {ps : List Pr} {T : Nat → Lk → Prop} (hT : ClosedP k (lplus k) T ps) : ∀ (n : Nat) (ss : List (List Lk)), (∀ i z, setOf ss i z → T i z) → ∀ i z, setOf (iterS k ps n ss) i z → T i z
  | 0, ss, h => h
  | n + 1, ss, h => by
    unfold iterS
    split
    · exact h
    · exact iterS_le hT n _ (stepS_le hT ps ss (fun _ h => h) h)
theorem stepS_len (k : Nat) : ∀ (r : List Pr) (ss : List (List Lk)), (stepS k ss r).length = ss.length
  | [], ss => rfl
  | p :: r, ss => by unfold stepS; rw [stepS_len k r]; simp
theorem iterS_len (k : Nat) (ps : List Pr) : ∀ (n : Nat) (ss : List (List Lk)), (iterS k ps n ss).length = ss.length
  | 0, ss => rfl
  | n + 1, ss => by
    unfold iterS
    split
    · rfl
    · rw [iterS_len k ps n, stepS_len]
def firsts (k : Nat) (names : Nat) (ps : List Pr) : List (List Lk) := iterS k ps 12 (List.replicate names [])
def closedB (k : Nat) (ss : List (List Lk)) (ps : List Pr) : Bool := ps.all fun p => (ofL k ss [nilK] p.right).all fun z => memL z (ss.getD (p.left - 16).toNat [])
theorem closedB_s {k : Nat} {ss : List (List Lk)} {ps : List Pr} (h : closedB k ss ps = true) : ClosedP k (lplus k) (setOf ss) ps := by
  intro p hp z hz
  have h1 := List.all_eq_true.1 h p hp
  have h2 : z ∈ ofL k ss [nilK] p.right := (ofL_mem p.right [nilK] z).2 ((ofP_congr (fun z => (one_iff z)) p.right z).2 hz)
  have h3 := List.all_eq_true.1 h1 z h2
  unfold setOf
  exact memL_s h3
theorem firsts_le {k names : Nat} {ps : List Pr} {T : Nat → Lk → Prop} (hT : ClosedP k (lplus k) T ps) : ∀ i z, setOf (firsts k names ps) i z → T i z :=
  iterS_le hT 12 _ fun i z hz => by
    unfold setOf at hz
    rw [List.getD_eq_getElem?_getD, List.getElem?_replicate] at hz
    split at hz
    · cases hz
    · cases hz
theorem firsts_len (k names : Nat) (ps : List Pr) : (firsts k names ps).length = names := by unfold firsts; rw [iterS_len]; simp
end Go.Proofs.YtjnmkdahbcmfaaaGreat
