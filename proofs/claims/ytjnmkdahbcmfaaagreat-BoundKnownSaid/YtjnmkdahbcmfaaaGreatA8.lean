/- Walks and plain laws, part 8 of 8: first.All, first.Of as summaries; reach.reached as a summary; (follow.set).sorted of an empty map, and of any map; The summaries of what the compile of a grammar calls; ; The example grammar, compiled by the reference, run in the kernel; open.Check of the example grammar, run in the kernel; BoundKnown, run in the kernel. Conditions: none beyond those that each theorem states. -/
import Derived.Test.YtjnmkdahbcmfaaaGreatA7
import Derived.Deep.OwnRows
/- first.All, first.Of as summaries. -/
namespace Go.Proofs.YtjnmkdahbcmfaaaGreat
open Go.ChangeShapes Go.WideShapes Go.ChangeAt Go.RowKit Go.Ev
set_option linter.unusedVariables false
set_option maxRecDepth 100000
def symUB (UL : List Lk) (n : Nat) (s : Int) : Bool := decide (0 ≤ s) && (decide (s ≤ 1000) && (if s < 16 then decide (oneK s ∈ UL) else decide ((s - 16).toNat < n)))
theorem symUB_s {UL : List Lk} {n : Nat} {s : Int} (h : symUB UL n s = true) : SymU (· ∈ UL) n s := by
  unfold symUB at h
  rw [Bool.and_eq_true, Bool.and_eq_true, decide_eq_true_eq, decide_eq_true_eq] at h
  obtain ⟨h1, h2, h3⟩ := h
  refine ⟨h1, h2, fun hs => ?_, fun hs => ?_⟩
  · rw [if_pos hs] at h3; exact of_decide_eq_true h3
  · rw [if_neg (by omega)] at h3; exact of_decide_eq_true h3
noncomputable def okAll (sums : Sums) (lf n : Nat) (g : Gr) (k : Nat) (S : List (List Lk)) (UL : List Lk) : Bool :=
  decide (g.k = (k : Int)) && (jOK sums lf n k UL && (decide (nilK ∈ UL) && ((S.all fun s => s.all fun z => decide (z ∈ UL)) && (closedB k S g.prods && (decide (g.names.length ≤ 1000) && (decide (g.prods.length ≤ 1000) &&
    ((g.prods.all fun p => decide (16 ≤ p.left) && (decide (p.left < 16 + g.names.length) && (decide (p.right.length ≤ 1000) && p.right.all (symUB UL g.names.length)))) && (S.all fun s => !s.isEmpty && decide (s.length ≤ 600)))))))))
theorem okAll_s {sums : Sums} {lf n : Nat} (hS : ∀ f s, sums f = some s → SumS Tryz.prog f s) {g : Gr} {k : Nat} {UL : List Lk} (h : okAll sums lf n g k (firsts k g.names.length g.prods) UL = true) :
    SetsOk g (lplus k) (· ∈ UL) (firsts k g.names.length g.prods) := by
  have hle := fun T (hT : ClosedP k (lplus k) T g.prods) => firsts_le (names := g.names.length) hT
  have hlen := firsts_len k g.names.length g.prods
  generalize firsts k g.names.length g.prods = S at *
  unfold okAll at h
  simp only [Bool.and_eq_true, decide_eq_true_eq, List.all_eq_true] at h
  obtain ⟨h1, h2, h3, h4, h5, h6, h7, h8, h9⟩ := h
  obtain ⟨j1, j2⟩ := jOK_s hS h2
  rw [← h1] at j1 hle
  have hcl := closedB_s h5
  rw [← h1] at hcl
  exact ⟨j1, h3, j2, hlen, h4, hcl, hle, h6, h7, fun p hp => ⟨(h8 p hp).1, (h8 p hp).2.1, (h8 p hp).2.2.1, fun s hs => symUB_s ((h8 p hp).2.2.2 s hs)⟩, fun s hs => ⟨(fun e => by
    have := (h9 s hs).1
    rw [e] at this; cases this), (h9 s hs).2⟩⟩
noncomputable def allT (S : List (List Lk)) : DTr := .tup [.sl 147 1 S.length 0 S.length false 0 (S.map fun s => looksT (lset s)), intD 0, intD 0]
noncomputable def decAll (sums : Sums) (lf n : Nat) : List DTr → Option DTr
  | [T] => (match grT T with
    | some g => bif (okAll sums lf n g g.k.toNat (firsts g.k.toNat g.names.length g.prods) (allU g.toks.length g.k.toNat) && !(g.names.isEmpty)) then some (allT (firsts g.k.toNat g.names.length g.prods)) else none
    | none => none)
  | _ => none
theorem out_looksS {w w' : World} {v : Value} {l : List Lk} {S : List Nat} {b : Nat} (hl : l ≠ []) (ho : OwnL w' w.heap.size v l) (hv : v.ownBlock = some b) (hb : b ∉ S) : OutV Tryz.prog w w' (looksT l) v S (b :: S) := by
  rcases ho.2 with ⟨_, h0⟩ | ⟨g, cap, cur, rfl, hbg, hg, hnc, hcm, hcs, ht⟩
  · exact absurd (List.eq_nil_of_length_eq_zero h0) hl
  · have hgb : g = b := by simpa [Value.ownBlock] using hv
    subst hgb
    have hsz : 0 + l.length * 5 ≤ cur.size := by rw [hcs]; have := Nat.mul_le_mul_right 5 hnc; omega
    have hln : ((atomsL l).map DTr.v).length = l.length * 5 := by rw [List.length_map, atomsL_len]
    have hat : OutVs Tryz.prog w w' ((atomsL l).map DTr.v) ((cur.toList.drop 0).take (l.length * 5)) S S := by
      rw [List.drop_zero, ht, ← atomsL_val]
      exact outvs_atoms _ (atomsL_id l)
    have hcap : (1 : Nat) = 1 → l.length * 5 ≤ cap * Tryz.prog.cellsOf 45 ∧ 0 + cap * Tryz.prog.cellsOf 45 ≤ cur.size := fun _ => by
      rw [cellsLook, hcs]
      exact ⟨Nat.mul_le_mul_right 5 hnc, by omega⟩
    exact ⟨g, 0, cap, cur, S, rfl, hg, hbg, hsz, hln, atomsL_flat l, hcap, hat, hb, rfl⟩
theorem out_rows {w W : World} : ∀ (Ls : List (List Lk)) (vals : List Value) (bs S : List Nat), vals.length = Ls.length → bs.length = Ls.length → bs.Nodup → (∀ b ∈ bs, b ∉ S) →
    (∀ (i : Nat) (L : List Lk), Ls[i]? = some L → ∃ u b, vals[i]? = some u ∧ bs[i]? = some b ∧ u.ownBlock = some b ∧ OwnL W w.heap.size u L) → (∀ L ∈ Ls, L ≠ []) → ∃ S1, OutVs Tryz.prog w W (Ls.map looksT) vals S S1 ∧ ∀ x ∈ S1, x ∈ S ∨ x ∈ bs
  | [], vals, bs, S, h1, h2, h3, h4, h5, h6 => by
    have : vals = [] := List.eq_nil_of_length_eq_zero h1
    subst this
    exact ⟨S, ⟨rfl, rfl⟩, fun x hx => .inl hx⟩
  | L :: Ls, vals, bs, S, h1, h2, h3, h4, h5, h6 => by
    obtain ⟨u, b, a1, a2, a3, a4⟩ := h5 0 L rfl
    cases vals with
    | nil => simp at a1
    | cons u' vals =>
      cases bs with
      | nil => simp at a2
      | cons b' bs =>
        simp only [List.getElem?_cons_zero, Option.some.injEq] at a1 a2
        subst a1 a2
        obtain ⟨n1, n2⟩ := List.nodup_cons.1 h3
        obtain ⟨S1, k1, k2⟩ := out_rows Ls vals bs (b' :: S) (by simpa using h1) (by simpa using h2) n2 (fun x hx hm => by
          rcases List.mem_cons.1 hm with rfl | hm
          · exact n1 hx
          · exact h4 x (List.mem_cons_of_mem _ hx) hm) (fun i M hM => by simpa using h5 (i + 1) M (by simpa using hM)) (fun M hM => h6 M (List.mem_cons_of_mem _ hM))
        refine ⟨S1, ⟨u', vals, b' :: S, rfl, out_looksS (h6 L List.mem_cons_self) a4 a3 (h4 b' List.mem_cons_self), k1⟩, fun x hx => ?_⟩
        rcases k2 x hx with hx | hx
        · rcases List.mem_cons.1 hx with rfl | hx
          · exact .inr List.mem_cons_self
          · exact .inl hx
        · exact .inr (List.mem_cons_of_mem _ hx)
theorem cellsRow : Tryz.prog.cellsOf 147 = 1 := by kernel_rfl
theorem out_SD {w W : World} {v : Value} {Ls : List (List Lk)} (h0 : Ls ≠ []) (h6 : ∀ L ∈ Ls, L ≠ []) (h : OwnSD W w.heap.size v Ls) : ∃ S', OutV Tryz.prog w W (.sl 147 1 Ls.length 0 Ls.length false 0 (Ls.map looksT)) v [] S' := by
  obtain ⟨vals, bs, h1, h2, h3, h4, h5, h7⟩ := h
  rcases h1.2 with ⟨_, hz⟩ | ⟨g, cap, cur, rfl, hbg, hg, hnc, hcm, hcs, ht⟩
  · exact absurd (List.eq_nil_of_length_eq_zero (by omega)) h0
  · obtain ⟨S1, k1, k2⟩ := out_rows Ls vals bs [] h2 h3 h4 (by simp) h7 h6
    have hgn : g ∉ S1 := by
      intro hm
      rcases k2 g hm with hx | hx
      · cases hx
      · obtain ⟨i, hi⟩ := List.mem_iff_getElem?.1 hx
        have hil : i < Ls.length := by have := (List.getElem?_eq_some_iff.1 hi).1; omega
        obtain ⟨u, b, a1, a2, a3, a4⟩ := h7 i _ (List.getElem?_eq_getElem hil)
        rw [hi] at a2; cases a2
        rcases a4.2 with ⟨rfl, _⟩ | ⟨g', cap', cur', rfl, _, hg', _⟩
        · cases a3
        · have : g' = g := by simpa [Value.ownBlock] using a3
          subst this
          rw [hg] at hg'; cases hg'
    have hall : (Ls.map looksT).all flatT = true := by
      rw [List.all_eq_true]
      intro T hT
      obtain ⟨L, _, rfl⟩ := List.mem_map.1 hT
      rfl
    have ht' : (cur.toList.drop 0).take Ls.length = vals := by rw [List.drop_zero, ← h2]; simpa using ht
    refine ⟨_, g, 0, cap, cur, S1, by simp [h2], hg, hbg, by rw [hcs]; omega, by simp, hall, fun _ => ?_, ?_, hgn, rfl⟩
    · rw [cellsRow]; omega
    · rw [ht']; exact k1
theorem all_sum {sums : Sums} {lf n : Nat} (hS : ∀ f s, sums f = some s → SumS Tryz.prog f s) : SumS Tryz.prog 234 (handC Tryz.prog sums lf n 52 (decAll sums lf n)) := handC_s hS fun Ts T hd w vs hv hC => by
  unfold decAll at hd
  split at hd
  · rename_i T1
    cases h1 : grT T1 with
    | none => rw [h1] at hd; cases hd
    | some g =>
      rw [h1] at hd
      simp only at hd
      obtain ⟨v1, r1, rfl, d1, hr⟩ := hv
      have hr : r1 = [] := hr
      subst hr
      obtain ⟨a, rfl, hg⟩ := grT_s d1 h1
      cases hok : (okAll sums lf n g g.k.toNat (firsts g.k.toNat g.names.length g.prods) (allU g.toks.length g.k.toNat) && !(g.names.isEmpty)) with
      | false => rw [hok] at hd; cases hd
      | true =>
        rw [hok] at hd
        simp only [cond_true, Option.some.injEq] at hd
        subst hd
        obtain ⟨o1, o2⟩ := Bool.and_eq_true_iff.1 hok
        have hO := okAll_s hS o1
        have hne : firsts g.k.toNat g.names.length g.prods ≠ [] := fun e => by
          have := firsts_len g.k.toNat g.names.length g.prods
          rw [e] at this
          cases hn : g.names with
          | nil => rw [hn] at o2; cases o2
          | cons x l => rw [hn] at this; simp at this
        generalize firsts g.k.toNat g.names.length g.prods = S at *
        refine (firstAll_any g a _ _ S hO w hg (fun W hb => hC W hb)).mono ?_
        rintro e w' ⟨v, rfl, h2, h3⟩
        obtain ⟨S', hS'⟩ := out_SD (w := w) (by simpa using hne) (fun L hL => by
          obtain ⟨s, hs, rfl⟩ := List.mem_map.1 hL
          exact lset_nil (fun x hx => hO.u8 x (hO.su s hs x hx)) (hO.sl s hs).1) h2
        rw [List.length_map, List.map_map] at hS'
        exact ⟨_, S', rfl, ⟨_, rfl, ⟨_, _, S', rfl, hS', ⟨_, _, S', rfl, ⟨rfl, rfl, trivial, rfl⟩, ⟨_, _, S', rfl, ⟨rfl, rfl, trivial, rfl⟩, rfl, rfl⟩⟩⟩⟩, h3⟩
  · cases hd
noncomputable def decOf (sums : Sums) (lf n : Nat) : List DTr → Option DTr
  | [T, U] => (match grT T, intsT U with
    | some g, some l => bif (okAll sums lf n g g.k.toNat (firsts g.k.toNat g.names.length g.prods) (allU g.toks.length g.k.toNat) && (l.all (symUB (allU g.toks.length g.k.toNat) g.names.length) && (decide (l.length ≤ 1000) &&
        (!(ofL g.k.toNat (firsts g.k.toNat g.names.length g.prods) [nilK] l).isEmpty && decide ((ofL g.k.toNat (firsts g.k.toNat g.names.length g.prods) [nilK] l).length ≤ 600)))))
      then some (.tup [looksT (lset (ofL g.k.toNat (firsts g.k.toNat g.names.length g.prods) [nilK] l)), intD 0]) else none
    | _, _ => none)
  | _ => none
theorem ofP_sub {k : Int} {J : Lk → Lk → Lk} {U : Lk → Prop} (hU : UJ k J U) {T : Nat → Lk → Prop} (hT : ∀ i z, T i z → U z) {n : Nat} : ∀ (l : List Int) (A : Lk → Prop), (∀ z, A z → U z) → (∀ s ∈ l, SymU U n s) → ∀ z, ofP k J T A l z → U z
  | [], A, hA, _, z, h => hA z h
  | s :: r, A, hA, hl, z, h => ofP_sub hU hT r _ (fun y hy => thenP_sub hU hA (fun x hx => by
      unfold symP at hx
      split at hx
      · rename_i hs; rw [hx]; exact (hl s List.mem_cons_self).2.2.1 hs
      · exact hT _ x hx) y hy) (fun t ht => hl t (List.mem_cons_of_mem _ ht)) z h
theorem ofP_sub8 {g : Gr} {J : Lk → Lk → Lk} {U : Lk → Prop} {S : List (List Lk)} (h : SetsOk g J U S) {l : List Int} (hl : ∀ s ∈ l, SymU U g.names.length s) {z : Lk} (hz : ofP g.k J (setOf S) (· = nilK) l z) : U z :=
  ofP_sub h.uj (fun i z hz => by
    unfold setOf at hz
    rw [List.getD_eq_getElem?_getD] at hz
    cases hs : S[i]? with
    | none => rw [hs] at hz; cases hz
    | some s => rw [hs] at hz; exact h.su s (List.mem_of_getElem? hs) z hz) l _ (fun z hz => by rw [hz]; exact h.nil) hl z hz
theorem of_sum {sums : Sums} {lf n : Nat} (hS : ∀ f s, sums f = some s → SumS Tryz.prog f s) : SumS Tryz.prog 236 (handC Tryz.prog sums lf n 273 (decOf sums lf n)) := handC_s hS fun Ts T hd w vs hv hC => by
  unfold decOf at hd
  split at hd
  · rename_i T1 U1
    cases h1 : grT T1 with
    | none => rw [h1] at hd; cases hd
    | some g =>
      cases h2 : intsT U1 with
      | none => rw [h1, h2] at hd; cases hd
      | some l =>
        rw [h1, h2] at hd
        simp only at hd
        obtain ⟨v1, r1, rfl, d1, v2, r2, rfl, d2, hr⟩ := hv
        have hr : r2 = [] := hr
        subst hr
        obtain ⟨a, rfl, hg⟩ := grT_s d1 h1
        obtain ⟨A, c, rfl, hrd⟩ := intsT_s d2 h2
        cases hok : (okAll sums lf n g g.k.toNat (firsts g.k.toNat g.names.length g.prods) (allU g.toks.length g.k.toNat) && (l.all (symUB (allU g.toks.length g.k.toNat) g.names.length) && (decide (l.length ≤ 1000) &&
        (!(ofL g.k.toNat (firsts g.k.toNat g.names.length g.prods) [nilK] l).isEmpty && decide ((ofL g.k.toNat (firsts g.k.toNat g.names.length g.prods) [nilK] l).length ≤ 600))))) with
        | false => rw [hok] at hd; cases hd
        | true =>
          rw [hok] at hd
          simp only [cond_true, Option.some.injEq] at hd
          subst hd
          simp only [Bool.and_eq_true, decide_eq_true_eq, List.all_eq_true] at hok
          obtain ⟨o1, o2, o3, o4, o5⟩ := hok
          have hO := okAll_s hS o1
          have hk : g.k = (g.k.toNat : Int) := by
            unfold okAll at o1
            simp only [Bool.and_eq_true, decide_eq_true_eq] at o1
            exact o1.1
          have hmem : ∀ z, z ∈ ofL g.k.toNat (firsts g.k.toNat g.names.length g.prods) [nilK] l ↔ ofP g.k (lplus g.k.toNat) (setOf (firsts g.k.toNat g.names.length g.prods)) (· = nilK) l z := fun z => by
            rw [ofL_mem, ← hk]
            exact ofP_congr (fun z => one_iff z) l z
          have hne : ofL g.k.toNat (firsts g.k.toNat g.names.length g.prods) [nilK] l ≠ [] := fun e => by rw [e] at o4; cases o4
          generalize hTT : ofL g.k.toNat (firsts g.k.toNat g.names.length g.prods) [nilK] l = TT at *
          generalize firsts g.k.toNat g.names.length g.prods = S at *
          have hT8 : ∀ x ∈ TT, x.right 8 := fun x hx => hO.u8 x (ofP_sub8 hO (fun s hs => symUB_s (o2 s hs)) ((hmem x).1 hx))
          refine (firstOf_any g a _ _ S hO w hg A l.length c l TT hrd o3 (fun s hs => symUB_s (o2 s hs)) hmem o5 (fun W hb => hC W hb)).mono ?_
          rintro e w' ⟨v, rfl, h3, h4⟩
          have hln := lset_nil hT8 hne
          obtain ⟨b, hb1, hb2, hb3⟩ := own_block h3 hln
          exact ⟨_, [b], rfl, ⟨_, rfl, ⟨_, _, [b], rfl, out_looksS hln h3 hb1 (by simp), ⟨_, _, [b], rfl, ⟨rfl, rfl, trivial, rfl⟩, rfl, rfl⟩⟩⟩, h4⟩
  · cases hd
end Go.Proofs.YtjnmkdahbcmfaaaGreat

/- reach.reached as a summary. -/
namespace Go.Proofs.YtjnmkdahbcmfaaaGreat
open Go.ChangeShapes Go.WideShapes Go.ChangeAt Go.RowKit Go.Ev
set_option linter.unusedVariables false
set_option maxRecDepth 100000
theorem info4b : (Tryz.prog.info? 4).map (fun i => (i.zero, i.size, i.bytes)) = some (some (.bool false), 1, 1) := by kernel_rfl
theorem underB : Tryz.prog.underlying 139 = some (.slice 4) := by kernel_rfl
theorem marks_off (n : Nat) (l : List Int) (ix : Nat) (h : ix < n) (hx : (16 : Int) + (ix : Int) ∉ l) : (marksB n l).setIfInBounds ix (.bool false) = marksB n l := by
  apply Array.ext_getElem?
  intro i
  rw [Array.getElem?_setIfInBounds]
  by_cases hi : ix = i
  · subst hi
    rw [if_pos rfl, marks_get n l ix h]
    simp [marksB, h, hx]
  · rw [if_neg hi]
theorem made_marks (n : Nat) : madeCells #[.bool false] n = marksB n [] := by
  apply Array.ext_getElem?
  intro i
  simp only [madeCells, marksB, List.not_mem_nil, decide_false, List.getElem?_toArray, List.getElem?_map]
  by_cases hi : i < n
  · simp [hi, Nat.mod_one]
  · simp [hi]
set_option maxHeartbeats 2000000 in
theorem filled_any (n : Nat) (hn : n ≤ 900) (w : World) : Calls Tryz.prog 232 #[.int .i64 n, .bool false] w fun e w' => ∃ b, e = .returned (.slice (some ⟨b, 0, none⟩) n n) ∧ w.heap.size ≤ b ∧ Blk w' b 4 ((List.range n).map fun _ => Value.bool false).toArray ∧ Below w.heap.size w w' := by
  refine opq fun RR hR => ?_
  obtain ⟨i4, hi4, hq0, hq1, hq2⟩ := info_parts info4b
  go_enter Tryz.func232, Tryz.ntmps232
  go_upto_region 2 with (at_make; refine wpList_make_row _ rfl _ _ 139 rfl 4 i4 (.bool false) underB hi4 hq0 hq1 rfl _ _ n rfl rfl (by rw [hq2]; omega) (by omega) ?_)
  have q := Blk.new w 4 (madeCells #[.bool false] n)
  have hb := bAlc (Below.refl w.heap.size w) (.cells (madeCells #[.bool false] n) 4)
  rw [made_marks] at q hb ⊢
  generalize w.alloc (.cells (marksB n []) 4) = W1 at *
  obtain ⟨bo, hbo⟩ : ∃ bo, bo = w.heap.size := ⟨_, rfl⟩
  rw [← hbo] at q ⊢
  have hbo' : w.heap.size ≤ bo := by omega
  clear hbo
  go_wp2_with fail
  go_loopg [11] n (fun gk s11 wr => ∃ i : Nat, s11 = .int .i64 i ∧ Hid (i + gk = n) ∧ Blk wr bo 4 (marksB n []) ∧ Below w.heap.size w wr)
  case atStart => exact ⟨0, rfl, Lib.hid (by omega), q, hb⟩
  case round =>
    clear q hb
    obtain ⟨i, rfl, hi, q, hb⟩ := hrel
    by_cases hin : i < n
    · have y0 : wr.cell? ⟨bo, i, none⟩ = some (.bool (decide ((16 : Int) + (i : Int) ∈ ([] : List Int)))) := (q.cell i).trans (marks_get _ _ _ hin)
      have y1 := q.frozen i
      generalize (decide ((16 : Int) + (i : Int) ∈ ([] : List Int))) = bv at *
      have hz1 : (0 : Int) ≤ i := by omega
      have hz2 : (i : Int) < n := by omega
      have zw : IntKind.i64.wrap (i : Int) = i := IntWalk.i64_in _ (by omega)
      go_wp2_with fail
      go_roundg (n - (i + 1))
      case measure => have := hi.out; omega
      case rel =>
        refine ⟨i + 1, by go_num, Lib.hid (by omega), ?_, bSet hb _ _ hbo'⟩
        have := q.put i (.bool false)
        rw [marks_off n [] i hin (by simp)] at this
        exact this
    · have hz3 : ¬ ((i : Int) < n) := by have := hi.out; omega
      go_wp2_with fail
      exact hR.out _ _ ⟨bo, rfl, hbo', by rw [marks_nil]; exact q, hb⟩
/-! ### as a summary -/
def addR (r : List Int) (acc : List Int) : List Int := r.foldl (fun acc s => if 16 ≤ s ∧ s ∉ acc then acc ++ [s] else acc) acc
def stepR (ps : List Pr) (acc : List Int) : List Int := ps.foldl (fun acc p => if p.left ∈ acc then addR p.right acc else acc) acc
def iterR (ps : List Pr) : Nat → List Int → List Int
  | 0, l => l
  | n + 1, l => iterR ps n (stepR ps l)
def closedR (ps : List Pr) (l : List Int) : Bool := ps.all fun p => !decide (p.left ∈ l) || p.right.all fun s => decide (s < 16) || decide (s ∈ l)
theorem addR_sub {T : Int → Prop} : ∀ (r acc : List Int), (∀ s ∈ acc, T s) → (∀ s ∈ r, 16 ≤ s → T s) → ∀ s ∈ addR r acc, T s
  | [], acc, h1, h2, s, hs => h1 s hs
  | x :: r, acc, h1, h2, s, hs => by
    refine addR_sub r _ ?_ (fun s hs => h2 s (List.mem_cons_of_mem _ hs)) s hs
    intro y hy
    dsimp only at hy
    split at hy
    · rename_i hc
      rcases List.mem_append.1 hy with hy | hy
      · exact h1 y hy
      · rw [List.mem_singleton.1 hy]; exact h2 x List.mem_cons_self hc.1
    · exact h1 y hy
theorem stepR_sub {T : Int → Prop} : ∀ (ps : List Pr) (acc : List Int), ClR ps T → (∀ s ∈ acc, T s) → ∀ s ∈ stepR ps acc, T s
  | [], acc, hc, h1, s, hs => h1 s hs
  | p :: ps, acc, hc, h1, s, hs => by
    refine stepR_sub ps _ (fun q hq => hc q (List.mem_cons_of_mem _ hq)) ?_ s hs
    intro y hy
    dsimp only at hy
    split at hy
    · rename_i hp
      exact addR_sub p.right acc h1 (hc p List.mem_cons_self (h1 _ hp)) y hy
    · exact h1 y hy
theorem iterR_sub {T : Int → Prop} {ps : List Pr} (hc : ClR ps T) : ∀ (n : Nat) (l : List Int), (∀ s ∈ l, T s) → ∀ s ∈ iterR ps n l, T s
  | 0, l, h, s, hs => h s hs
  | n + 1, l, h, s, hs => iterR_sub hc n _ (stepR_sub ps l hc h) s hs
theorem closedR_s {ps : List Pr} {l : List Int} (h : closedR ps l = true) : ClR ps (· ∈ l) := by
  intro p hp hl s hs h16
  have h1 := List.all_eq_true.1 h p hp
  simp only [Bool.or_eq_true, Bool.not_eq_true', decide_eq_false_iff_not, List.all_eq_true, decide_eq_true_eq] at h1
  rcases h1 with h1 | h1
  · exact absurd hl h1
  · rcases h1 s hs with h2 | h2
    · omega
    · exact h2
def okR (g : Gr) (st : Int) (R : List Int) : Bool :=
  (R.all fun s => decide (16 ≤ s) && decide (s < 16 + (g.names.length : Int))) && (decide (st ∈ R) && (closedR g.prods R && (decide (g.names.length ≤ 900) && (decide (g.prods.length ≤ 1000) &&
    g.prods.all fun p => decide (0 ≤ p.left) && (decide (p.left ≤ 1000) && (decide (p.right.length ≤ 1000) && p.right.all fun s => decide (0 ≤ s) && decide (s ≤ 1000)))))))
noncomputable def boolsT (n : Nat) (R : List Int) : DTr := .sl 4 0 n 0 n true n (((List.range n).map fun i : Nat => FV.bool (decide ((16 : Int) + (i : Int) ∈ R))).map DTr.v)
noncomputable def decReached : List DTr → Option DTr
  | [T, S] => (match grT T, intT S with
    | some g, some st => bif okR g st (iterR g.prods (g.names.length + 1) [st]) then some (boolsT g.names.length (iterR g.prods (g.names.length + 1) [st])) else none
    | _, _ => none)
  | _ => none
theorem out_bools {w w' : World} {b n : Nat} {R : List Int} (hb : w.heap.size ≤ b) (q : Blk w' b 4 (marksB n R)) : OutV Tryz.prog w w' (boolsT n R) (.slice (some ⟨b, 0, none⟩) n n) [] [b] := by
  have hfl : ((((List.range n).map fun i : Nat => FV.bool (decide ((16 : Int) + (i : Int) ∈ R))).map DTr.v).all flatT) = true := by
    rw [List.all_eq_true]
    intro T hT
    obtain ⟨x, hx, rfl⟩ := List.mem_map.1 hT
    obtain ⟨i, _, rfl⟩ := List.mem_map.1 hx
    rfl
  have hat : OutVs Tryz.prog w w' (((List.range n).map fun i : Nat => FV.bool (decide ((16 : Int) + (i : Int) ∈ R))).map DTr.v) (((marksB n R).toList.drop 0).take n) [] [] := by
    have h1 : ((marksB n R).toList.drop 0).take n = (((List.range n).map fun i : Nat => FV.bool (decide ((16 : Int) + (i : Int) ∈ R))).map (val σ0)) := by
      simp only [marksB, List.drop_zero, List.map_map, Function.comp_def, val]
      exact List.take_of_length_le (by simp)
    rw [h1]
    exact outvs_atoms _ fun x hx => by
      obtain ⟨i, _, rfl⟩ := List.mem_map.1 hx
      exact ⟨rfl, trivial⟩
  have hsz : 0 + n ≤ (marksB n R).size := by simp [marksB]
  have hln : (((List.range n).map fun i : Nat => FV.bool (decide ((16 : Int) + (i : Int) ∈ R))).map DTr.v).length = n := by simp
  exact ⟨b, 0, 0, marksB n R, [], rfl, q, hb, hsz, hln, hfl, (fun h => by cases h), hat, (by simp), rfl⟩
theorem reached_sum : SumS Tryz.prog 206 (handK decReached) := handK_s fun Ts T hd w vs hv => by
  unfold decReached at hd
  split at hd
  · rename_i T1 S1
    cases h1 : grT T1 with
    | none => rw [h1] at hd; cases hd
    | some g =>
      cases h2 : intT S1 with
      | none => rw [h1, h2] at hd; cases hd
      | some st =>
        rw [h1, h2] at hd
        simp only at hd
        obtain ⟨v1, r1, rfl, d1, v2, r2, rfl, d2, hr⟩ := hv
        have hr : r2 = [] := hr
        subst hr
        obtain ⟨a, rfl, hg⟩ := grT_s d1 h1
        have e2 := intT_s d2 h2
        subst e2
        cases hok : okR g st (iterR g.prods (g.names.length + 1) [st]) with
        | false => rw [hok] at hd; cases hd
        | true =>
          rw [hok] at hd
          simp only [cond_true, Option.some.injEq] at hd
          subst hd
          have hle : ∀ T : Int → Prop, T st → ClR g.prods T → ∀ s ∈ iterR g.prods (g.names.length + 1) [st], T s := fun T h0 hc => iterR_sub hc _ _ (fun s hs => by rw [List.mem_singleton.1 hs]; exact h0)
          generalize iterR g.prods (g.names.length + 1) [st] = R at *
          unfold okR at hok
          simp only [Bool.and_eq_true, decide_eq_true_eq, List.all_eq_true] at hok
          obtain ⟨k1, k2, k3, k4, k5, k6⟩ := hok
          refine (reached_any g a st R w hg k1 k2 (closedR_s k3) hle k4 k5 (fun p hp => ⟨(k6 p hp).1, (k6 p hp).2.1, (k6 p hp).2.2.1, (k6 p hp).2.2.2⟩) (filled_any _ k4)).mono ?_
          rintro e w' ⟨b, rfl, b1, b2, b3⟩
          exact ⟨_, _, rfl, out_bools b1 b2, b3⟩
  · cases hd
end Go.Proofs.YtjnmkdahbcmfaaaGreat

/- (follow.set).sorted of an empty map, and of any map. -/
namespace Go.Proofs.YtjnmkdahbcmfaaaGreat
open Go.ChangeShapes Go.WideShapes Go.ChangeAt Go.RowKit
set_option linter.unusedVariables false
set_option maxRecDepth 100000
open Go.Ev
noncomputable def sortedF : HL := fun args h k => match args with
  | [.map i] => h.map i fun es ck => @List.rec _ (fun _ => Ro) (k .nils h) (fun _ _ _ => sortedGo h k es ck) es
  | _ => .no
theorem sortedF_sum : SumS Tryz.prog 272 sortedF := by
  intro B w0 σ h w args k v hf hR ho hk
  unfold sortedF at hk
  split at hk
  · rename_i i
    obtain ⟨es, ck, hi, hk'⟩ := map_ok' hk
    cases es with
    | cons e es =>
      have h1 : sortedH [.map i] h k = .ok v hf := by
        show h.map i _ = _
        unfold FH.map
        rw [hi]; exact hk'
      exact sorted_sum _ _ _ _ hR ho h1
    | nil =>
      obtain ⟨o, hob, hbo⟩ := hR.blk i _ hi (by simp)
      obtain ⟨rfl, _⟩ := hbo
      have hst : MapKept.Stamped (([] : List (FV × FV × Nat)).map (mE σ)).toArray ck := ⟨fun x hx => by simp at hx, by simp, by simp⟩
      have hm : MapK lookKey w (σ.blk i) [] := ⟨_, ck, hob, by simp, by simp, by simp, List.nodup_nil, hst⟩
      refine Calls.mono (sorted0_any (σ.blk i) [] w hm (Lib.hid rfl)) fun e w' hq => ?_
      obtain ⟨rfl, hb⟩ := hq
      exact ⟨.nils, h, σ, hk', rfl, Nat.le_refl _, Ext.refl _ _, hR.later hb, trivial, rfl⟩
  · cases hk
end Go.Proofs.YtjnmkdahbcmfaaaGreat

/- The summaries of what the compile of a grammar calls. -/
namespace Go.Proofs.YtjnmkdahbcmfaaaGreat
open Go.ChangeShapes Go.WideShapes Go.ChangeAt Go.RowKit Go.Ev
set_option linter.unusedVariables false
set_option maxRecDepth 100000
noncomputable def sums0 : Sums := memo Tryz.prog noSums 1000 100 [52, 244]
theorem sums0_s : ∀ f s, sums0 f = some s → SumS Tryz.prog f s := memo_s (fun f s h => by cases h) _
noncomputable def pk (f g : FuncId) (s : HL) (r : Option HL) : Option HL := @Bool.rec (fun _ => Option HL) r (some s) (Nat.beq f g)
theorem pk_s {P : Program} {f g : FuncId} {s t : HL} {r : Option HL} (h : pk f g s r = some t) (hs : SumS P g s) (hr : r = some t → SumS P f t) : SumS P f t := by
  unfold pk at h
  cases hb : Nat.beq f g with
  | false => rw [hb] at h; exact hr h
  | true =>
    rw [hb] at h
    have := Nat.eq_of_beq_eq_true hb; subst this
    injection h with h; subst h; exact hs
noncomputable def sums1 : Sums := fun f => pk f 234 (handC Tryz.prog sums0 1000 100 52 (decAll sums0 1000 100)) (pk f 236 (handC Tryz.prog sums0 1000 100 273 (decOf sums0 1000 100))
  (pk f 206 (handK decReached) (pk f 272 sortedF none)))
theorem sums1_s : ∀ f s, sums1 f = some s → SumS Tryz.prog f s := fun f s h =>
  pk_s h (all_sum sums0_s) fun h => pk_s h (of_sum sums0_s) fun h => pk_s h reached_sum fun h => pk_s h sortedF_sum fun h => by cases h
end Go.Proofs.YtjnmkdahbcmfaaaGreat

/-  -/
namespace Go.Ev
/-! ### data written short -/
noncomputable def I (n : Nat) : DTr := .v (.int .i64 (.ofNat n))
noncomputable def J (n : Nat) : DTr := .v (.int .i64 (.negSucc n))
noncomputable def Sx (l : List Nat) : DTr := .v (.str l)
noncomputable def Iq (n : Nat) : DTr := @Nat.rec (fun _ => DTr) (J 0) (fun n _ => I n) n
noncomputable def Rw (t : TypeId) (g m off len : Nat) (cx : Bool) (cap : Nat) (l : List Nat) : DTr := .sl t g m off len cx cap (l.map Iq)
noncomputable def Rs (t : TypeId) (g m off len : Nat) (cx : Bool) (cap : Nat) (l : List (List Nat)) : DTr := .sl t g m off len cx cap (l.map Sx)
end Go.Ev

/- The example grammar, compiled by the reference, run in the kernel. -/
namespace Go.Proofs.YtjnmkdahbcmfaaaGreat
open Go.Ev Go.RowKit
set_option maxRecDepth 100000
noncomputable abbrev refL : List FuncId := [44, 43, 64, 107, 106, 42, 28, 63, 104, 62, 61, 60,
  103, 165, 194, 164, 193, 226, 228, 163, 192, 224, 225, 227, 257, 285, 196, 256, 230, 198, 56]
noncomputable abbrev proL : List FuncId := [49, 80, 82, 137, 181, 180, 176, 175, 209, 208,
  235, 174, 207, 233, 264, 173, 205, 24, 54, 52]
noncomputable def gEx : DTr := .agg [I 2, Rs 9 0 3 0 3 true 3 [[97],[98],[100]], Sx [99], Rs 9 0 2 0 2 true 2 [[83],[66]], I 16, .sl 61 0 8 0 4 true 4 [I 16, Rw 3 0 3 0 3 true 3 [1,17,2], I 16, Rw 3 0 1 0 1 true 1 [18], I 17, Rw 3 0 1 0 1 true 1 [3], I 17, .v .nils]]
noncomputable def xEx : DTr := .agg [I 2, Rs 9 1 3 0 3 false 0 [[97],[98],[100]], Sx [99], Rs 9 1 2 0 2 false 0 [[83],[66]], I 16, .sl 61 1 8 0 4 false 0 [I 16, Rw 3 1 3 0 3 false 0 [1,17,2], I 16, Rw 3 1 1 0 1 false 0 [18], I 17, Rw 3 1 1 0 1 false 0 [3], I 17, .sl 3 0 0 0 0 true 0 []], .sl 86 1 2 0 2 false 0 [Rw 132 1 120 0 12 false 0 [2,7,10,1,1,1,1,1,6,0,3,4,5,1,1,1,1,1,1,0,1,1,1,1,1,1,1,1,1,1,1,1,1,1,1,1,1,1,1,1,1,1,1,1,1,1,1,1,1,1,1,1,1,1,1,1,1,1,1,2,1,9,1,1,1,1,1,1,8,0,1,1,1,1,1,1,1,1,1,2,1,1,1,1,1,1,1,1,1,2,1,12,1,1,1,1,1,1,11,0,1,1,1,1,1,1,1,1,1,2,1,1,1,1,1,1,1,1,1,2], Rw 132 1 80 0 8 false 0 [1,6,2,1,1,1,1,1,5,0,1,4,1,1,1,1,1,1,3,0,1,1,1,1,1,1,1,1,1,3,1,1,1,1,1,1,1,1,1,3,1,1,1,1,1,1,1,1,1,4,1,8,1,1,1,1,1,1,7,0,1,1,1,1,1,1,1,1,1,4,1,1,1,1,1,1,1,1,1,4]], Sx [2,3,1,97,1,98,1,100,1,99,2,1,83,1,66,0,4,0,3,0,8,1,0,1,9,1,1,2,1,0]]
noncomputable def x0T : DTr := .agg [I 0, I 0, I 0, I 0, I 0, I 0, I 0, I 0, I 0, I 0, I 0]
theorem gramEx_run : gcall Tryz.prog (memo Tryz.prog noSums 1000 100 refL) 1000 100 21 [gEx] (.tup [xEx, x0T]) = true := by decide +kernel
end Go.Proofs.YtjnmkdahbcmfaaaGreat

/- open.Check of the example grammar, run in the kernel. -/
namespace Go.Proofs.YtjnmkdahbcmfaaaGreat
open Go.Ev Go.RowKit
set_option maxRecDepth 100000
theorem checkEx_run : gcall Tryz.prog (memo Tryz.prog sums1 1000 100 proL) 1000 100 23 [xEx] (I 0) = true := by decide +kernel
end Go.Proofs.YtjnmkdahbcmfaaaGreat

/- BoundKnown, run in the kernel. -/
namespace Go.Proofs.YtjnmkdahbcmfaaaGreat
open Go.Ev Go.RowKit
set_option maxRecDepth 100000
noncomputable def sums2 : Sums := fun f => pk f 21 (gsum [gEx] (.tup [xEx, x0T])) (pk f 23 (gsum [xEx] (I 0)) (sums1 f))
theorem sums2_s : ∀ f s, sums2 f = some s → SumS Tryz.prog f s := fun f s h =>
  pk_s h (gsum_s (memo_s (fun f s h => by cases h) _) gramEx_run) fun h => pk_s h (gsum_s (memo_s sums1_s _) checkEx_run) fun h => sums1_s f s h
theorem boundKnown_run : isT (evF Tryz.prog (memo Tryz.prog sums2 1000 100 [19, 14, 12, 16, 31, 8, 10, 24, 54, 52]) 1000 100 (.fn 4) [] h0 Ro.ok) = true := by decide +kernel
theorem boundKnown_walk (w : World) : Calls Tryz.prog 4 #[] w fun e w' => e = .returned (.bool true) ∧ Below w.heap.size w w' := ground (memo_s sums2_s _) boundKnown_run w
end Go.Proofs.YtjnmkdahbcmfaaaGreat
