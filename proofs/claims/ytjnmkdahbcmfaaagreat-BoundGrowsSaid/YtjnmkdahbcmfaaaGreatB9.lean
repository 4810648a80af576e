/- Walks and plain laws, part 9 of 30: first.All, first.Of as summaries; reach.reached as a summary; (follow.set).sorted of an empty map, and of any map; The summaries of what the compile of a grammar calls; ; ; ; BoundNumbers: what is run in the kernel for each text of the kit; BoundNumbers: the ten calls at a text that passes the kernel's check; BoundNumbers: the compiled grammars of the kit. Conditions: none beyond those that each theorem states. -/
import Derived.Test.YtjnmkdahbcmfaaaGreatB8
import Derived.Deep.OwnRows
import Derived.KernelRfl
/- first.All, first.Of as summaries. -/
namespace Go.Proofs.YtjnmkdahbcmfaaaGreat
open Go.ChangeShapes Go.WideShapes Go.ChangeAt Go.RowKit Go.Ev
set_option linter.unusedVariables false
set_option maxRecDepth 100000
def symUB (UL : List Lk) (n : Nat) (s : Int) : Bool := decide (0 ≤ s) && (decide (s ≤ 1000) && (if s < 16 then memL (oneK s) UL else decide ((s - 16).toNat < n)))
theorem symUB_s {UL : List Lk} {n : Nat} {s : Int} (h : symUB UL n s = true) : SymU (· ∈ UL) n s := by
  unfold symUB at h
  rw [Bool.and_eq_true, Bool.and_eq_true, decide_eq_true_eq, decide_eq_true_eq] at h
  obtain ⟨h1, h2, h3⟩ := h
  refine ⟨h1, h2, fun hs => ?_, fun hs => ?_⟩
  · rw [if_pos hs] at h3; exact memL_s h3
  · rw [if_neg (by omega)] at h3; exact of_decide_eq_true h3
noncomputable def okAll (sums : Sums) (lf n : Nat) (g : Gr) (k : Nat) (S : List (List Lk)) (UL : List Lk) : Bool :=
  decide (g.k = (k : Int)) && (jOK sums lf n k UL && (decide (nilK ∈ UL) && ((S.all fun s => s.all fun z => memL z UL) && (closedB k S g.prods && (decide (g.names.length ≤ 1000) && (decide (g.prods.length ≤ 1000) &&
    ((g.prods.all fun p => decide (16 ≤ p.left) && (decide (p.left < 16 + g.names.length) && (decide (p.right.length ≤ 1000) && p.right.all (symUB UL g.names.length)))) && (S.all fun s => !s.isEmpty && decide (s.length ≤ 600)))))))))
theorem okAll_s {sums : Sums} {lf n : Nat} (hS : ∀ f s, sums f = some s → SumS Tryz.prog f s) {g : Gr} {k : Nat} {UL : List Lk} (h : okAll sums lf n g k (firsts k g.names.length g.prods) UL = true) :
    SetsOk g (lplus k) (· ∈ UL) (firsts k g.names.length g.prods) := by
  have hle := fun T (hT : ClosedP k (lplus k) T g.prods) => firsts_le (names := g.names.length) hT
  have hlen := firsts_len k g.names.length g.prods
  generalize firsts k g.names.length g.prods = S at *
  unfold okAll at h
  simp only [Bool.and_eq_true, decide_eq_true_eq, List.all_eq_true] at h
  obtain ⟨h1, h2, h3, h4, h5, h6, h7, h8, h9⟩ := h
  obtain ⟨j1, j2⟩ := jOK_s hS h2
  rw [← h1] at j1 hle
  have hcl := closedB_s h5
  rw [← h1] at hcl
  exact ⟨j1, h3, j2, hlen, fun s hs z hz => memL_s (h4 s hs z hz), hcl, hle, h6, h7, fun p hp => ⟨(h8 p hp).1, (h8 p hp).2.1, (h8 p hp).2.2.1, fun s hs => symUB_s ((h8 p hp).2.2.2 s hs)⟩, fun s hs => ⟨(fun e => by
    have := (h9 s hs).1
    rw [e] at this; cases this), (h9 s hs).2⟩⟩
noncomputable def allT (S : List (List Lk)) : DTr := .tup [.sl 147 1 S.length 0 S.length false 0 (S.map fun s => looksT (lset s)), intD 0, intD 0]
noncomputable def decAll (sums : Sums) (lf n : Nat) : List DTr → Option DTr
  | [T] => (match grT T with
    | some g => bif (okAll sums lf n g g.k.toNat (firsts g.k.toNat g.names.length g.prods) (allU g.toks.length g.k.toNat) && !(g.names.isEmpty)) then some (allT (firsts g.k.toNat g.names.length g.prods)) else none
    | none => none)
  | _ => none
theorem out_looksS {w w' : World} {v : Value} {l : List Lk} {S : List Nat} {b : Nat} (hl : l ≠ []) (ho : OwnL w' w.heap.size v l) (hv : v.ownBlock = some b) (hb : b ∉ S) : OutV Tryz.prog w w' (looksT l) v S (b :: S) := by
  rcases ho.2 with ⟨_, h0⟩ | ⟨g, cap, cur, rfl, hbg, hg, hnc, hcm, hcs, ht⟩
  · exact absurd (List.eq_nil_of_length_eq_zero h0) hl
  · have hgb : g = b := by simpa [Value.ownBlock] using hv
    subst hgb
    have hsz : 0 + l.length * 5 ≤ cur.size := by rw [hcs]; have := Nat.mul_le_mul_right 5 hnc; omega
    have hln : ((atomsL l).map DTr.v).length = l.length * 5 := by rw [List.length_map, atomsL_len]
    have hat : OutVs Tryz.prog w w' ((atomsL l).map DTr.v) ((cur.toList.drop 0).take (l.length * 5)) S S := by
      rw [List.drop_zero, ht, ← atomsL_val]
      exact outvs_atoms _ (atomsL_id l)
    have hcap : (1 : Nat) = 1 → l.length * 5 ≤ cap * Tryz.prog.cellsOf 45 ∧ 0 + cap * Tryz.prog.cellsOf 45 ≤ cur.size := fun _ => by
      rw [cellsLook, hcs]
      exact ⟨Nat.mul_le_mul_right 5 hnc, by omega⟩
    exact ⟨g, 0, cap, cur, S, rfl, hg, hbg, hsz, hln, atomsL_flat l, hcap, hat, hb, rfl⟩
theorem out_rows {w W : World} : ∀ (Ls : List (List Lk)) (vals : List Value) (bs S : List Nat), vals.length = Ls.length → bs.length = Ls.length → bs.Nodup → (∀ b ∈ bs, b ∉ S) →
    (∀ (i : Nat) (L : List Lk), Ls[i]? = some L → ∃ u b, vals[i]? = some u ∧ bs[i]? = some b ∧ u.ownBlock = some b ∧ OwnL W w.heap.size u L) → (∀ L ∈ Ls, L ≠ []) → ∃ S1, OutVs Tryz.prog w W (Ls.map looksT) vals S S1 ∧ ∀ x ∈ S1, x ∈ S ∨ x ∈ bs
  | [], vals, bs, S, h1, h2, h3, h4, h5, h6 => by
    have : vals = [] := List.eq_nil_of_length_eq_zero h1
    subst this
    exact ⟨S, ⟨rfl, rfl⟩, fun x hx => .inl hx⟩
  | L :: Ls, vals, bs, S, h1, h2, h3, h4, h5, h6 => by
    obtain ⟨u, b, a1, a2, a3, a4⟩ := h5 0 L rfl
    cases vals with
    | nil => simp at a1
    | cons u' vals =>
      cases bs with
      | nil => simp at a2
      | cons b' bs =>
        simp only [List.getElem?_cons_zero, Option.some.injEq] at a1 a2
        subst a1 a2
        obtain ⟨n1, n2⟩ := List.nodup_cons.1 h3
        obtain ⟨S1, k1, k2⟩ := out_rows Ls vals bs (b' :: S) (by simpa using h1) (by simpa using h2) n2 (fun x hx hm => by
          rcases List.mem_cons.1 hm with rfl | hm
          · exact n1 hx
          · exact h4 x (List.mem_cons_of_mem _ hx) hm) (fun i M hM => by simpa using h5 (i + 1) M (by simpa using hM)) (fun M hM => h6 M (List.mem_cons_of_mem _ hM))
        refine ⟨S1, ⟨u', vals, b' :: S, rfl, out_looksS (h6 L List.mem_cons_self) a4 a3 (h4 b' List.mem_cons_self), k1⟩, fun x hx => ?_⟩
        rcases k2 x hx with hx | hx
        · rcases List.mem_cons.1 hx with rfl | hx
          · exact .inr List.mem_cons_self
          · exact .inl hx
        · exact .inr (List.mem_cons_of_mem _ hx)
theorem cellsRow : Tryz.prog.cellsOf 147 = 1 := by kernel_rfl
theorem out_SD {w W : World} {v : Value} {Ls : List (List Lk)} (h0 : Ls ≠ []) (h6 : ∀ L ∈ Ls, L ≠ []) (h : OwnSD W w.heap.size v Ls) : ∃ S', OutV Tryz.prog w W (.sl 147 1 Ls.length 0 Ls.length false 0 (Ls.map looksT)) v [] S' := by
  obtain ⟨vals, bs, h1, h2, h3, h4, h5, h7⟩ := h
  rcases h1.2 with ⟨_, hz⟩ | ⟨g, cap, cur, rfl, hbg, hg, hnc, hcm, hcs, ht⟩
  · exact absurd (List.eq_nil_of_length_eq_zero (by omega)) h0
  · obtain ⟨S1, k1, k2⟩ := out_rows Ls vals bs [] h2 h3 h4 (by simp) h7 h6
    have hgn : g ∉ S1 := by
      intro hm
      rcases k2 g hm with hx | hx
      · cases hx
      · obtain ⟨i, hi⟩ := List.mem_iff_getElem?.1 hx
        have hil : i < Ls.length := by have := (List.getElem?_eq_some_iff.1 hi).1; omega
        obtain ⟨u, b, a1, a2, a3, a4⟩ := h7 i _ (List.getElem?_eq_getElem hil)
        rw [hi] at a2; cases a2
        rcases a4.2 with ⟨rfl, _⟩ | ⟨g', cap', cur', rfl, _, hg', _⟩
        · cases a3
        · have : g' = g := by simpa [Value.ownBlock] using a3
          subst this
          rw [hg] at hg'; cases hg'
    have hall : (Ls.map looksT).all flatT = true := by
      rw [List.all_eq_true]
      intro T hT
      obtain ⟨L, _, rfl⟩ := List.mem_map.1 hT
      rfl
    have ht' : (cur.toList.drop 0).take Ls.length = vals := by rw [List.drop_zero, ← h2]; simpa using ht
    refine ⟨_, g, 0, cap, cur, S1, by simp [h2], hg, hbg, by rw [hcs]; omega, by simp, hall, fun _ => ?_, ?_, hgn, rfl⟩
    · rw [cellsRow]; omega
    · rw [ht']; exact k1
theorem all_sum {sums : Sums} {lf n : Nat} (hS : ∀ f s, sums f = some s → SumS Tryz.prog f s) : SumS Tryz.prog 234 (handC Tryz.prog sums lf n 52 (decAll sums lf n)) := handC_s hS fun Ts T hd w vs hv hC => by
  unfold decAll at hd
  split at hd
  · rename_i T1
    cases h1 : grT T1 with
    | none => rw [h1] at hd; cases hd
    | some g =>
      rw [h1] at hd
      simp only at hd
      obtain ⟨v1, r1, rfl, d1, hr⟩ := hv
      have hr : r1 = [] := hr
      subst hr
      obtain ⟨a, rfl, hg⟩ := grT_s d1 h1
      cases hok : (okAll sums lf n g g.k.toNat (firsts g.k.toNat g.names.length g.prods) (allU g.toks.length g.k.toNat) && !(g.names.isEmpty)) with
      | false => rw [hok] at hd; cases hd
      | true =>
        rw [hok] at hd
        simp only [cond_true, Option.some.injEq] at hd
        subst hd
        obtain ⟨o1, o2⟩ := Bool.and_eq_true_iff.1 hok
        have hO := okAll_s hS o1
        have hne : firsts g.k.toNat g.names.length g.prods ≠ [] := fun e => by
          have := firsts_len g.k.toNat g.names.length g.prods
          rw [e] at this
          cases hn : g.names with
          | nil => rw [hn] at o2; cases o2
          | cons x l => rw [hn] at this; simp at this
        generalize firsts g.k.toNat g.names.length g.prods = S at *
        refine (firstAll_any g a _ _ S hO w hg (fun W hb => hC W hb)).mono ?_
        rintro e w' ⟨v, rfl, h2, h3⟩
        obtain ⟨S', hS'⟩ := out_SD (w := w) (by simpa using hne) (fun L hL => by
          obtain ⟨s, hs, rfl⟩ := List.mem_map.1 hL
          exact lset_nil (fun x hx => hO.u8 x (hO.su s hs x hx)) (hO.sl s hs).1) h2
        rw [List.length_map, List.map_map] at hS'
        exact ⟨_, S', rfl, ⟨_, rfl, ⟨_, _, S', rfl, hS', ⟨_, _, S', rfl, ⟨rfl, rfl, trivial, rfl⟩, ⟨_, _, S', rfl, ⟨rfl, rfl, trivial, rfl⟩, rfl, rfl⟩⟩⟩⟩, h3⟩
  · cases hd
noncomputable def decOf (sums : Sums) (lf n : Nat) : List DTr → Option DTr
  | [T, U] => (match grT T, intsT U with
    | some g, some l => bif (okAll sums lf n g g.k.toNat (firsts g.k.toNat g.names.length g.prods) (allU g.toks.length g.k.toNat) && (l.all (symUB (allU g.toks.length g.k.toNat) g.names.length) && (decide (l.length ≤ 1000) &&
        (!(ofL g.k.toNat (firsts g.k.toNat g.names.length g.prods) [nilK] l).isEmpty && decide ((ofL g.k.toNat (firsts g.k.toNat g.names.length g.prods) [nilK] l).length ≤ 600)))))
      then some (.tup [looksT (lset (ofL g.k.toNat (firsts g.k.toNat g.names.length g.prods) [nilK] l)), intD 0]) else none
    | _, _ => none)
  | _ => none
theorem ofP_sub {k : Int} {J : Lk → Lk → Lk} {U : Lk → Prop} (hU : UJ k J U) {T : Nat → Lk → Prop} (hT : ∀ i z, T i z → U z) {n : Nat} : ∀ (l : List Int) (A : Lk → Prop), (∀ z, A z → U z) → (∀ s ∈ l, SymU U n s) → ∀ z, ofP k J T A l z → U z
  | [], A, hA, _, z, h => hA z h
  | s :: r, A, hA, hl, z, h => ofP_sub hU hT r _ (fun y hy => thenP_sub hU hA (fun x hx => by
      unfold symP at hx
      split at hx
      · rename_i hs; rw [hx]; exact (hl s List.mem_cons_self).2.2.1 hs
      · exact hT _ x hx) y hy) (fun t ht => hl t (List.mem_cons_of_mem _ ht)) z h
theorem ofP_sub8 {g : Gr} {J : Lk → Lk → Lk} {U : Lk → Prop} {S : List (List Lk)} (h : SetsOk g J U S) {l : List Int} (hl : ∀ s ∈ l, SymU U g.names.length s) {z : Lk} (hz : ofP g.k J (setOf S) (· = nilK) l z) : U z :=
  ofP_sub h.uj (fun i z hz => by
    unfold setOf at hz
    rw [List.getD_eq_getElem?_getD] at hz
    cases hs : S[i]? with
    | none => rw [hs] at hz; cases hz
    | some s => rw [hs] at hz; exact h.su s (List.mem_of_getElem? hs) z hz) l _ (fun z hz => by rw [hz]; exact h.nil) hl z hz
theorem of_sum {sums : Sums} {lf n : Nat} (hS : ∀ f s, sums f = some s → SumS Tryz.prog f s) : SumS Tryz.prog 236 (handC Tryz.prog sums lf n 273 (decOf sums lf n)) := handC_s hS fun Ts T hd w vs hv hC => by
  unfold decOf at hd
  split at hd
  · rename_i T1 U1
    cases h1 : grT T1 with
    | none => rw [h1] at hd; cases hd
    | some g =>
      cases h2 : intsT U1 with
      | none => rw [h1, h2] at hd; cases hd
      | some l =>
        rw [h1, h2] at hd
        simp only at hd
        obtain ⟨v1, r1, rfl, d1, v2, r2, rfl, d2, hr⟩ := hv
        have hr : r2 = [] := hr
        subst hr
        obtain ⟨a, rfl, hg⟩ := grT_s d1 h1
        obtain ⟨A, c, rfl, hrd⟩ := intsT_s d2 h2
        cases hok : (okAll sums lf n g g.k.toNat (firsts g.k.toNat g.names.length g.prods) (allU g.toks.length g.k.toNat) && (l.all (symUB (allU g.toks.length g.k.toNat) g.names.length) && (decide (l.length ≤ 1000) &&
        (!(ofL g.k.toNat (firsts g.k.toNat g.names.length g.prods) [nilK] l).isEmpty && decide ((ofL g.k.toNat (firsts g.k.toNat g.names.length g.prods) [nilK] l).length ≤ 600))))) with
        | false => rw [hok] at hd; cases hd
        | true =>
          rw [hok] at hd
          simp only [cond_true, Option.some.injEq] at hd
          subst hd
          simp only [Bool.and_eq_true, decide_eq_true_eq, List.all_eq_true] at hok
          obtain ⟨o1, o2, o3, o4, o5⟩ := hok
          have hO := okAll_s hS o1
          have hk : g.k = (g.k.toNat : Int) := by
            unfold okAll at o1
            simp only [Bool.and_eq_true, decide_eq_true_eq] at o1
            exact o1.1
          have hmem : ∀ z, z ∈ ofL g.k.toNat (firsts g.k.toNat g.names.length g.prods) [nilK] l ↔ ofP g.k (lplus g.k.toNat) (setOf (firsts g.k.toNat g.names.length g.prods)) (· = nilK) l z := fun z => by
            rw [ofL_mem, ← hk]
            exact ofP_congr (fun z => one_iff z) l z
          have hne : ofL g.k.toNat (firsts g.k.toNat g.names.length g.prods) [nilK] l ≠ [] := fun e => by rw [e] at o4; cases o4
          generalize hTT : ofL g.k.toNat (firsts g.k.toNat g.names.length g.prods) [nilK] l = TT at *
          generalize firsts g.k.toNat g.names.length g.prods = S at *
          have hT8 : ∀ x ∈ TT, x.right 8 := fun x hx => hO.u8 x (ofP_sub8 hO (fun s hs => symUB_s (o2 s hs)) ((hmem x).1 hx))
          refine (firstOf_any g a _ _ S hO w hg A l.length c l TT hrd o3 (fun s hs => symUB_s (o2 s hs)) hmem o5 (fun W hb => hC W hb)).mono ?_
          rintro e w' ⟨v, rfl, h3, h4⟩
          have hln := lset_nil hT8 hne
          obtain ⟨b, hb1, hb2, hb3⟩ := own_block h3 hln
          exact ⟨_, [b], rfl, ⟨_, rfl, ⟨_, _, [b], rfl, out_looksS hln h3 hb1 (by simp), ⟨_, _, [b], rfl, ⟨rfl, rfl, trivial, rfl⟩, rfl, rfl⟩⟩⟩, h4⟩
  · cases hd
end Go.Proofs.YtjnmkdahbcmfaaaGreat

/- reach.reached as a summary. -/
namespace Go.Proofs.YtjnmkdahbcmfaaaGreat
open Go.ChangeShapes Go.WideShapes Go.ChangeAt Go.RowKit Go.Ev
set_option linter.unusedVariables false
set_option maxRecDepth 100000
theorem info4b : (Tryz.prog.info? 4).map (fun i => (i.zero, i.size, i.bytes)) = some (some (.bool false), 1, 1) := by kernel_rfl
theorem underB : Tryz.prog.underlying 139 = some (.slice 4) := by kernel_rfl
theorem marks_off (n : Nat) (l : List Int) (ix : Nat) (h : ix < n) (hx : (16 : Int) + (ix : Int) ∉ l) : (marksB n l).setIfInBounds ix (.bool false) = marksB n l := by
  apply Array.ext_getElem?
  intro i
  rw [Array.getElem?_setIfInBounds]
  by_cases hi : ix = i
  · subst hi
    rw [if_pos rfl, marks_get n l ix h]
    simp [marksB, h, hx]
  · rw [if_neg hi]
theorem made_marks (n : Nat) : madeCells #[.bool false] n = marksB n [] := by
  apply Array.ext_getElem?
  intro i
  simp only [madeCells, marksB, List.not_mem_nil, decide_false, List.getElem?_toArray, List.getElem?_map]
  by_cases hi : i < n
  · simp [hi, Nat.mod_one]
  · simp [hi]
set_option maxHeartbeats 2000000 in
theorem filled_any (n : Nat) (hn : n ≤ 900) (w : World) : Calls Tryz.prog 232 #[.int .i64 n, .bool false] w fun e w' => ∃ b, e = .returned (.slice (some ⟨b, 0, none⟩) n n) ∧ w.heap.size ≤ b ∧ Blk w' b 4 ((List.range n).map fun _ => Value.bool false).toArray ∧ Below w.heap.size w w' := by
  refine opq fun RR hR => ?_
  obtain ⟨i4, hi4, hq0, hq1, hq2⟩ := info_parts info4b
  go_enter Tryz.func232, Tryz.ntmps232
  go_upto_region 2 with (at_make; refine wpList_make_row _ rfl _ _ 139 rfl 4 i4 (.bool false) underB hi4 hq0 hq1 rfl _ _ n rfl rfl (by rw [hq2]; omega) (by omega) ?_)
  have q := Blk.new w 4 (madeCells #[.bool false] n)
  have hb := bAlc (Below.refl w.heap.size w) (.cells (madeCells #[.bool false] n) 4)
  rw [made_marks] at q hb ⊢
  generalize w.alloc (.cells (marksB n []) 4) = W1 at *
  obtain ⟨bo, hbo⟩ : ∃ bo, bo = w.heap.size := ⟨_, rfl⟩
  rw [← hbo] at q ⊢
  have hbo' : w.heap.size ≤ bo := by omega
  clear hbo
  go_wp2_with fail
  go_loopg [11] n (fun gk s11 wr => ∃ i : Nat, s11 = .int .i64 i ∧ Hid (i + gk = n) ∧ Blk wr bo 4 (marksB n []) ∧ Below w.heap.size w wr)
  case atStart => exact ⟨0, rfl, Lib.hid (by omega), q, hb⟩
  case round =>
    clear q hb
    obtain ⟨i, rfl, hi, q, hb⟩ := hrel
    by_cases hin : i < n
    · have y0 : wr.cell? ⟨bo, i, none⟩ = some (.bool (decide ((16 : Int) + (i : Int) ∈ ([] : List Int)))) := (q.cell i).trans (marks_get _ _ _ hin)
      have y1 := q.frozen i
      generalize (decide ((16 : Int) + (i : Int) ∈ ([] : List Int))) = bv at *
      have hz1 : (0 : Int) ≤ i := by omega
      have hz2 : (i : Int) < n := by omega
      have zw : IntKind.i64.wrap (i : Int) = i := IntWalk.i64_in _ (by omega)
      go_wp2_with fail
      go_roundg (n - (i + 1))
      case measure => have := hi.out; omega
      case rel =>
        refine ⟨i + 1, by go_num, Lib.hid (by omega), ?_, bSet hb _ _ hbo'⟩
        have := q.put i (.bool false)
        rw [marks_off n [] i hin (by simp)] at this
        exact this
    · have hz3 : ¬ ((i : Int) < n) := by have := hi.out; omega
      go_wp2_with fail
      exact hR.out _ _ ⟨bo, rfl, hbo', by rw [marks_nil]; exact q, hb⟩
/-! ### as a summary -/
def addR (r : List Int) (acc : List Int) : List Int := r.foldl (fun acc s => if 16 ≤ s ∧ s ∉ acc then acc ++ [s] else acc) acc
def stepR (ps : List Pr) (acc : List Int) : List Int := ps.foldl (fun acc p => if p.left ∈ acc then addR p.right acc else acc) acc
def iterR (ps : List Pr) : Nat → List Int → List Int
  | 0, l => l
  | n + 1, l => iterR ps n (stepR ps l)
def closedR (ps : List Pr) (l : List Int) : Bool := ps.all fun p => !decide (p.left ∈ l) || p.right.all fun s => decide (s < 16) || decide (s ∈ l)
theorem addR_sub {T : Int → Prop} : ∀ (r acc : List Int), (∀ s ∈ acc, T s) → (∀ s ∈ r, 16 ≤ s → T s) → ∀ s ∈ addR r acc, T s
  | [], acc, h1, h2, s, hs => h1 s hs
  | x :: r, acc, h1, h2, s, hs => by
    refine addR_sub r _ ?_ (fun s hs => h2 s (List.mem_cons_of_mem _ hs)) s hs
    intro y hy
    dsimp only at hy
    split at hy
    · rename_i hc
      rcases List.mem_append.1 hy with hy | hy
      · exact h1 y hy
      · rw [List.mem_singleton.1 hy]; exact h2 x List.mem_cons_self hc.1
    · exact h1 y hy
theorem stepR_sub {T : Int → Prop} : ∀ (ps : List Pr) (acc : List Int), ClR ps T → (∀ s ∈ acc, T s) → ∀ s ∈ stepR ps acc, T s
  | [], acc, hc, h1, s, hs => h1 s hs
  | p :: ps, acc, hc, h1, s, hs => by
    refine stepR_sub ps _ (fun q hq => hc q (List.mem_cons_of_mem _ hq)) ?_ s hs
    intro y hy
    dsimp only at hy
    split at hy
    · rename_i hp
      exact addR_sub p.right acc h1 (hc p List.mem_cons_self (h1 _ hp)) y hy
    · exact h1 y hy
theorem iterR_sub {T : Int → Prop} {ps : List Pr} (hc : ClR ps T) : ∀ (n : Nat) (l : List Int), (∀ s ∈ l, T s) → ∀ s ∈ iterR ps n l, T s
  | 0, l, h, s, hs => h s hs
  | n + 1, l, h, s, hs => iterR_sub hc n _ (stepR_sub ps l hc h) s hs
theorem closedR_s {ps : List Pr} {l : List Int} (h : closedR ps l = true) : ClR ps (· ∈ l) := by
  intro p hp hl s hs h16
  have h1 := List.all_eq_true.1 h p hp
  simp only [Bool.or_eq_true, Bool.not_eq_true', decide_eq_false_iff_not, List.all_eq_true, decide_eq_true_eq] at h1
  rcases h1 with h1 | h1
  · exact absurd hl h1
  · rcases h1 s hs with h2 | h2
    · omega
    · exact h2
def okR (g : Gr) (st : Int) (R : List Int) : Bool :=
  (R.all fun s => decide (16 ≤ s) && decide (s < 16 + (g.names.length : Int))) && (decide (st ∈ R) && (closedR g.prods R && (decide (g.names.length ≤ 900) && (decide (g.prods.length ≤ 1000) &&
    g.prods.all fun p => decide (0 ≤ p.left) && (decide (p.left ≤ 1000) && (decide (p.right.length ≤ 1000) && p.right.all fun s => decide (0 ≤ s) && decide (s ≤ 1000)))))))
noncomputable def boolsT (n : Nat) (R : List Int) : DTr := .sl 4 0 n 0 n true n (((List.range n).map fun i : Nat => FV.bool (decide ((16 : Int) + (i : Int) ∈ R))).map DTr.v)
noncomputable def decReached : List DTr → Option DTr
  | [T, S] => (match grT T, intT S with
    | some g, some st => bif okR g st (iterR g.prods (g.names.length + 1) [st]) then some (boolsT g.names.length (iterR g.prods (g.names.length + 1) [st])) else none
    | _, _ => none)
  | _ => none
theorem out_bools {w w' : World} {b n : Nat} {R : List Int} (hb : w.heap.size ≤ b) (q : Blk w' b 4 (marksB n R)) : OutV Tryz.prog w w' (boolsT n R) (.slice (some ⟨b, 0, none⟩) n n) [] [b] := by
  have hfl : ((((List.range n).map fun i : Nat => FV.bool (decide ((16 : Int) + (i : Int) ∈ R))).map DTr.v).all flatT) = true := by
    rw [List.all_eq_true]
    intro T hT
    obtain ⟨x, hx, rfl⟩ := List.mem_map.1 hT
    obtain ⟨i, _, rfl⟩ := List.mem_map.1 hx
    rfl
  have hat : OutVs Tryz.prog w w' (((List.range n).map fun i : Nat => FV.bool (decide ((16 : Int) + (i : Int) ∈ R))).map DTr.v) (((marksB n R).toList.drop 0).take n) [] [] := by
    have h1 : ((marksB n R).toList.drop 0).take n = (((List.range n).map fun i : Nat => FV.bool (decide ((16 : Int) + (i : Int) ∈ R))).map (val σ0)) := by
      simp only [marksB, List.drop_zero, List.map_map, Function.comp_def, val]
      exact List.take_of_length_le (by simp)
    rw [h1]
    exact outvs_atoms _ fun x hx => by
      obtain ⟨i, _, rfl⟩ := List.mem_map.1 hx
      exact ⟨rfl, trivial⟩
  have hsz : 0 + n ≤ (marksB n R).size := by simp [marksB]
  have hln : (((List.range n).map fun i : Nat => FV.bool (decide ((16 : Int) + (i : Int) ∈ R))).map DTr.v).length = n := by simp
  exact ⟨b, 0, 0, marksB n R, [], rfl, q, hb, hsz, hln, hfl, (fun h => by cases h), hat, (by simp), rfl⟩
theorem reached_sum : SumS Tryz.prog 206 (handK decReached) := handK_s fun Ts T hd w vs hv => by
  unfold decReached at hd
  split at hd
  · rename_i T1 S1
    cases h1 : grT T1 with
    | none => rw [h1] at hd; cases hd
    | some g =>
      cases h2 : intT S1 with
      | none => rw [h1, h2] at hd; cases hd
      | some st =>
        rw [h1, h2] at hd
        simp only at hd
        obtain ⟨v1, r1, rfl, d1, v2, r2, rfl, d2, hr⟩ := hv
        have hr : r2 = [] := hr
        subst hr
        obtain ⟨a, rfl, hg⟩ := grT_s d1 h1
        have e2 := intT_s d2 h2
        subst e2
        cases hok : okR g st (iterR g.prods (g.names.length + 1) [st]) with
        | false => rw [hok] at hd; cases hd
        | true =>
          rw [hok] at hd
          simp only [cond_true, Option.some.injEq] at hd
          subst hd
          have hle : ∀ T : Int → Prop, T st → ClR g.prods T → ∀ s ∈ iterR g.prods (g.names.length + 1) [st], T s := fun T h0 hc => iterR_sub hc _ _ (fun s hs => by rw [List.mem_singleton.1 hs]; exact h0)
          generalize iterR g.prods (g.names.length + 1) [st] = R at *
          unfold okR at hok
          simp only [Bool.and_eq_true, decide_eq_true_eq, List.all_eq_true] at hok
          obtain ⟨k1, k2, k3, k4, k5, k6⟩ := hok
          refine (reached_any g a st R w hg k1 k2 (closedR_s k3) hle k4 k5 (fun p hp => ⟨(k6 p hp).1, (k6 p hp).2.1, (k6 p hp).2.2.1, (k6 p hp).2.2.2⟩) (filled_any _ k4)).mono ?_
          rintro e w' ⟨b, rfl, b1, b2, b3⟩
          exact ⟨_, _, rfl, out_bools b1 b2, b3⟩
  · cases hd
end Go.Proofs.YtjnmkdahbcmfaaaGreat

/- (follow.set).sorted of an empty map, and of any map. -/
namespace Go.Proofs.YtjnmkdahbcmfaaaGreat
open Go.ChangeShapes Go.WideShapes Go.ChangeAt Go.RowKit
set_option linter.unusedVariables false
set_option maxRecDepth 100000
open Go.Ev
noncomputable def sortedF : HL := fun args h k => match args with
  | [.map i] => h.map i fun es ck => @List.rec _ (fun _ => Ro) (k .nils h) (fun _ _ _ => sortedGo h k es ck) es
  | _ => .no
theorem sortedF_sum : SumS Tryz.prog 272 sortedF := by
  intro B w0 σ h w args k v hf hR ho hk
  unfold sortedF at hk
  split at hk
  · rename_i i
    obtain ⟨es, ck, hi, hk'⟩ := map_ok' hk
    cases es with
    | cons e es =>
      have h1 : sortedH [.map i] h k = .ok v hf := by
        show h.map i _ = _
        unfold FH.map
        rw [hi]; exact hk'
      exact sorted_sum _ _ _ _ hR ho h1
    | nil =>
      obtain ⟨o, hob, hbo⟩ := hR.blk i _ hi (by simp)
      obtain ⟨rfl, _⟩ := hbo
      have hst : MapKept.Stamped (([] : List (FV × FV × Nat)).map (mE σ)).toArray ck := ⟨fun x hx => by simp at hx, by simp, by simp⟩
      have hm : MapK lookKey w (σ.blk i) [] := ⟨_, ck, hob, by simp, by simp, by simp, List.nodup_nil, hst⟩
      refine Calls.mono (sorted0_any (σ.blk i) [] w hm (Lib.hid rfl)) fun e w' hq => ?_
      obtain ⟨rfl, hb⟩ := hq
      exact ⟨.nils, h, σ, hk', rfl, Nat.le_refl _, Ext.refl _ _, hR.later hb, trivial, rfl⟩
  · cases hk
end Go.Proofs.YtjnmkdahbcmfaaaGreat

/- The summaries of what the compile of a grammar calls. -/
namespace Go.Proofs.YtjnmkdahbcmfaaaGreat
open Go.ChangeShapes Go.WideShapes Go.ChangeAt Go.RowKit Go.Ev
set_option linter.unusedVariables false
set_option maxRecDepth 100000
noncomputable def sums0 : Sums := memo Tryz.prog noSums 1000 100 [52, 244]
theorem sums0_s : ∀ f s, sums0 f = some s → SumS Tryz.prog f s := memo_s (fun f s h => by cases h) _
noncomputable def pk (f g : FuncId) (s : HL) (r : Option HL) : Option HL := @Bool.rec (fun _ => Option HL) r (some s) (Nat.beq f g)
theorem pk_s {P : Program} {f g : FuncId} {s t : HL} {r : Option HL} (h : pk f g s r = some t) (hs : SumS P g s) (hr : r = some t → SumS P f t) : SumS P f t := by
  unfold pk at h
  cases hb : Nat.beq f g with
  | false => rw [hb] at h; exact hr h
  | true =>
    rw [hb] at h
    have := Nat.eq_of_beq_eq_true hb; subst this
    injection h with h; subst h; exact hs
noncomputable def sums1 : Sums := fun f => pk f 234 (handC Tryz.prog sums0 1000 100 52 (decAll sums0 1000 100)) (pk f 236 (handC Tryz.prog sums0 1000 100 273 (decOf sums0 1000 100))
  (pk f 206 (handK decReached) (pk f 272 sortedF none)))
theorem sums1_s : ∀ f s, sums1 f = some s → SumS Tryz.prog f s := fun f s h =>
  pk_s h (all_sum sums0_s) fun h => pk_s h (of_sum sums0_s) fun h => pk_s h reached_sum fun h => pk_s h sortedF_sum fun h => by cases h
end Go.Proofs.YtjnmkdahbcmfaaaGreat

/-  -/
set_option linter.unusedVariables false
set_option linter.unusedSectionVars false
namespace Go.Ev
open Go.RowKit
variable {P : Program}
/-! ### data in a world go into the evaluator, and come out of it -/
theorem ext0 (σ τ : Ren) : Ext 0 σ τ := by constructor <;> intro i h <;> exact absurd h (Nat.not_lt_zero _)
mutual
theorem dat_lay {w : World} : ∀ (T : DTr) (v : Value) (τ : Ren) (hn : FH) (y : FV) (hn' : FH), DatV P w T v → HR P w.heap.size w τ hn w → hn.ro = hn.next → lay nwIn T hn = (y, hn') →
    ∃ τ', Ext hn.next τ τ' ∧ hn.next ≤ hn'.next ∧ (HR P w.heap.size w τ' hn' w ∧ hn'.ro = hn'.next) ∧ val τ' y = v ∧ y.ok hn'.next ∧ y.flat = flatT T
  | .v c, v, τ, hn, y, hn', hd, hG, hro, hl => by
    obtain ⟨rfl, a1⟩ := hd
    simp only [lay, Prod.mk.injEq] at hl
    obtain ⟨rfl, rfl⟩ := hl
    exact ⟨τ, Ext.refl _ _, Nat.le_refl _, ⟨hG, hro⟩, val_ext (ext0 _ _) c a1, ok_mono (Nat.zero_le _) _ a1, rfl⟩
  | .agg l, v, τ, hn, y, hn', hd, hG, hro, hl => by
    obtain ⟨vs, rfl, hd, hf⟩ := hd
    obtain ⟨ys, hn1, hl1⟩ : ∃ ys hn1, lays nwIn l hn = (ys, hn1) := ⟨_, _, rfl⟩
    simp only [lay, hl1, Prod.mk.injEq] at hl
    obtain ⟨rfl, rfl⟩ := hl
    obtain ⟨τ', a1, a2, a3, a4, a5, a6⟩ := dats_lay l vs τ hn ys hn1 hd hG hro hl1
    exact ⟨τ', a1, a2, a3, by simp only [val, a4], ⟨a5, by rw [a6]; exact hf⟩, rfl⟩
  | .tup l, v, τ, hn, y, hn', hd, hG, hro, hl => by
    obtain ⟨vs, rfl, hd⟩ := hd
    obtain ⟨ys, hn1, hl1⟩ : ∃ ys hn1, lays nwIn l hn = (ys, hn1) := ⟨_, _, rfl⟩
    simp only [lay, hl1, Prod.mk.injEq] at hl
    obtain ⟨rfl, rfl⟩ := hl
    obtain ⟨τ', a1, a2, a3, a4, a5, a6⟩ := dats_lay l vs τ hn ys hn1 hd hG hro hl1
    exact ⟨τ', a1, a2, a3, by simp only [val, a4], a5, rfl⟩
  | .sl t g m off len cx cap cs, v, τ, hn, y, hn', hd, hG, hro, hl => by
    obtain ⟨b, base, capv, c, fr, rfl, d1, d2, d3, d4, ⟨d5, d6, cap0, d7, d8⟩, d9⟩ := hd
    obtain ⟨ys, hn1, hl1⟩ : ∃ ys hn1, lays nwIn cs hn = (ys, hn1) := ⟨_, _, rfl⟩
    simp only [lay, hl1, Prod.mk.injEq] at hl
    obtain ⟨rfl, rfl⟩ := hl
    obtain ⟨τ', b1, b2, b3, b4, b5, b6⟩ := dats_lay cs _ τ hn ys hn1 d9 hG hro hl1
    have hE : Ext hn1.next τ' (τ'.add hn1.next b base cap0) := Ren.add_ext _ _ _ _ _
    refine ⟨τ'.add hn1.next b base cap0, b1.trans hE b2, by show hn.next ≤ hn1.next + 1; omega, ⟨b3.1.newIn b3.2 (o := .cells c t fr) (by simpa using d2) ?_ hE, by show hn1.ro + 1 = hn1.next + 1; rw [b3.2]⟩, ?_, by simp [FV.ok, nwIn], rfl⟩
    · refine ⟨c, fr, rfl, by simpa using d3, d5, fun hg => by simpa using d8 hg, fun j v hj hv => ?_⟩
      rcases KT.get_fill ys 0 .nil j v hv with ⟨_, hy⟩ | hy
      · simp only [Nat.sub_zero] at hy
        have hvj : (vals τ' ys)[j]? = some (val τ' v) := by rw [vals_eq, List.getElem?_map, hy]; rfl
        rw [b4, List.getElem?_take_of_lt hj, List.getElem?_drop] at hvj
        have hvo := oks_iff.1 b5 v (List.mem_of_getElem? hy)
        refine ⟨?_, ok_mono (Nat.le_succ _) _ hvo, ?_⟩
        · rw [Ren.add_base, val_ext hE v hvo]; simpa using hvj
        · have : ys.all FV.flat = true := by rw [b6]; exact d6
          exact List.all_eq_true.1 this v (List.mem_of_getElem? hy)
      · simp [KT.get_nil] at hy
    · simp only [val, Ren.add_blk, Ren.add_base, Ren.add_cap]
      cases cx with
      | true => simp [d1 rfl]
      | false => simp [d7 rfl]
theorem dats_lay {w : World} : ∀ (Ts : List DTr) (vs : List Value) (τ : Ren) (hn : FH) (ys : List FV) (hn' : FH), DatVs P w Ts vs → HR P w.heap.size w τ hn w → hn.ro = hn.next → lays nwIn Ts hn = (ys, hn') →
    ∃ τ', Ext hn.next τ τ' ∧ hn.next ≤ hn'.next ∧ (HR P w.heap.size w τ' hn' w ∧ hn'.ro = hn'.next) ∧ vals τ' ys = vs ∧ oks hn'.next ys ∧ ys.all FV.flat = Ts.all flatT
  | [], vs, τ, hn, ys, hn', hd, hG, hro, hl => by
    have hd : vs = [] := hd
    subst hd
    simp only [lays, Prod.mk.injEq] at hl
    obtain ⟨rfl, rfl⟩ := hl
    exact ⟨τ, Ext.refl _ _, Nat.le_refl _, ⟨hG, hro⟩, rfl, trivial, rfl⟩
  | T :: r, vs, τ, hn, ys, hn', hd, hG, hro, hl => by
    obtain ⟨v, vs', rfl, d1, d2⟩ := hd
    obtain ⟨y, hn1, hl1⟩ : ∃ y hn1, lay nwIn T hn = (y, hn1) := ⟨_, _, rfl⟩
    obtain ⟨ys1, hn2, hl2⟩ : ∃ ys hn2, lays nwIn r hn1 = (ys, hn2) := ⟨_, _, rfl⟩
    simp only [lays, hl1, hl2, Prod.mk.injEq] at hl
    obtain ⟨rfl, rfl⟩ := hl
    obtain ⟨τ1, a1, a2, a3, a4, a5, a6⟩ := dat_lay T v τ hn y hn1 d1 hG hro hl1
    obtain ⟨τ2, b1, b2, b3, b4, b5, b6⟩ := dats_lay r vs' τ1 hn1 ys1 hn2 d2 a3.1 a3.2 hl2
    exact ⟨τ2, a1.trans b1 a2, Nat.le_trans a2 b2, b3, by simp only [vals, b4, val_ext b1 y a5, a4], ⟨ok_mono b2 _ a5, b5⟩, by simp only [List.all_cons, a6, b6]⟩
end
/-! ### results -/
section
variable {w w' : World} {σ : Ren} {h : FH} {n0 : Nat} (H : HR P w.heap.size w σ h w') (hro : h.ro = n0)
include H hro
def InS (σ : Ren) (h : FH) (n0 : Nat) (S : List Nat) : Prop := ∀ i ∈ S, n0 ≤ i ∧ ∃ b, h.get i = some b ∧ Wr b
mutual
theorem mt_out : ∀ (T : DTr) (x : FV) (S S' : List Nat), mt (ckOut n0) h T x S = some S' → x.ok h.next → InS σ h n0 S → OutV P w w' T (val σ x) (S.map σ.blk) (S'.map σ.blk) ∧ InS σ h n0 S'
  | .v c, x, S, S', hm, hx, hS => by
    simp only [mt] at hm
    have hmx := bif_some hm; clear hm; obtain ⟨c0, hm⟩ := hmx
    simp only [Option.some.injEq] at hm; subst hm
    obtain ⟨c1, c2⟩ := and_true' c0
    have := beqV_s _ _ c2; subst this
    exact ⟨⟨(idf_s c1).1 _ _, c1, idf_ok c1 hx, rfl⟩, hS⟩
  | .agg l, x, S, S', hm, hx, hS => by
    simp only [mt] at hm
    cases x <;> simp only at hm <;> try (cases hm; done)
    rename_i xs
    obtain ⟨a1, a2, a3⟩ := mts_out l xs S S' hm hx.1 hS
    exact ⟨⟨_, rfl, by rw [← a3]; exact hx.2, a1⟩, a2⟩
  | .tup l, x, S, S', hm, hx, hS => by
    simp only [mt] at hm
    cases x <;> simp only at hm <;> try (cases hm; done)
    rename_i xs
    obtain ⟨a1, a2, a3⟩ := mts_out l xs S S' hm hx hS
    exact ⟨⟨_, rfl, a1⟩, a2⟩
  | .sl t g m off len cx cap cs, x, S, S', hm, hx, hS => by
    simp only [mt] at hm
    cases x <;> simp only at hm <;> try (cases hm; done)
    rename_i i o l c d
    have hmx := bif_some hm; clear hm; obtain ⟨c1, hm⟩ := hmx
    obtain ⟨e1, c1a⟩ := and_true' c1
    obtain ⟨e2, c1b⟩ := and_true' c1a
    obtain ⟨e3, e4⟩ := and_true' c1b
    clear c1 c1a c1b
    have e1' := beq e1; have e2' := beq e2; have e4' := beq e4
    have e3' : cx = c := by simpa using e3
    clear e1 e2 e3 e4
    subst e1' e2' e3' e4'
    cases hg : h.get i with
    | none => rw [hg] at hm; cases hm
    | some bl =>
      rw [hg] at hm
      cases bl <;> simp only at hm <;> try (cases hm; done)
      rename_i t' g' m' ks
      have hmx := bif_some hm; clear hm; obtain ⟨c2, hm⟩ := hmx
      obtain ⟨f1, c2a⟩ := and_true' c2
      obtain ⟨f2, c2b⟩ := and_true' c2a
      obtain ⟨f3, f4a⟩ := and_true' c2b
      clear c2 c2a c2b
      have f1' := beq f1; have f2' := beq f2; have f3' := beq f3; have f4 := beq f4a
      clear f1 f2 f3 f4a
      subst f1' f2' f3'
      cases hc : mtc (ckOut n0) h cs ks 0 S with
      | none => rw [hc] at hm; cases hm
      | some S1 =>
        rw [hc] at hm
        simp only at hm
        have hmx := bif_some hm; clear hm; obtain ⟨c3, hm⟩ := hmx
        simp only [Option.some.injEq] at hm; subst hm
        obtain ⟨k0, k2⟩ := and_true' c3
        obtain ⟨kw, k1⟩ := and_true' k0
        have hbi : Wr (.cells t g m ks) := ble kw
        have k1 := ble k1
        have k2 : i ∉ S1 := fun hm => by
          have := List.all_eq_true.1 k2 i hm
          simp [Nat.beq_refl] at this
        obtain ⟨ob, hob, cc, fr, rfl, h2, h3, h4, h5⟩ := H.blk i _ hg (by simp)
        obtain ⟨q1, q2⟩ := mtc_out cs ks 0 S S1 cc (σ.base i) hc (fun j z hj hz => h5 j z (by rw [← f4]; simpa using hj) hz) hS
        have hfr := h3 hbi
        subst hfr
        refine ⟨⟨σ.blk i, σ.base i, σ.cap i, cc, S1.map σ.blk, rfl, hob, H.own i _ hg hbi (by rw [hro]; exact k1), h2, f4, mtc_flat cs ks 0 S S1 hc, h4, ?_, ?_, rfl⟩, ?_⟩
        · have := q1; rw [Nat.add_zero, f4] at this; exact this
        · intro hmem
          obtain ⟨z, hz, hze⟩ := List.mem_map.1 hmem
          obtain ⟨z1, bz, z2, z3⟩ := q2 z hz
          have := H.sep z i bz _ z2 hg z3.nd (by simp) (.inl z3) (by rw [hro]; exact z1) (by rw [hro]; exact k1) hze
          subst this; exact k2 hz
        · intro j hj
          rcases List.mem_cons.1 hj with rfl | hj
          · exact ⟨k1, _, hg, hbi⟩
          · exact q2 j hj
theorem mts_out : ∀ (Ts : List DTr) (xs : List FV) (S S' : List Nat), mts (ckOut n0) h Ts xs S = some S' → oks h.next xs → InS σ h n0 S → OutVs P w w' Ts (vals σ xs) (S.map σ.blk) (S'.map σ.blk) ∧ InS σ h n0 S' ∧ xs.all FV.flat = Ts.all flatT
  | [], xs, S, S', hm, hx, hS => by
    cases xs with
    | nil => simp only [mts, Option.some.injEq] at hm; subst hm; exact ⟨⟨rfl, rfl⟩, hS, rfl⟩
    | cons x xs => simp [mts] at hm
  | T :: r, xs, S, S', hm, hx, hS => by
    cases xs with
    | nil => simp [mts] at hm
    | cons x xs =>
      simp only [mts] at hm
      cases h1 : mt (ckOut n0) h T x S with
      | none => rw [h1] at hm; cases hm
      | some S1 =>
        rw [h1] at hm
        obtain ⟨a1, a2⟩ := mt_out T x S S1 h1 hx.1 hS
        obtain ⟨b1, b2, b3⟩ := mts_out r xs S1 S' hm hx.2 a2
        exact ⟨⟨_, _, _, rfl, a1, b1⟩, b2, by simp only [List.all_cons, b3, mt_flat T x S S1 h1]⟩
theorem mtc_out : ∀ (Ts : List DTr) (ks : KT FV) (j0 : Nat) (S S' : List Nat) (cc : Array Value) (base : Nat), mtc (ckOut n0) h Ts ks j0 S = some S' → (∀ j z, j < j0 + Ts.length → ks.get j j = some z → cc[base + j]? = some (val σ z) ∧ z.ok h.next ∧ z.flat = true) →
    InS σ h n0 S → OutVs P w w' Ts ((cc.toList.drop (base + j0)).take Ts.length) (S.map σ.blk) (S'.map σ.blk) ∧ InS σ h n0 S'
  | [], ks, j0, S, S', cc, base, hm, hz, hS => by
    simp only [mtc, Option.some.injEq] at hm; subst hm
    exact ⟨⟨by simp, rfl⟩, hS⟩
  | T :: r, ks, j0, S, S', cc, base, hm, hz, hS => by
    simp only [mtc] at hm
    cases hk : ks.get j0 j0 with
    | none => rw [hk] at hm; cases hm
    | some z =>
      rw [hk] at hm
      simp only at hm
      have hmx := bif_some hm; clear hm; obtain ⟨c1, hm⟩ := hmx
      cases h1 : mt (ckOut n0) h T z S with
      | none => rw [h1] at hm; cases hm
      | some S1 =>
        rw [h1] at hm
        simp only at hm
        obtain ⟨a1, a2, a3⟩ := hz j0 z (by simp) hk
        obtain ⟨p1, p2⟩ := mt_out T z S S1 h1 a2 hS
        obtain ⟨r1, r2⟩ := mtc_out r ks (j0 + 1) S1 S' cc base hm (fun j y hj hy => hz j y (by simp only [List.length_cons]; omega) hy) p2
        have hcons : (cc.toList.drop (base + j0)).take (r.length + 1) = val σ z :: (cc.toList.drop (base + (j0 + 1))).take r.length := by
          have hlt : base + j0 < cc.toList.length := by
            have := (Array.getElem?_eq_some_iff.1 a1).1; simpa using this
          rw [List.drop_eq_getElem_cons hlt, List.take_succ_cons]
          have : cc.toList[base + j0] = val σ z := by
            have := (Array.getElem?_eq_some_iff.1 a1).2; simpa using this
          rw [this]; rfl
        rw [List.length_cons, hcons]
        exact ⟨⟨_, _, _, rfl, p1, r1⟩, r2⟩
end
end
theorem solve_at {sums : Sums} {lf n : Nat} {f : FuncId} (hS : ∀ f s, sums f = some s → SumS P f s) {Ts : List DTr} {e : FV} {hf : FH} (hr : solve P sums lf n f Ts = .ok e hf) {w : World} {vs : List Value} (hd : DatVs P w Ts vs) :
    Calls P f vs.toArray w fun e1 w' => ∃ v S', e1 = .returned v ∧ OutV P w w' (decT 10 e) v [] S' ∧ Below w.heap.size w w' := by
  obtain ⟨ys, hn, hl⟩ : ∃ ys hn, lays nwIn Ts h0 = (ys, hn) := ⟨_, _, rfl⟩
  unfold solve at hr
  rw [hl] at hr
  simp only at hr
  obtain ⟨τ, _, _, ⟨hτ, hro⟩, hv, hok, _⟩ := dats_lay Ts vs σ0 h0 ys hn hd (hr0 P σ0 w) rfl hl
  have hc := (evF_s hS n (.fn f) ys (mk hn.next) e hf hτ hok hr).2
  rw [hv] at hc
  refine Calls.mono hc fun e1 w' hq => ?_
  obtain ⟨u, h1', σ1, z1, z2, z3, z4, z5, z6, rfl⟩ := hq
  unfold mk at z1
  rcases rdF_s h1' .no 9 u (mkK hn.next u h1') with hb | ⟨T, hb⟩
  · rw [hb] at z1; cases z1
  rw [hb] at z1
  unfold mkK at z1
  cases hm1 : mt (ckOut hn.next) h1' (decT 10 (encT T)) u [] with
  | none => rw [hm1] at z1; cases z1
  | some S1 =>
    rw [hm1] at z1
    injection z1 with z1 _
    rw [z1] at hm1
    obtain ⟨q1, _⟩ := mt_out z5 (z2.trans hro) _ u [] S1 hm1 z6 (fun i hi => by cases hi)
    exact ⟨_, _, rfl, q1, z5.below⟩
mutual
theorem out_dat {w w' : World} : ∀ (T : DTr) (v : Value) (S S' : List Nat), OutV P w w' T v S S' → DatV P w' T v
  | .v c, v, S, S', h => ⟨h.1, h.2.2.1⟩
  | .agg l, v, S, S', h => by
    obtain ⟨vs, rfl, h1, h2⟩ := h
    exact ⟨vs, rfl, outs_dat l vs S S' h2, h1⟩
  | .tup l, v, S, S', h => by
    obtain ⟨vs, rfl, h2⟩ := h
    exact ⟨vs, rfl, outs_dat l vs S S' h2⟩
  | .sl t g m off len cx cap cs, v, S, S', h => by
    obtain ⟨b, base, cap0, c, S1, rfl, a1, a2, a3, a4, a5, a6, a7, a8, rfl⟩ := h
    exact ⟨b, base, _, c, (0, 0), rfl, fun hh => by simp [hh], a1, a3, a4, ⟨fun _ => rfl, a5, cap0, fun hh => by simp [hh], a6⟩, outs_dat cs _ S S1 a7⟩
theorem outs_dat {w w' : World} : ∀ (Ts : List DTr) (vs : List Value) (S S' : List Nat), OutVs P w w' Ts vs S S' → DatVs P w' Ts vs
  | [], vs, S, S', h => h.1
  | T :: r, vs, S, S', h => by
    obtain ⟨v, vs', S1, rfl, h1, h2⟩ := h
    exact ⟨v, vs', rfl, out_dat T v S S1 h1, outs_dat r vs' S1 S' h2⟩
end
mutual
theorem DatV.step {w w' : World} (hb : Below w.heap.size w w') : ∀ (T : DTr) (v : Value), DatV P w T v → DatV P w' T v
  | .v c, v, h => h
  | .agg l, v, h => by
    obtain ⟨vs, rfl, h1, h2⟩ := h
    exact ⟨vs, rfl, DatVs.step hb l vs h1, h2⟩
  | .tup l, v, h => by
    obtain ⟨vs, rfl, h1⟩ := h
    exact ⟨vs, rfl, DatVs.step hb l vs h1⟩
  | .sl t g m off len cx cap cs, v, h => by
    obtain ⟨b, base, capv, c, fr, rfl, d1, d2, d3, d4, d5, d6⟩ := h
    exact ⟨b, base, capv, c, fr, rfl, d1, (hb.block b (Array.getElem?_eq_some_iff.1 d2).1).trans d2, d3, d4, d5, DatVs.step hb cs _ d6⟩
theorem DatVs.step {w w' : World} (hb : Below w.heap.size w w') : ∀ (Ts : List DTr) (vs : List Value), DatVs P w Ts vs → DatVs P w' Ts vs
  | [], vs, h => h
  | T :: r, vs, h => by
    obtain ⟨v, vs', rfl, h1, h2⟩ := h
    exact ⟨v, vs', rfl, DatV.step hb T v h1, DatVs.step hb r vs' h2⟩
end
end Go.Ev

/-  -/
set_option linter.unusedVariables false
namespace Go.Ev
open Go.RowKit
variable {P : Program}
/-! ### results as predicates of worlds -/
noncomputable def resT (r : Ro) : DTr := match r with | .ok e _ => decT 10 e | .no => .v .nilf
theorem solve_res {sums : Sums} {lf n : Nat} {f : FuncId} (hS : ∀ f s, sums f = some s → SumS P f s) {Ts : List DTr} (hr : isOk (solve P sums lf n f Ts) = true) {w : World} {vs : List Value} (hd : DatVs P w Ts vs) :
    Calls P f vs.toArray w fun e1 w' => ∃ v S', e1 = .returned v ∧ OutV P w w' (resT (solve P sums lf n f Ts)) v [] S' ∧ Below w.heap.size w w' := by
  cases h : solve P sums lf n f Ts with
  | no => rw [h] at hr; cases hr
  | ok e hf => exact solve_at hS h hd
theorem gcall_at {sums : Sums} {lf n : Nat} {f : FuncId} (hS : ∀ f s, sums f = some s → SumS P f s) {Ts : List DTr} {T : DTr} (he : gcall P sums lf n f Ts T = true) {w : World} {vs : List Value} (hd : DatVs P w Ts vs) :
    Calls P f vs.toArray w fun e1 w' => ∃ v S', e1 = .returned v ∧ OutV P w w' T v [] S' ∧ Below w.heap.size w w' := by
  obtain ⟨ys, hn, hl⟩ : ∃ ys hn, lays nwIn Ts h0 = (ys, hn) := ⟨_, _, rfl⟩
  unfold gcall at he
  rw [hl] at he
  simp only at he
  obtain ⟨τ, _, _, ⟨hτ, hro⟩, hv, hok, _⟩ := dats_lay Ts vs σ0 h0 ys hn hd (hr0 P σ0 w) rfl hl
  cases hr : evF P sums lf n (.fn f) ys hn (gk T hn.next) with
  | no => rw [hr] at he; cases he
  | ok v1 hf1 =>
    have hc := (evF_s hS n (.fn f) ys (gk T hn.next) v1 hf1 hτ hok hr).2
    rw [hv] at hc
    refine Calls.mono hc fun e1 w' hq => ?_
    obtain ⟨u, h1', σ1, z1, z2, z3, z4, z5, z6, rfl⟩ := hq
    unfold gk at z1
    cases hm1 : mt (ckOut hn.next) h1' T u [] with
    | none => rw [hm1] at z1; cases z1
    | some S1 =>
      obtain ⟨q1, _⟩ := mt_out z5 (z2.trans hro) _ u [] S1 hm1 z6 (fun i hi => by cases hi)
      exact ⟨_, _, rfl, q1, z5.below⟩
def OutB (P : Program) (T : DTr) (B : Nat) (w' : World) (v : Value) : Prop := ∃ w0 S S', B ≤ w0.heap.size ∧ OutV P w0 w' T v S S'
mutual
theorem OutV.step {w w' w2 : World} (hb : Below w'.heap.size w' w2) : ∀ (T : DTr) (v : Value) (S S' : List Nat), OutV P w w' T v S S' → OutV P w w2 T v S S'
  | .v c, v, S, S', h => h
  | .agg l, v, S, S', h => by
    obtain ⟨vs, rfl, h1, h2⟩ := h
    exact ⟨vs, rfl, h1, OutVs.step hb l vs S S' h2⟩
  | .tup l, v, S, S', h => by
    obtain ⟨vs, rfl, h2⟩ := h
    exact ⟨vs, rfl, OutVs.step hb l vs S S' h2⟩
  | .sl t g m off len cx cap cs, v, S, S', h => by
    obtain ⟨b, base, cap0, c, S1, rfl, a1, a2, a3, a4, a5, a6, a7, a8, rfl⟩ := h
    exact ⟨b, base, cap0, c, S1, rfl, (hb.block b (Array.getElem?_eq_some_iff.1 a1).1).trans a1, a2, a3, a4, a5, a6, OutVs.step hb cs _ S S1 a7, a8, rfl⟩
theorem OutVs.step {w w' w2 : World} (hb : Below w'.heap.size w' w2) : ∀ (Ts : List DTr) (vs : List Value) (S S' : List Nat), OutVs P w w' Ts vs S S' → OutVs P w w2 Ts vs S S'
  | [], vs, S, S', h => h
  | T :: r, vs, S, S', h => by
    obtain ⟨v, vs', S1, rfl, h1, h2⟩ := h
    exact ⟨v, vs', S1, rfl, OutV.step hb T v S S1 h1, OutVs.step hb r vs' S1 S' h2⟩
end
mutual
theorem OutV.far {w w' : World} (p : Addr) (u : Value) (hp : p.block < w.heap.size) : ∀ (T : DTr) (v : Value) (S S' : List Nat), OutV P w w' T v S S' → OutV P w (w'.setCell p u) T v S S'
  | .v c, v, S, S', h => h
  | .agg l, v, S, S', h => by
    obtain ⟨vs, rfl, h1, h2⟩ := h
    exact ⟨vs, rfl, h1, OutVs.far p u hp l vs S S' h2⟩
  | .tup l, v, S, S', h => by
    obtain ⟨vs, rfl, h2⟩ := h
    exact ⟨vs, rfl, OutVs.far p u hp l vs S S' h2⟩
  | .sl t g m off len cx cap cs, v, S, S', h => by
    obtain ⟨b, base, cap0, c, S1, rfl, a1, a2, a3, a4, a5, a6, a7, a8, rfl⟩ := h
    exact ⟨b, base, cap0, c, S1, rfl, (Below.heap_setCell w' p u b (by omega)).trans a1, a2, a3, a4, a5, a6, OutVs.far p u hp cs _ S S1 a7, a8, rfl⟩
theorem OutVs.far {w w' : World} (p : Addr) (u : Value) (hp : p.block < w.heap.size) : ∀ (Ts : List DTr) (vs : List Value) (S S' : List Nat), OutVs P w w' Ts vs S S' → OutVs P w (w'.setCell p u) Ts vs S S'
  | [], vs, S, S', h => h
  | T :: r, vs, S, S', h => by
    obtain ⟨v, vs', S1, rfl, h1, h2⟩ := h
    exact ⟨v, vs', S1, rfl, OutV.far p u hp T v S S1 h1, OutVs.far p u hp r vs' S1 S' h2⟩
end
end Go.Ev

/-  -/
namespace Go.Ev
/-! ### data written short -/
noncomputable def I (n : Nat) : DTr := .v (.int .i64 (.ofNat n))
noncomputable def J (n : Nat) : DTr := .v (.int .i64 (.negSucc n))
noncomputable def Sx (l : List Nat) : DTr := .v (.str l)
noncomputable def Iq (n : Nat) : DTr := @Nat.rec (fun _ => DTr) (J 0) (fun n _ => I n) n
noncomputable def Rw (t : TypeId) (g m off len : Nat) (cx : Bool) (cap : Nat) (l : List Nat) : DTr := .sl t g m off len cx cap (l.map Iq)
noncomputable def Rs (t : TypeId) (g m off len : Nat) (cx : Bool) (cap : Nat) (l : List (List Nat)) : DTr := .sl t g m off len cx cap (l.map Sx)
end Go.Ev

/- BoundNumbers: what is run in the kernel for each text of the kit. -/
namespace Go.Proofs.YtjnmkdahbcmfaaaGreat
open Go.ChangeShapes Go.WideShapes Go.ChangeAt Go.RowKit Go.Ev
set_option linter.unusedVariables false
set_option maxRecDepth 100000
noncomputable def rL : List FuncId := [44, 43, 64, 107, 106, 42, 28, 63, 104, 62, 61, 60,
  103, 165, 194, 164, 193, 226, 228, 163, 192, 224, 225, 227, 257, 285, 196, 256, 230, 198, 56]
noncomputable def pL : List FuncId := [49, 80, 82, 137, 181, 180, 176, 175, 209, 208,
  235, 174, 207, 233, 264, 173, 205, 24, 54, 52, 237, 279, 242, 245]
noncomputable def sR : Sums := memo Tryz.prog noSums 1000 100 rL
noncomputable def sRR : Sums := memo Tryz.prog noSums 1000 100 (9 :: 11 :: 27 :: 21 :: rL)
noncomputable def sPP : Sums := memo Tryz.prog sums1 1000 100 (8 :: 10 :: 23 :: pL)
theorem sR_s : ∀ f s, sR f = some s → SumS Tryz.prog f s := memo_s (fun f s h => by cases h) _
theorem sRR_s : ∀ f s, sRR f = some s → SumS Tryz.prog f s := memo_s (fun f s h => by cases h) _
theorem sPP_s : ∀ f s, sPP f = some s → SumS Tryz.prog f s := memo_s sums1_s _
noncomputable def callI (sums : Sums) (f : FuncId) (Ts : List DTr) : Option Int := bif isOk (solve Tryz.prog sums 1000 100 f Ts) then (match resT (solve Tryz.prog sums 1000 100 f Ts) with | .v (.int .i64 n) => some n | _ => none) else none
noncomputable def callP (sums : Sums) (f : FuncId) (Ts : List DTr) : Option (Int × Int) := bif isOk (solve Tryz.prog sums 1000 100 f Ts) then (match resT (solve Tryz.prog sums 1000 100 f Ts) with | .tup [.v (.int .i64 a), .v (.int .i64 b)] => some (a, b) | _ => none) else none
theorem callI_s {sums : Sums} {f : FuncId} (hS : ∀ f s, sums f = some s → SumS Tryz.prog f s) {Ts : List DTr} {n : Int} (h : callI sums f Ts = some n) {w : World} {vs : List Value} (hd : DatVs Tryz.prog w Ts vs) : Calls Tryz.prog f vs.toArray w (Ret1 w n) := by
  unfold callI at h
  cases ho : isOk (solve Tryz.prog sums 1000 100 f Ts) with
  | false => rw [ho] at h; cases h
  | true =>
    rw [ho] at h
    simp only [cond_true] at h
    refine Calls.mono (solve_res hS ho hd) fun e w' hq => ?_
    obtain ⟨v, S', rfl, h1, h2⟩ := hq
    split at h
    · rename_i m hm
      cases h
      rw [hm] at h1
      exact ⟨by rw [show v = _ from h1.1]; rfl, h2⟩
    · cases h
theorem callP_s {sums : Sums} {f : FuncId} (hS : ∀ f s, sums f = some s → SumS Tryz.prog f s) {Ts : List DTr} {a b : Int} (h : callP sums f Ts = some (a, b)) {w : World} {vs : List Value} (hd : DatVs Tryz.prog w Ts vs) : Calls Tryz.prog f vs.toArray w (Ret2 w a b) := by
  unfold callP at h
  cases ho : isOk (solve Tryz.prog sums 1000 100 f Ts) with
  | false => rw [ho] at h; cases h
  | true =>
    rw [ho] at h
    simp only [cond_true] at h
    refine Calls.mono (solve_res hS ho hd) fun e w' hq => ?_
    obtain ⟨v, S', rfl, h1, h2⟩ := hq
    split at h
    · rename_i m k hm
      cases h
      rw [hm] at h1
      obtain ⟨vs', rfl, v1, r1, S1, rfl, ⟨rfl, _⟩, v2, r2, S2, rfl, ⟨rfl, _⟩, hr⟩ := h1
      have hr : r2 = [] := hr.1
      subst hr
      exact ⟨rfl, h2⟩
    · cases h
noncomputable def kI : DTr → Bool | .v (.int .i64 _) => true | _ => false
noncomputable def kS : DTr → Bool | .v (.str _) => true | _ => false
noncomputable def kL : DTr → Bool | .sl .. => true | .v .nils => true | _ => false
theorem kI_s {w w' : World} {T : DTr} {v : Value} {S S' : List Nat} (h : kI T = true) (ho : OutV Tryz.prog w w' T v S S') : ∃ n, v = .int .i64 n := by
  unfold kI at h
  split at h
  · exact ⟨_, ho.1⟩
  · cases h
theorem kS_s {w w' : World} {T : DTr} {v : Value} {S S' : List Nat} (h : kS T = true) (ho : OutV Tryz.prog w w' T v S S') : ∃ n, v = .string n := by
  unfold kS at h
  split at h
  · exact ⟨_, ho.1⟩
  · cases h
theorem kL_s {w w' : World} {T : DTr} {v : Value} {S S' : List Nat} (h : kL T = true) (ho : OutV Tryz.prog w w' T v S S') : ∃ A n c, v = .slice A n c := by
  unfold kL at h
  split at h
  · obtain ⟨b, base, cap0, c, S1, rfl, _⟩ := ho
    exact ⟨_, _, _, rfl⟩
  · exact ⟨_, _, _, ho.1⟩
  · cases h
noncomputable def kSrc : DTr → Bool
  | .agg [T0, T1, T2, T3, T4] => (kI T0 && (kL T1 && (kS T2 && (kS T3 && kL T4))))
  | _ => false
theorem kSrc_s {w w' : World} {T : DTr} {v : Value} {S S' : List Nat} (h : kSrc T = true) (ho : OutV Tryz.prog w w' T v S S') : ∃ (b0 : Int) (b1A : Option Addr) (b1n b1c : Nat) (b2 : ByteArray) (b3 : ByteArray) (b4A : Option Addr) (b4n b4c : Nat), v = .agg #[.int .i64 b0, .slice b1A b1n b1c, .string b2, .string b3, .slice b4A b4n b4c] := by
  unfold kSrc at h
  split at h
  · rename_i T0 T1 T2 T3 T4
    simp only [Bool.and_eq_true] at h
    obtain ⟨e0, e1, e2, e3, e4⟩ := h
    obtain ⟨vs, rfl, _, v0, r0, S0, rfl, h0, v1, r1, S1, rfl, h1, v2, r2, S2, rfl, h2, v3, r3, S3, rfl, h3, v4, r4, S4, rfl, h4, hr⟩ := ho
    have hr : r4 = [] := hr.1
    subst hr
    obtain ⟨b0, rfl⟩ := kI_s e0 h0
    obtain ⟨b1A, b1n, b1c, rfl⟩ := kL_s e1 h1
    obtain ⟨b2, rfl⟩ := kS_s e2 h2
    obtain ⟨b3, rfl⟩ := kS_s e3 h3
    obtain ⟨b4A, b4n, b4c, rfl⟩ := kL_s e4 h4
    exact ⟨b0, b1A, b1n, b1c, b2, b3, b4A, b4n, b4c, rfl⟩
  · cases h
noncomputable def kGr : DTr → Bool
  | .agg [T0, T1, T2, T3, T4, T5] => (kI T0 && (kL T1 && (kS T2 && (kL T3 && (kI T4 && kL T5)))))
  | _ => false
theorem kGr_s {w w' : World} {T : DTr} {v : Value} {S S' : List Nat} (h : kGr T = true) (ho : OutV Tryz.prog w w' T v S S') : ∃ (g0 : Int) (g1A : Option Addr) (g1n g1c : Nat) (g2 : ByteArray) (g3A : Option Addr) (g3n g3c : Nat) (g4 : Int) (g5A : Option Addr) (g5n g5c : Nat), v = .agg #[.int .i64 g0, .slice g1A g1n g1c, .string g2, .slice g3A g3n g3c, .int .i64 g4, .slice g5A g5n g5c] := by
  unfold kGr at h
  split at h
  · rename_i T0 T1 T2 T3 T4 T5
    simp only [Bool.and_eq_true] at h
    obtain ⟨e0, e1, e2, e3, e4, e5⟩ := h
    obtain ⟨vs, rfl, _, v0, r0, S0, rfl, h0, v1, r1, S1, rfl, h1, v2, r2, S2, rfl, h2, v3, r3, S3, rfl, h3, v4, r4, S4, rfl, h4, v5, r5, S5, rfl, h5, hr⟩ := ho
    have hr : r5 = [] := hr.1
    subst hr
    obtain ⟨g0, rfl⟩ := kI_s e0 h0
    obtain ⟨g1A, g1n, g1c, rfl⟩ := kL_s e1 h1
    obtain ⟨g2, rfl⟩ := kS_s e2 h2
    obtain ⟨g3A, g3n, g3c, rfl⟩ := kL_s e3 h3
    obtain ⟨g4, rfl⟩ := kI_s e4 h4
    obtain ⟨g5A, g5n, g5c, rfl⟩ := kL_s e5 h5
    exact ⟨g0, g1A, g1n, g1c, g2, g3A, g3n, g3c, g4, g5A, g5n, g5c, rfl⟩
  · cases h
noncomputable def kX : DTr → Bool
  | .agg [T0, T1, T2, T3, T4, T5, T6, T7] => (kI T0 && (kL T1 && (kS T2 && (kL T3 && (kI T4 && (kL T5 && (kL T6 && kS T7)))))))
  | _ => false
theorem kX_s {w w' : World} {T : DTr} {v : Value} {S S' : List Nat} (h : kX T = true) (ho : OutV Tryz.prog w w' T v S S') : ∃ (x0 : Int) (x1A : Option Addr) (x1n x1c : Nat) (x2 : ByteArray) (x3A : Option Addr) (x3n x3c : Nat) (x4 : Int) (x5A : Option Addr) (x5n x5c : Nat) (x6A : Option Addr) (x6n x6c : Nat) (x7 : ByteArray), v = .agg #[.int .i64 x0, .slice x1A x1n x1c, .string x2, .slice x3A x3n x3c, .int .i64 x4, .slice x5A x5n x5c, .slice x6A x6n x6c, .string x7] := by
  unfold kX at h
  split at h
  · rename_i T0 T1 T2 T3 T4 T5 T6 T7
    simp only [Bool.and_eq_true] at h
    obtain ⟨e0, e1, e2, e3, e4, e5, e6, e7⟩ := h
    obtain ⟨vs, rfl, _, v0, r0, S0, rfl, h0, v1, r1, S1, rfl, h1, v2, r2, S2, rfl, h2, v3, r3, S3, rfl, h3, v4, r4, S4, rfl, h4, v5, r5, S5, rfl, h5, v6, r6, S6, rfl, h6, v7, r7, S7, rfl, h7, hr⟩ := ho
    have hr : r7 = [] := hr.1
    subst hr
    obtain ⟨x0, rfl⟩ := kI_s e0 h0
    obtain ⟨x1A, x1n, x1c, rfl⟩ := kL_s e1 h1
    obtain ⟨x2, rfl⟩ := kS_s e2 h2
    obtain ⟨x3A, x3n, x3c, rfl⟩ := kL_s e3 h3
    obtain ⟨x4, rfl⟩ := kI_s e4 h4
    obtain ⟨x5A, x5n, x5c, rfl⟩ := kL_s e5 h5
    obtain ⟨x6A, x6n, x6c, rfl⟩ := kL_s e6 h6
    obtain ⟨x7, rfl⟩ := kS_s e7 h7
    exact ⟨x0, x1A, x1n, x1c, x2, x3A, x3n, x3c, x4, x5A, x5n, x5c, x6A, x6n, x6c, x7, rfl⟩
  · cases h
noncomputable def kF2 : DTr → Bool
  | .agg [T0, T1] => (kI T0 && kI T1)
  | _ => false
theorem kF2_s {w w' : World} {T : DTr} {v : Value} {S S' : List Nat} (h : kF2 T = true) (ho : OutV Tryz.prog w w' T v S S') : ∃ (f0 : Int) (f1 : Int), v = .agg #[.int .i64 f0, .int .i64 f1] := by
  unfold kF2 at h
  split at h
  · rename_i T0 T1
    simp only [Bool.and_eq_true] at h
    obtain ⟨e0, e1⟩ := h
    obtain ⟨vs, rfl, _, v0, r0, S0, rfl, h0, v1, r1, S1, rfl, h1, hr⟩ := ho
    have hr : r1 = [] := hr.1
    subst hr
    obtain ⟨f0, rfl⟩ := kI_s e0 h0
    obtain ⟨f1, rfl⟩ := kI_s e1 h1
    exact ⟨f0, f1, rfl⟩
  · cases h
noncomputable def kF11 : DTr → Bool
  | .agg [T0, T1, T2, T3, T4, T5, T6, T7, T8, T9, T10] => (kI T0 && (kI T1 && (kI T2 && (kI T3 && (kI T4 && (kI T5 && (kI T6 && (kI T7 && (kI T8 && (kI T9 && kI T10))))))))))
  | _ => false
theorem kF11_s {w w' : World} {T : DTr} {v : Value} {S S' : List Nat} (h : kF11 T = true) (ho : OutV Tryz.prog w w' T v S S') : ∃ (f0 : Int) (f1 : Int) (f2 : Int) (f3 : Int) (f4 : Int) (f5 : Int) (f6 : Int) (f7 : Int) (f8 : Int) (f9 : Int) (f10 : Int), v = .agg #[.int .i64 f0, .int .i64 f1, .int .i64 f2, .int .i64 f3, .int .i64 f4, .int .i64 f5, .int .i64 f6, .int .i64 f7, .int .i64 f8, .int .i64 f9, .int .i64 f10] := by
  unfold kF11 at h
  split at h
  · rename_i T0 T1 T2 T3 T4 T5 T6 T7 T8 T9 T10
    simp only [Bool.and_eq_true] at h
    obtain ⟨e0, e1, e2, e3, e4, e5, e6, e7, e8, e9, e10⟩ := h
    obtain ⟨vs, rfl, _, v0, r0, S0, rfl, h0, v1, r1, S1, rfl, h1, v2, r2, S2, rfl, h2, v3, r3, S3, rfl, h3, v4, r4, S4, rfl, h4, v5, r5, S5, rfl, h5, v6, r6, S6, rfl, h6, v7, r7, S7, rfl, h7, v8, r8, S8, rfl, h8, v9, r9, S9, rfl, h9, v10, r10, S10, rfl, h10, hr⟩ := ho
    have hr : r10 = [] := hr.1
    subst hr
    obtain ⟨f0, rfl⟩ := kI_s e0 h0
    obtain ⟨f1, rfl⟩ := kI_s e1 h1
    obtain ⟨f2, rfl⟩ := kI_s e2 h2
    obtain ⟨f3, rfl⟩ := kI_s e3 h3
    obtain ⟨f4, rfl⟩ := kI_s e4 h4
    obtain ⟨f5, rfl⟩ := kI_s e5 h5
    obtain ⟨f6, rfl⟩ := kI_s e6 h6
    obtain ⟨f7, rfl⟩ := kI_s e7 h7
    obtain ⟨f8, rfl⟩ := kI_s e8 h8
    obtain ⟨f9, rfl⟩ := kI_s e9 h9
    obtain ⟨f10, rfl⟩ := kI_s e10 h10
    exact ⟨f0, f1, f2, f3, f4, f5, f6, f7, f8, f9, f10, rfl⟩
  · cases h
noncomputable def fstT : DTr → DTr | .tup [a, _] => a | T => T
noncomputable def sndT : DTr → DTr | .tup [_, b] => b | T => T
noncomputable def isTup : DTr → Bool | .tup [_, _] => true | _ => false
theorem tup_s {w w' : World} {T : DTr} {v : Value} {S S' : List Nat} (h : isTup T = true) (ho : OutV Tryz.prog w w' T v S S') : ∃ a b S1, v = .tuple #[a, b] ∧ OutV Tryz.prog w w' (fstT T) a S S1 ∧ OutV Tryz.prog w w' (sndT T) b S1 S' := by
  unfold isTup at h
  split at h
  · obtain ⟨vs, rfl, a, r1, S1, rfl, h1, b, r2, S2, rfl, h2, hr⟩ := ho
    have hr2 : r2 = [] := hr.1
    have hr3 : S' = S2 := hr.2
    subst hr2 hr3
    exact ⟨a, b, S1, rfl, h1, h2⟩
  · cases h
noncomputable def strD (s : ByteArray) : DTr := .v (.str (s.data.toList.map UInt8.toNat))
theorem strD_s (s : ByteArray) (w : World) : DatVs Tryz.prog w [strD s] [.string s] := by
  refine ⟨_, [], rfl, ⟨?_, ?_⟩, rfl⟩
  · simp only [val, bytesOf]
    congr 1
    apply ByteArray.ext
    simp [Function.comp_def]
  · intro b hb
    obtain ⟨x, _, rfl⟩ := List.mem_map.1 hb
    exact x.toNat_lt
noncomputable def pR (s : ByteArray) : Ro := solve Tryz.prog noSums 1000 100 46 [strD s]
noncomputable def srcT (s : ByteArray) : DTr := fstT (resT (pR s))
noncomputable def oR (s : ByteArray) : Ro := solve Tryz.prog noSums 1000 100 48 [srcT s]
noncomputable def gramT (s : ByteArray) : DTr := fstT (resT (oR s))
noncomputable def f0T : DTr := .agg [I 0, I 0, I 0, I 0, I 0, I 0, I 0, I 0, I 0, I 0, I 0]
noncomputable def preOK (s : ByteArray) (X : DTr) : Bool :=
  isOk (pR s) && (isTup (resT (pR s)) && (kSrc (srcT s) && (kF2 (sndT (resT (pR s))) && (isOk (oR s) && (isTup (resT (oR s)) && (kGr (gramT s) && (kI (sndT (resT (oR s))) && (gcall Tryz.prog sR 1000 100 21 [gramT s] (.tup [X, f0T]) && kX X))))))))
theorem ownB (T : DTr) : Owned (OutB Tryz.prog T) where
  later := fun B W W' v hb h => by obtain ⟨w0, S, S', h1, h2⟩ := h; exact ⟨w0, S, S', h1, OutV.step hb T v S S' h2⟩
  far := fun B W p u v hp h => by obtain ⟨w0, S, S', h1, h2⟩ := h; exact ⟨w0, S, S', h1, OutV.far p u (by omega) T v S S' h2⟩
  mono := fun B B' W v hb h => by obtain ⟨w0, S, S', h1, h2⟩ := h; exact ⟨w0, S, S', by omega, h2⟩
theorem outB_dat {T : DTr} {B : Nat} {W : World} {v : Value} (h : OutB Tryz.prog T B W v) : DatV Tryz.prog W T v := by
  obtain ⟨w0, S, S', _, h2⟩ := h
  exact out_dat T v S S' h2
theorem sN_s : ∀ f s, noSums f = some s → SumS Tryz.prog f s := fun f s h => by cases h
theorem compiledK (n : Int) (s : ByteArray) (X : DTr) (hp : preOK s X = true) (w : World)
    (hT : ∀ W, Below w.heap.size w W → Calls Tryz.prog 47 #[.int .i64 n] W fun e w' => e = .returned (.string s) ∧ Below W.heap.size W w') :
    Calls Tryz.prog 6 #[.int .i64 n] w (RetKX w (OutB Tryz.prog X)) := by
  unfold preOK at hp
  simp only [Bool.and_eq_true] at hp
  obtain ⟨p1, p2, p3, p4, p5, p6, p7, p8, p9, p11⟩ := hp
  refine compiled_any n w (OutB Tryz.prog (gramT s)) (OutB Tryz.prog X) (ownB _) (fun W hW => ?_) (fun B W v hv => ?_)
  · refine kgram_any n s W (fun W v => DatV Tryz.prog W (srcT s) v) (OutB Tryz.prog (gramT s)) (fun W W' v hb h => DatV.step hb _ _ h) (ownB _) (fun W' hW' => hT W' (bStep hW hW')) (fun W' hW' => ?_) (fun W' v hv => ?_)
    · refine Calls.mono (solve_res sN_s p1 (strD_s s W')) fun e w' hq => ?_
      obtain ⟨v, S', rfl, h1, h2⟩ := hq
      obtain ⟨a, b, S1, rfl, h3, h4⟩ := tup_s p2 h1
      obtain ⟨b0, b1A, b1n, b1c, b2, b3, b4A, b4n, b4c, rfl⟩ := kSrc_s p3 h3
      obtain ⟨f0, f1, rfl⟩ := kF2_s p4 h4
      exact ⟨b0, b1A, b1n, b1c, b2, b3, b4A, b4n, b4c, f0, f1, rfl, out_dat _ _ _ _ h3, h2⟩
    · refine Calls.mono (solve_res sN_s p5 (vs := [v]) ⟨v, [], rfl, hv, rfl⟩) fun e w' hq => ?_
      obtain ⟨v, S', rfl, h1, h2⟩ := hq
      obtain ⟨a, b, S1, rfl, h3, h4⟩ := tup_s p6 h1
      obtain ⟨g0, g1A, g1n, g1c, g2, g3A, g3n, g3c, g4, g5A, g5n, g5c, rfl⟩ := kGr_s p7 h3
      obtain ⟨t, rfl⟩ := kI_s p8 h4
      exact ⟨g0, g1A, g1n, g1c, g2, g3A, g3n, g3c, g4, g5A, g5n, g5c, t, rfl, ⟨W', [], S1, Nat.le_refl _, h3⟩, h2⟩
  · refine Calls.mono (gcall_at sR_s p9 (vs := [v]) ⟨v, [], rfl, outB_dat hv, rfl⟩) fun e w' hq => ?_
    obtain ⟨v, S', rfl, h1, h2⟩ := hq
    obtain ⟨a, b, S1, rfl, h3, h4⟩ := tup_s (T := .tup [X, f0T]) rfl h1
    obtain ⟨x0, x1A, x1n, x1c, x2, x3A, x3n, x3c, x4, x5A, x5n, x5c, x6A, x6n, x6c, x7, rfl⟩ := kX_s p11 h3
    obtain ⟨f0, f1, f2, f3, f4, f5, f6, f7, f8, f9, f10, rfl⟩ := kF11_s rfl h4
    exact ⟨x0, x1A, x1n, x1c, x2, x3A, x3n, x3c, x4, x5A, x5n, x5c, x6A, x6n, x6c, x7, f0, f1, f2, f3, f4, f5, f6, f7, f8, f9, f10, rfl, ⟨W, [], S1, Nat.le_refl _, h3⟩, h2⟩
end Go.Proofs.YtjnmkdahbcmfaaaGreat

/- BoundNumbers: the ten calls at a text that passes the kernel's check. -/
namespace Go.Proofs.YtjnmkdahbcmfaaaGreat
open Go.ChangeShapes Go.WideShapes Go.ChangeAt Go.RowKit Go.Ev
set_option linter.unusedVariables false
set_option maxRecDepth 100000
noncomputable def kOf : DTr → Int | .agg (.v (.int _ n) :: _) => n | _ => 0
noncomputable def nOf : DTr → Nat | .agg [_, _, _, T, _, _, _, _] => (match lenT T with | some n => n | none => 0) | _ => 0
noncomputable def canT : DTr → List Nat | .agg [_, _, _, _, _, _, _, .v (.str c)] => c | _ => []
def GoodS (S : Sums) : Prop := ∀ f s, S f = some s → SumS Tryz.prog f s
noncomputable def dchk (S : Sums) (x : DTr) (k n ea la z m : Int) (i : Nat) : Bool := match callP S 16 [x, I (i + 1)] with
  | some c => decide (c = (imF k ((i + 1 : Nat) : Int) z m, 0)) && (decide (0 ≤ workF k n ea la ((i + 1 : Nat) : Int)) && decide (workF k n ea la ((i + 1 : Nat) : Int) ≤ 1000000))
  | none => false
noncomputable def okB (S : Sums) (x : DTr) (ea la le : Int) : Bool := match callI noSums 41 [.v (.int .u64 (.ofNat (canT x).length))] with
  | some z => decide (0 ≤ z) && (decide (z ≤ 100) && (decide (0 ≤ kOf x) && (decide (kOf x ≤ 10) && (decide (nOf x ≤ 1000) && (decide (0 ≤ ea) && (decide (ea ≤ 1000) && (decide (0 ≤ la) && (decide (la ≤ 1000) && (decide (le = 0) && (decide ((canT x).length ≤ 100000) && (List.range 64).all (dchk S x (kOf x) (nOf x) ea la z (canT x).length)))))))))))
  | none => false
noncomputable def refB (x : DTr) (ea ee la le : Int) : Bool := decide (callP sRR 9 [x] = some (ea, ee)) && decide (callP sRR 11 [x] = some (la, le))
noncomputable def proS (S : Sums) (x : DTr) (ea ee la le : Int) : Bool := decide (callI S 23 [x] = some ee) && (decide (callP S 8 [x] = some (ea, ee)) && (decide (callP S 10 [x] = some (la, le)) && (if ee = 0 then okB S x ea la le else true)))
noncomputable abbrev proB (x : DTr) (ea ee la le : Int) : Bool := proS sPP x ea ee la le
def Pro (x : DTr) (ea ee la le : Int) : Prop := ∃ S, GoodS S ∧ proS S x ea ee la le = true
theorem Pro.of {x : DTr} {ea ee la le : Int} (h : proB x ea ee la le = true) : Pro x ea ee la le := ⟨sPP, sPP_s, h⟩
structure Ten (DY : World → Value → Prop) (d b ea ee la le wa we fa fe ia ie : Int) : Prop where
  h0 : ∀ W v, DY W v → Calls Tryz.prog 8 #[v] W (Ret2 W ea ee)
  h1 : ∀ W v, DY W v → Calls Tryz.prog 9 #[v] W (Ret2 W ea ee)
  h2 : ∀ W v, DY W v → Calls Tryz.prog 10 #[v] W (Ret2 W la le)
  h3 : ∀ W v, DY W v → Calls Tryz.prog 11 #[v] W (Ret2 W la le)
  h4 : ∀ W v, DY W v → Calls Tryz.prog 12 #[v, .int .i64 d] W (Ret2 W wa we)
  h5 : ∀ W v, DY W v → Calls Tryz.prog 13 #[v, .int .i64 d] W (Ret2 W wa we)
  h6 : ∀ W v, DY W v → Calls Tryz.prog 14 #[v, .int .i64 d, .int .i64 b] W (Ret2 W fa fe)
  h7 : ∀ W v, DY W v → Calls Tryz.prog 15 #[v, .int .i64 d, .int .i64 b] W (Ret2 W fa fe)
  h8 : ∀ W v, DY W v → Calls Tryz.prog 16 #[v, .int .i64 d] W (Ret2 W ia ie)
  h9 : ∀ W v, DY W v → Calls Tryz.prog 17 #[v, .int .i64 d] W (Ret2 W ia ie)
theorem kX_dat {w : World} {T : DTr} {v : Value} (h : kX T = true) (hd : DatV Tryz.prog w T v) : ∃ a1 a2 A c a4 a5 a6, v = xv (kOf T) a1 a2 A (nOf T) c a4 a5 a6 (bytesOf (canT T)) := by
  unfold kX at h
  split at h
  · rename_i T0 T1 T2 T3 T4 T5 T6 T7
    simp only [Bool.and_eq_true] at h
    obtain ⟨e0, e1, e2, e3, e4, e5, e6, e7⟩ := h
    obtain ⟨vs, rfl, ⟨v0, r0, rfl, h0, v1, r1, rfl, h1, v2, r2, rfl, h2, v3, r3, rfl, h3, v4, r4, rfl, h4, v5, r5, rfl, h5, v6, r6, rfl, h6, v7, r7, rfl, h7, hr⟩, _⟩ := hd
    have hr : r7 = [] := hr
    subst hr
    have g0 : v0 = .int .i64 (kOf (.agg [T0, T1, T2, T3, T4, T5, T6, T7])) := by
      unfold kI at e0
      split at e0
      · exact h0.1
      · cases e0
    have g3 : ∃ A c, v3 = .slice A (nOf (.agg [T0, T1, T2, T3, T4, T5, T6, T7])) c := by
      unfold kL at e3
      split at e3
      · obtain ⟨b, base, capv, c, fr, rfl, _⟩ := h3
        exact ⟨_, _, rfl⟩
      · exact ⟨_, _, h3.1⟩
      · cases e3
    have g7 : v7 = .string (bytesOf (canT (.agg [T0, T1, T2, T3, T4, T5, T6, T7]))) := by
      unfold kS at e7
      split at e7
      · exact h7.1
      · cases e7
    obtain ⟨A, c, rfl⟩ := g3
    subst g0 g7
    exact ⟨v1, v2, A, c, v4, v5, v6, rfl⟩
  · cases h
theorem dat1 {w : World} {T : DTr} {v : Value} (h : DatV Tryz.prog w T v) : DatVs Tryz.prog w [T] [v] := ⟨v, [], rfl, h, rfl⟩
theorem dat2 {w : World} {T : DTr} {v : Value} (h : DatV Tryz.prog w T v) (i : Nat) : DatVs Tryz.prog w [T, I i] [v, .int .i64 (i : Int)] := ⟨v, _, rfl, h, _, [], rfl, ⟨rfl, trivial⟩, rfl⟩
theorem bodyB_s {x : DTr} {ea ee la le : Int} (e2 : kX x = true) (hB : refB x ea ee la le = true) (hC : Pro x ea ee la le) (d b : Int) : ∃ ea ee la le wa we fa fe ia ie, Ten (fun W v => DatV Tryz.prog W x v) d b ea ee la le wa we fa fe ia ie := by
  unfold refB at hB
  obtain ⟨S, hS, hC⟩ := hC
  unfold proS at hC
  simp only [Bool.and_eq_true, decide_eq_true_eq] at hB hC
  obtain ⟨h3, h5⟩ := hB
  obtain ⟨h1, h2, h4, e3⟩ := hC
  have c0 : ∀ W v, DatV Tryz.prog W x v → Calls Tryz.prog 8 #[v] W (Ret2 W ea ee) := fun W v hv => callP_s hS h2 (dat1 hv)
  have c1 : ∀ W v, DatV Tryz.prog W x v → Calls Tryz.prog 9 #[v] W (Ret2 W ea ee) := fun W v hv => callP_s sRR_s h3 (dat1 hv)
  have c2 : ∀ W v, DatV Tryz.prog W x v → Calls Tryz.prog 10 #[v] W (Ret2 W la le) := fun W v hv => callP_s hS h4 (dat1 hv)
  have c3 : ∀ W v, DatV Tryz.prog W x v → Calls Tryz.prog 11 #[v] W (Ret2 W la le) := fun W v hv => callP_s sRR_s h5 (dat1 hv)
  have cc : ∀ W v, DatV Tryz.prog W x v → Calls Tryz.prog 23 #[v] W (Ret1 W ee) := fun W v hv => callI_s hS h1 (dat1 hv)
  have hfeed : ∀ (wa we : Int), 0 ≤ wa → wa ≤ 1000000 → (∀ W v, DatV Tryz.prog W x v → Calls Tryz.prog 12 #[v, .int .i64 d] W (Ret2 W wa we)) → ∀ W v, DatV Tryz.prog W x v → Calls Tryz.prog 14 #[v, .int .i64 d, .int .i64 b] W (Ret2 W (feedA wa we b) (feedE we b)) := by
    intro wa we g1 g2 hw W v hv
    obtain ⟨a1, a2, A, c, a4, a5, a6, rfl⟩ := kX_dat e2 hv
    exact feed_any _ a1 a2 A _ c a4 a5 a6 _ wa we d b g1 g2 W (fun W' hW' => hw W' _ (DatV.step hW' _ _ hv))
  have hrfeed : ∀ (wa we : Int), 0 ≤ wa → wa ≤ 1000000 → (∀ W v, DatV Tryz.prog W x v → Calls Tryz.prog 13 #[v, .int .i64 d] W (Ret2 W wa we)) → ∀ W v, DatV Tryz.prog W x v → Calls Tryz.prog 15 #[v, .int .i64 d, .int .i64 b] W (Ret2 W (feedA wa we b) (feedE we b)) := by
    intro wa we g1 g2 hw W v hv
    obtain ⟨a1, a2, A, c, a4, a5, a6, rfl⟩ := kX_dat e2 hv
    exact rfeed_any _ a1 a2 A _ c a4 a5 a6 _ wa we d b g1 g2 W (fun W' hW' => hw W' _ (DatV.step hW' _ _ hv))
  -- the two ways in which Work answers an error
  have herr : ∀ (e0 : Int), e0 ≠ 0 → (∀ W v, DatV Tryz.prog W x v → Calls Tryz.prog 31 #[v, .int .i64 d] W (Ret1 W e0)) → (∀ W v, DatV Tryz.prog W x v → Calls Tryz.prog 13 #[v, .int .i64 d] W (Ret2 W 0 e0)) →
      ∃ ea ee la le wa we fa fe ia ie, Ten (fun W v => DatV Tryz.prog W x v) d b ea ee la le wa we fa fe ia ie := by
    intro e0 he0 hck hrw
    have hw : ∀ W v, DatV Tryz.prog W x v → Calls Tryz.prog 12 #[v, .int .i64 d] W (Ret2 W 0 e0) := by
      intro W v hv
      obtain ⟨a1, a2, A, c, a4, a5, a6, rfl⟩ := kX_dat e2 hv
      exact work_err _ a1 a2 A _ c a4 a5 a6 _ e0 d he0 W (fun W' hW' => hck W' _ (DatV.step hW' _ _ hv))
    have hi : ∀ W v, DatV Tryz.prog W x v → Calls Tryz.prog 16 #[v, .int .i64 d] W (Ret2 W 0 e0) := by
      intro W v hv
      obtain ⟨a1, a2, A, c, a4, a5, a6, rfl⟩ := kX_dat e2 hv
      exact image_err _ a1 a2 A _ c a4 a5 a6 _ e0 d he0 W (fun W' hW' => hck W' _ (DatV.step hW' _ _ hv))
    have hri : ∀ W v, DatV Tryz.prog W x v → Calls Tryz.prog 17 #[v, .int .i64 d] W (Ret2 W 0 e0) := by
      intro W v hv
      obtain ⟨a1, a2, A, c, a4, a5, a6, rfl⟩ := kX_dat e2 hv
      exact rimage_err _ a1 a2 A _ c a4 a5 a6 _ 0 e0 d he0 W (fun W' hW' => hrw W' _ (DatV.step hW' _ _ hv))
    exact ⟨ea, ee, la, le, 0, e0, _, _, 0, e0, ⟨c0, c1, c2, c3, hw, hrw, hfeed 0 e0 (by omega) (by omega) hw, hrfeed 0 e0 (by omega) (by omega) hrw, hi, hri⟩⟩
  have hrwork : ee ≠ 0 ∨ dOK d ≠ 0 → ∀ W v, DatV Tryz.prog W x v → Calls Tryz.prog 13 #[v, .int .i64 d] W (Ret2 W 0 (if ee ≠ 0 then ee else 21)) := by
    intro hh W v hv
    obtain ⟨a1, a2, A, c, a4, a5, a6, rfl⟩ := kX_dat e2 hv
    exact rwork_err _ a1 a2 A _ c a4 a5 a6 _ ea ee d hh W (fun W' hW' => c1 W' _ (DatV.step hW' _ _ hv))
  by_cases hce : ee = 0
  · subst hce
    by_cases hd : d < 1 ∨ 64 < d
    · have hdo : dOK d = 21 := by unfold dOK; rw [if_pos hd]
      refine herr 21 (by omega) (fun W v hv => ?_) (fun W v hv => ?_)
      · obtain ⟨a1, a2, A, c, a4, a5, a6, rfl⟩ := kX_dat e2 hv
        have := checked_ok _ a1 a2 A _ c a4 a5 a6 _ d W (fun W' hW' => cc W' _ (DatV.step hW' _ _ hv))
        rwa [hdo] at this
      · have := hrwork (.inr (by rw [hdo]; omega)) W v hv
        rwa [if_neg (by omega)] at this
    · rw [if_pos rfl] at e3
      obtain ⟨i, hi⟩ : ∃ i : Nat, d = ((i + 1 : Nat) : Int) := ⟨(d - 1).toNat, by omega⟩
      unfold okB at e3
      cases g0 : callI noSums 41 [.v (.int .u64 (.ofNat (canT x).length))] with
      | none => rw [g0] at e3; cases e3
      | some z =>
      rw [g0] at e3
      simp only [Bool.and_eq_true, decide_eq_true_eq, List.all_eq_true] at e3
      obtain ⟨z0, z1, k0, k1, n1, m0, m1, l0, l1, rfl, hs, hall⟩ := e3
      have hk := hall i (List.mem_range.2 (by omega))
      unfold dchk at hk
      cases g3 : callP S 16 [x, I (i + 1)] with
      | none => rw [g3] at hk; cases hk
      | some p3 =>
      rw [g3] at hk
      simp only [Bool.and_eq_true, decide_eq_true_eq] at hk
      obtain ⟨rfl, k4, k5⟩ := hk
      rw [← hi] at k4 k5 g3
      have hWB : WorkB (kOf x) (nOf x) ea la d := ⟨k0, k1, by omega, by omega, m0, m1, l0, l1, by omega, by omega⟩
      have hck : ∀ W v, DatV Tryz.prog W x v → Calls Tryz.prog 31 #[v, .int .i64 d] W (Ret1 W 0) := by
        intro W v hv
        obtain ⟨a1, a2, A, c, a4, a5, a6, rfl⟩ := kX_dat e2 hv
        have := checked_ok _ a1 a2 A _ c a4 a5 a6 _ d W (fun W' hW' => cc W' _ (DatV.step hW' _ _ hv))
        rwa [show dOK d = 0 by unfold dOK; rw [if_neg hd]] at this
      have w1 : ∀ W v, DatV Tryz.prog W x v → Calls Tryz.prog 12 #[v, .int .i64 d] W (Ret2 W (workF (kOf x) (nOf x) ea la d) 0) := by
        intro W v hv
        obtain ⟨a1, a2, A, c, a4, a5, a6, rfl⟩ := kX_dat e2 hv
        exact work_ok _ a1 a2 A _ c a4 a5 a6 _ ea la d hWB W (fun W' hW' => hck W' _ (DatV.step hW' _ _ hv)) (fun W' hW' => c0 W' _ (DatV.step hW' _ _ hv)) (fun W' hW' => c2 W' _ (DatV.step hW' _ _ hv))
      have w2 : ∀ W v, DatV Tryz.prog W x v → Calls Tryz.prog 13 #[v, .int .i64 d] W (Ret2 W (workF (kOf x) (nOf x) ea la d) 0) := by
        intro W v hv
        obtain ⟨a1, a2, A, c, a4, a5, a6, rfl⟩ := kX_dat e2 hv
        exact rwork_ok _ a1 a2 A _ c a4 a5 a6 _ ea la d hWB W (fun W' hW' => c1 W' _ (DatV.step hW' _ _ hv)) (fun W' hW' => c3 W' _ (DatV.step hW' _ _ hv))
      have w3 : ∀ W v, DatV Tryz.prog W x v → Calls Tryz.prog 16 #[v, .int .i64 d] W (Ret2 W (imF (kOf x) d z (canT x).length) 0) := fun W v hv => by
        have := callP_s hS g3 (dat2 hv (i + 1))
        rwa [← hi] at this
      have hsz : (bytesOf (canT x)).size = (canT x).length := bytesOf_size _
      have hZ : ∀ W, Calls Tryz.prog 41 #[.int .u64 ((bytesOf (canT x)).size : Int)] W (Ret1 W z) := fun W => by
        rw [hsz]
        exact callI_s sN_s g0 (vs := [.int .u64 ((canT x).length : Int)]) ⟨_, [], rfl, ⟨rfl, trivial⟩, rfl⟩
      have w4 : ∀ W v, DatV Tryz.prog W x v → Calls Tryz.prog 17 #[v, .int .i64 d] W (Ret2 W (imF (kOf x) d z (canT x).length) 0) := by
        intro W v hv
        obtain ⟨a1, a2, A, c, a4, a5, a6, rfl⟩ := kX_dat e2 hv
        have := rimage_ok _ a1 a2 A _ c a4 a5 a6 _ _ d z W k0 k1 (by omega) (by omega) z0 z1 (by rw [hsz]; exact hs) (fun W' hW' => w2 W' _ (DatV.step hW' _ _ hv)) hZ
        rwa [hsz] at this
      exact ⟨ea, 0, la, 0, _, 0, _, _, _, 0, ⟨c0, c1, c2, c3, w1, w2, hfeed _ 0 k4 k5 w1, hrfeed _ 0 k4 k5 w2, w3, w4⟩⟩
  · refine herr ee hce (fun W v hv => ?_) (fun W v hv => ?_)
    · obtain ⟨a1, a2, A, c, a4, a5, a6, rfl⟩ := kX_dat e2 hv
      exact checked_err _ a1 a2 A _ c a4 a5 a6 _ ee d hce W (fun W' hW' => cc W' _ (DatV.step hW' _ _ hv))
    · have := hrwork (.inl hce) W v hv
      rwa [if_pos hce] at this
theorem awake_run : isT (evF Tryz.prog noSums 1000 100 (.fn 18) [] h0 Ro.ok) = true := by decide +kernel
noncomputable def spoil : DTr → DTr | .agg [a, b, c, d, e, f, g, .v (.str s)] => .agg [a, b, c, d, e, f, g, .v (.str (s ++ [120]))] | T => T
theorem bytesOf_app (a b : List Nat) : bytesOf (a ++ b) = bytesOf a ++ bytesOf b := by
  unfold bytesOf
  apply ByteArray.ext
  simp
theorem arr8 {a0 a1 a2 a3 a4 a5 a6 a7 b0 b1 b2 b3 b4 b5 b6 b7 : Value} (h : (Value.agg #[a0, a1, a2, a3, a4, a5, a6, a7]) = .agg [b0, b1, b2, b3, b4, b5, b6, b7].toArray) : a0 = b0 ∧ a1 = b1 ∧ a2 = b2 ∧ a3 = b3 ∧ a4 = b4 ∧ a5 = b5 ∧ a6 = b6 ∧ a7 = b7 := by
  simpa using h
theorem can_s {W : World} {T : DTr} {a0 a1 a2 a3 a4 a5 a6 : Value} {s : ByteArray} (hk : kX T = true) (h : DatV Tryz.prog W T (.agg #[a0, a1, a2, a3, a4, a5, a6, .string s])) :
    s = bytesOf (canT T) ∧ DatV Tryz.prog W (spoil T) (.agg #[a0, a1, a2, a3, a4, a5, a6, .string (s ++ ⟨#[120]⟩)]) := by
  unfold kX at hk
  split at hk
  · rename_i T0 T1 T2 T3 T4 T5 T6 T7
    simp only [Bool.and_eq_true] at hk
    have e7 := hk.2.2.2.2.2.2.2
    unfold kS at e7
    split at e7
    · rename_i c
      obtain ⟨vs, hv, ⟨v0, r0, rfl, h0, v1, r1, rfl, h1, v2, r2, rfl, h2, v3, r3, rfl, h3, v4, r4, rfl, h4, v5, r5, rfl, h5, v6, r6, rfl, h6, v7, r7, rfl, h7, hr⟩, hf⟩ := h
      have hr : r7 = [] := hr
      subst hr
      obtain ⟨rfl, rfl, rfl, rfl, rfl, rfl, rfl, rfl⟩ := arr8 hv
      have hs : s = bytesOf c := by have := h7.1; simpa [val] using this
      subst hs
      refine ⟨rfl, _, rfl, ⟨_, _, rfl, h0, _, _, rfl, h1, _, _, rfl, h2, _, _, rfl, h3, _, _, rfl, h4, _, _, rfl, h5, _, _, rfl, h6, _, _, rfl, ⟨?_, ?_⟩, rfl⟩, hf⟩
      · simp only [val, bytesOf_app]; rfl
      · intro b hb
        rcases List.mem_append.1 hb with hb | hb
        · exact h7.2 b hb
        · rw [List.mem_singleton.1 hb]; omega
    · cases e7
  · cases hk
theorem kX_spoil {T : DTr} (h : kX T = true) : kX (spoil T) = true := by
  unfold kX at h
  split at h
  · rename_i T0 T1 T2 T3 T4 T5 T6 T7
    simp only [Bool.and_eq_true] at h
    obtain ⟨e0, e1, e2, e3, e4, e5, e6, e7⟩ := h
    unfold kS at e7
    split at e7
    · simp only [spoil, kX, e0, e1, e2, e3, e4, e5, e6, Bool.true_and]
      rfl
    · cases e7
  · cases h
theorem numbers_class (n d b : Int) (s : ByteArray) (X : DTr) (sp : Bool) (hsp : sp = decide (n % 16 = 5)) {ea0 ee0 la0 le0 : Int} (h1 : preOK s X = true) (h2 : (canT X).length ≤ 100000) (hB : refB (bif sp then spoil X else X) ea0 ee0 la0 le0 = true) (hC : Pro (bif sp then spoil X else X) ea0 ee0 la0 le0) (w : World) (wn : (Lit.int .i64 n).wf = true)
    (hT : ∀ W, Calls Tryz.prog 47 #[.int .i64 n] W fun e w' => e = .returned (.string s) ∧ Below W.heap.size W w') :
    Calls Tryz.prog 3 #[.int .i64 n, .int .i64 d, .int .i64 b] w fun e w' => e = .returned (.bool true) ∧ Below w.heap.size w w' := by
  have hkx : kX X = true := by
    unfold preOK at h1
    simp only [Bool.and_eq_true] at h1
    exact h1.2.2.2.2.2.2.2.2.2
  have hkx2 : kX (bif sp then spoil X else X) = true := by
    cases sp
    · exact hkx
    · exact kX_spoil hkx
  obtain ⟨ea, ee, la, le, wa, we, fa, fe, ia, ie, H⟩ := bodyB_s hkx2 hB hC d b
  have hX : ∀ W, Below w.heap.size w W → Calls Tryz.prog 6 #[.int .i64 n] W fun e w' => ∃ (x0 : Int) (x1A : Option Addr) (x1n x1c : Nat) (x2 : ByteArray) (x3A : Option Addr) (x3n x3c : Nat) (x4 : Int) (x5A : Option Addr) (x5n x5c : Nat) (x6A : Option Addr) (x6n x6c : Nat), e = .returned (.agg #[.int .i64 x0, .slice x1A x1n x1c, .string x2, .slice x3A x3n x3c, .int .i64 x4, .slice x5A x5n x5c, .slice x6A x6n x6c, .string (bytesOf (canT X))]) ∧ DatV Tryz.prog w' X (.agg #[.int .i64 x0, .slice x1A x1n x1c, .string x2, .slice x3A x3n x3c, .int .i64 x4, .slice x5A x5n x5c, .slice x6A x6n x6c, .string (bytesOf (canT X))]) ∧ Below W.heap.size W w' := fun W hW =>
    (compiledK n s X h1 W (fun W' _ => hT W')).mono fun e w' hq => by
      obtain ⟨x0, x1A, x1n, x1c, x2, x3A, x3n, x3c, x4, x5A, x5n, x5c, x6A, x6n, x6c, x7, rfl, hD, hb⟩ := hq
      have hd := outB_dat hD
      obtain ⟨e7, _⟩ := can_s hkx hd
      subst e7
      exact ⟨x0, x1A, x1n, x1c, x2, x3A, x3n, x3c, x4, x5A, x5n, x5c, x6A, x6n, x6c, rfl, hd, hb⟩
  have hsz : (bytesOf (canT X)).size ≤ 100000 := by rw [bytesOf_size]; exact h2
  have lat : ∀ T, Later (fun W v => DatV Tryz.prog W T v) := fun T W W' v hb hv => DatV.step hb T v hv
  cases sp with
  | true =>
    have hm : n % 16 = 5 := of_decide_eq_true hsp.symm
    exact numbers_spoilt n d b ea ee la le wa we fa fe ia ie _ w wn hm (fun W v => DatV Tryz.prog W X v) (fun W v => DatV Tryz.prog W (spoil X) v) (lat _) (lat _) hX (fun W _ _ _ _ _ _ _ _ _ _ _ _ _ _ _  hv => (can_s hkx hv).2) H.h0 H.h1 H.h2 H.h3 H.h4 H.h5 H.h6 H.h7 H.h8 H.h9 (fun W => ground sN_s awake_run W) hsz
  | false =>
    have hm : n % 16 ≠ 5 := of_decide_eq_false hsp.symm
    exact numbers_plain n d b ea ee la le wa we fa fe ia ie _ w wn hm (fun W v => DatV Tryz.prog W X v) (fun W v => DatV Tryz.prog W X v) (lat _) (lat _) hX (fun W _ _ _ _ _ _ _ _ _ _ _ _ _ _ _  hv => hv) H.h0 H.h1 H.h2 H.h3 H.h4 H.h5 H.h6 H.h7 H.h8 H.h9 (fun W => ground sN_s awake_run W) hsz
end Go.Proofs.YtjnmkdahbcmfaaaGreat

/- BoundNumbers: the compiled grammars of the kit. -/
namespace Go.Proofs.YtjnmkdahbcmfaaaGreat
open Go.ChangeShapes Go.WideShapes Go.ChangeAt Go.RowKit Go.Ev
set_option linter.unusedVariables false
set_option maxRecDepth 100000
noncomputable def X0ff : DTr := .agg [I 1, Rs 9 1 1 0 1 false 0 [[97]], Sx [122], Rs 9 1 1 0 1 false 0 [[83]], I 16, .sl 61 1 4 0 2 false 0 [I 16, Rw 3 1 2 0 2 false 0 [1,17], I 16, .sl 3 0 0 0 0 true 0 []], .sl 86 1 1 0 1 false 0 [Rw 132 1 30 0 3 false 0 [2,1,1,1,1,1,1,1,3,0,1,1,1,1,1,1,1,1,1,1,1,1,1,1,1,1,1,1,1,2]], Sx [1,1,1,97,1,122,1,1,83,0,2,0,2,0,8,0,0]]
noncomputable def X0ft : DTr := .agg [I 1, Rs 9 1 2 0 2 false 0 [[97],[98]], Sx [122], Rs 9 1 1 0 1 false 0 [[83]], I 16, .sl 61 1 4 0 2 false 0 [I 16, Rw 3 1 2 0 2 false 0 [1,17], I 16, .sl 3 0 0 0 0 true 0 []], .sl 86 1 1 0 1 false 0 [Rw 132 1 30 0 3 false 0 [2,1,1,1,1,1,1,1,3,0,1,1,1,1,1,1,1,1,1,1,1,1,1,1,1,1,1,1,1,2]], Sx [1,2,1,97,1,98,1,122,1,1,83,0,2,0,2,0,8,0,0]]
noncomputable def X0tf : DTr := .agg [I 2, Rs 9 1 1 0 1 false 0 [[97]], Sx [122], Rs 9 1 1 0 1 false 0 [[83]], I 16, .sl 61 1 4 0 2 false 0 [I 16, Rw 3 1 2 0 2 false 0 [1,17], I 16, .sl 3 0 0 0 0 true 0 []], .sl 86 1 1 0 1 false 0 [Rw 132 1 50 0 5 false 0 [2,1,1,1,1,1,1,1,5,0,4,1,1,1,1,1,1,1,3,0,1,1,1,1,1,1,1,1,1,1,1,1,1,1,1,1,1,1,1,1,1,1,1,1,1,1,1,1,1,2]], Sx [2,1,1,97,1,122,1,1,83,0,2,0,2,0,8,0,0]]
noncomputable def X0tt : DTr := .agg [I 2, Rs 9 1 2 0 2 false 0 [[97],[98]], Sx [122], Rs 9 1 1 0 1 false 0 [[83]], I 16, .sl 61 1 4 0 2 false 0 [I 16, Rw 3 1 2 0 2 false 0 [1,17], I 16, .sl 3 0 0 0 0 true 0 []], .sl 86 1 1 0 1 false 0 [Rw 132 1 50 0 5 false 0 [2,1,1,1,1,1,1,1,5,0,4,1,1,1,1,1,1,1,3,0,1,1,1,1,1,1,1,1,1,1,1,1,1,1,1,1,1,1,1,1,1,1,1,1,1,1,1,1,1,2]], Sx [2,2,1,97,1,98,1,122,1,1,83,0,2,0,2,0,8,0,0]]
noncomputable def X1ff : DTr := .agg [I 1, Rs 9 1 2 0 2 false 0 [[97],[98]], Sx [122], Rs 9 1 2 0 2 false 0 [[83],[84]], I 16, .sl 61 1 6 0 3 false 0 [I 16, Rw 3 1 2 0 2 false 0 [1,18], I 16, .sl 3 0 0 0 0 true 0 [], I 17, Rw 3 1 2 0 2 false 0 [2,17]], .sl 86 1 2 0 2 false 0 [Rw 132 1 30 0 3 false 0 [2,1,1,1,1,1,1,1,3,0,1,1,1,1,1,1,1,1,1,1,1,1,1,1,1,1,1,1,1,2], Rw 132 1 20 0 2 false 0 [1,2,1,1,1,1,1,1,1,0,1,1,1,1,1,1,1,1,1,3]], Sx [1,2,1,97,1,98,1,122,2,1,83,1,84,0,3,0,2,0,9,0,0,1,2,1,8]]
noncomputable def X1ft : DTr := .agg [I 1, Rs 9 1 3 0 3 false 0 [[97],[98],[99]], Sx [122], Rs 9 1 2 0 2 false 0 [[83],[84]], I 16, .sl 61 1 6 0 3 false 0 [I 16, Rw 3 1 2 0 2 false 0 [1,18], I 16, .sl 3 0 0 0 0 true 0 [], I 17, Rw 3 1 2 0 2 false 0 [2,17]], .sl 86 1 2 0 2 false 0 [Rw 132 1 30 0 3 false 0 [2,1,1,1,1,1,1,1,3,0,1,1,1,1,1,1,1,1,1,1,1,1,1,1,1,1,1,1,1,2], Rw 132 1 20 0 2 false 0 [1,2,1,1,1,1,1,1,1,0,1,1,1,1,1,1,1,1,1,3]], Sx [1,3,1,97,1,98,1,99,1,122,2,1,83,1,84,0,3,0,2,0,9,0,0,1,2,1,8]]
noncomputable def X1tf : DTr := .agg [I 2, Rs 9 1 2 0 2 false 0 [[97],[98]], Sx [122], Rs 9 1 2 0 2 false 0 [[83],[84]], I 16, .sl 61 1 6 0 3 false 0 [I 16, Rw 3 1 2 0 2 false 0 [1,18], I 16, .sl 3 0 0 0 0 true 0 [], I 17, Rw 3 1 2 0 2 false 0 [2,17]], .sl 86 1 2 0 2 false 0 [Rw 132 1 40 0 4 false 0 [2,1,1,1,1,1,1,1,4,0,1,3,1,1,1,1,1,1,1,0,1,1,1,1,1,1,1,1,1,1,1,1,1,1,1,1,1,1,1,2], Rw 132 1 40 0 4 false 0 [1,2,1,1,1,1,1,1,1,0,4,1,1,1,1,1,1,1,3,0,1,1,1,1,1,1,1,1,1,3,1,1,1,1,1,1,1,1,1,3]], Sx [2,2,1,97,1,98,1,122,2,1,83,1,84,0,3,0,2,0,9,0,0,1,2,1,8]]
noncomputable def X1tt : DTr := .agg [I 2, Rs 9 1 3 0 3 false 0 [[97],[98],[99]], Sx [122], Rs 9 1 2 0 2 false 0 [[83],[84]], I 16, .sl 61 1 6 0 3 false 0 [I 16, Rw 3 1 2 0 2 false 0 [1,18], I 16, .sl 3 0 0 0 0 true 0 [], I 17, Rw 3 1 2 0 2 false 0 [2,17]], .sl 86 1 2 0 2 false 0 [Rw 132 1 40 0 4 false 0 [2,1,1,1,1,1,1,1,4,0,1,3,1,1,1,1,1,1,1,0,1,1,1,1,1,1,1,1,1,1,1,1,1,1,1,1,1,1,1,2], Rw 132 1 40 0 4 false 0 [1,2,1,1,1,1,1,1,1,0,4,1,1,1,1,1,1,1,3,0,1,1,1,1,1,1,1,1,1,3,1,1,1,1,1,1,1,1,1,3]], Sx [2,3,1,97,1,98,1,99,1,122,2,1,83,1,84,0,3,0,2,0,9,0,0,1,2,1,8]]
noncomputable def X2ff : DTr := .agg [I 2, Rs 9 1 2 0 2 false 0 [[97],[98]], Sx [122], Rs 9 1 2 0 2 false 0 [[83],[84]], I 16, .sl 61 1 6 0 3 false 0 [I 16, Rw 3 1 2 0 2 false 0 [1,18], I 16, .sl 3 0 0 0 0 true 0 [], I 17, Rw 3 1 2 0 2 false 0 [2,17]], .sl 86 1 2 0 2 false 0 [Rw 132 1 40 0 4 false 0 [2,1,1,1,1,1,1,1,4,0,1,3,1,1,1,1,1,1,1,0,1,1,1,1,1,1,1,1,1,1,1,1,1,1,1,1,1,1,1,2], Rw 132 1 40 0 4 false 0 [1,2,1,1,1,1,1,1,1,0,4,1,1,1,1,1,1,1,3,0,1,1,1,1,1,1,1,1,1,3,1,1,1,1,1,1,1,1,1,3]], Sx [2,2,1,97,1,98,1,122,2,1,83,1,84,0,3,0,2,0,9,0,0,1,2,1,8]]
noncomputable def X2ft : DTr := .agg [I 2, Rs 9 1 3 0 3 false 0 [[97],[98],[99]], Sx [122], Rs 9 1 2 0 2 false 0 [[83],[84]], I 16, .sl 61 1 6 0 3 false 0 [I 16, Rw 3 1 2 0 2 false 0 [1,18], I 16, .sl 3 0 0 0 0 true 0 [], I 17, Rw 3 1 2 0 2 false 0 [2,17]], .sl 86 1 2 0 2 false 0 [Rw 132 1 40 0 4 false 0 [2,1,1,1,1,1,1,1,4,0,1,3,1,1,1,1,1,1,1,0,1,1,1,1,1,1,1,1,1,1,1,1,1,1,1,1,1,1,1,2], Rw 132 1 40 0 4 false 0 [1,2,1,1,1,1,1,1,1,0,4,1,1,1,1,1,1,1,3,0,1,1,1,1,1,1,1,1,1,3,1,1,1,1,1,1,1,1,1,3]], Sx [2,3,1,97,1,98,1,99,1,122,2,1,83,1,84,0,3,0,2,0,9,0,0,1,2,1,8]]
noncomputable def X3ff : DTr := .agg [I 2, Rs 9 1 2 0 2 false 0 [[97],[98]], Sx [122], Rs 9 1 1 0 1 false 0 [[83]], I 16, .sl 61 1 4 0 2 false 0 [I 16, Rw 3 1 1 0 1 false 0 [1], I 16, Rw 3 1 2 0 2 false 0 [1,2]], .sl 86 1 1 0 1 false 0 [Rw 132 1 40 0 4 false 0 [2,1,1,1,1,1,1,1,1,0,1,4,1,1,1,1,1,1,3,0,1,1,1,1,1,1,1,1,1,1,1,1,1,1,1,1,1,1,1,2]], Sx [2,2,1,97,1,98,1,122,1,1,83,0,2,0,1,0,0,2,0,1]]
noncomputable def X3ft : DTr := .agg [I 2, Rs 9 1 3 0 3 false 0 [[97],[98],[99]], Sx [122], Rs 9 1 1 0 1 false 0 [[83]], I 16, .sl 61 1 4 0 2 false 0 [I 16, Rw 3 1 1 0 1 false 0 [1], I 16, Rw 3 1 2 0 2 false 0 [1,2]], .sl 86 1 1 0 1 false 0 [Rw 132 1 40 0 4 false 0 [2,1,1,1,1,1,1,1,1,0,1,4,1,1,1,1,1,1,3,0,1,1,1,1,1,1,1,1,1,1,1,1,1,1,1,1,1,1,1,2]], Sx [2,3,1,97,1,98,1,99,1,122,1,1,83,0,2,0,1,0,0,2,0,1]]
noncomputable def X4ff : DTr := .agg [I 1, Rs 9 1 3 0 3 false 0 [[97],[98],[99]], Sx [122], Rs 9 1 1 0 1 false 0 [[83]], I 16, .sl 61 1 4 0 2 false 0 [I 16, Rw 3 1 3 0 3 false 0 [1,17,2], I 16, Rw 3 1 1 0 1 false 0 [3]], .sl 86 1 1 0 1 false 0 [Rw 132 1 30 0 3 false 0 [2,1,3,1,1,1,1,1,1,0,1,1,1,1,1,1,1,1,1,1,1,1,1,1,1,1,1,1,1,2]], Sx [1,3,1,97,1,98,1,99,1,122,1,1,83,0,2,0,3,0,8,1,0,1,2]]
noncomputable def X4ft : DTr := .agg [I 1, Rs 9 1 4 0 4 false 0 [[97],[98],[99],[100]], Sx [122], Rs 9 1 1 0 1 false 0 [[83]], I 16, .sl 61 1 4 0 2 false 0 [I 16, Rw 3 1 3 0 3 false 0 [1,17,2], I 16, Rw 3 1 1 0 1 false 0 [3]], .sl 86 1 1 0 1 false 0 [Rw 132 1 30 0 3 false 0 [2,1,3,1,1,1,1,1,1,0,1,1,1,1,1,1,1,1,1,1,1,1,1,1,1,1,1,1,1,2]], Sx [1,4,1,97,1,98,1,99,1,100,1,122,1,1,83,0,2,0,3,0,8,1,0,1,2]]
noncomputable def X4tf : DTr := .agg [I 2, Rs 9 1 3 0 3 false 0 [[97],[98],[99]], Sx [122], Rs 9 1 1 0 1 false 0 [[83]], I 16, .sl 61 1 4 0 2 false 0 [I 16, Rw 3 1 3 0 3 false 0 [1,17,2], I 16, Rw 3 1 1 0 1 false 0 [3]], .sl 86 1 1 0 1 false 0 [Rw 132 1 70 0 7 false 0 [2,1,5,1,1,1,1,1,1,0,3,1,4,1,1,1,1,1,1,0,1,1,1,1,1,1,1,1,1,1,1,1,1,1,1,1,1,1,1,1,1,7,1,1,1,1,1,1,6,0,1,1,1,1,1,1,1,1,1,2,1,1,1,1,1,1,1,1,1,2]], Sx [2,3,1,97,1,98,1,99,1,122,1,1,83,0,2,0,3,0,8,1,0,1,2]]
noncomputable def X4tt : DTr := .agg [I 2, Rs 9 1 4 0 4 false 0 [[97],[98],[99],[100]], Sx [122], Rs 9 1 1 0 1 false 0 [[83]], I 16, .sl 61 1 4 0 2 false 0 [I 16, Rw 3 1 3 0 3 false 0 [1,17,2], I 16, Rw 3 1 1 0 1 false 0 [3]], .sl 86 1 1 0 1 false 0 [Rw 132 1 70 0 7 false 0 [2,1,5,1,1,1,1,1,1,0,3,1,4,1,1,1,1,1,1,0,1,1,1,1,1,1,1,1,1,1,1,1,1,1,1,1,1,1,1,1,1,7,1,1,1,1,1,1,6,0,1,1,1,1,1,1,1,1,1,2,1,1,1,1,1,1,1,1,1,2]], Sx [2,4,1,97,1,98,1,99,1,100,1,122,1,1,83,0,2,0,3,0,8,1,0,1,2]]
noncomputable def X5ff : DTr := .agg [I 1, Rs 9 1 3 0 3 false 0 [[97],[98],[99]], Sx [122], Rs 9 1 3 0 3 false 0 [[83],[84],[85]], I 16, .sl 61 1 10 0 5 false 0 [I 16, Rw 3 1 2 0 2 false 0 [18,19], I 17, Rw 3 1 2 0 2 false 0 [1,18], I 17, .sl 3 0 0 0 0 true 0 [], I 18, Rw 3 1 2 0 2 false 0 [2,19], I 18, Rw 3 1 1 0 1 false 0 [3]], .sl 86 1 3 0 3 false 0 [Rw 132 1 40 0 4 false 0 [2,3,4,1,1,1,1,1,1,0,1,1,1,1,1,1,1,1,1,1,1,1,1,1,1,1,1,1,1,1,1,1,1,1,1,1,1,1,1,1], Rw 132 1 40 0 4 false 0 [2,3,4,1,1,1,1,1,1,0,1,1,1,1,1,1,1,1,1,2,1,1,1,1,1,1,1,1,1,3,1,1,1,1,1,1,1,1,1,3], Rw 132 1 30 0 3 false 0 [1,2,3,1,1,1,1,1,1,0,1,1,1,1,1,1,1,1,1,4,1,1,1,1,1,1,1,1,1,5]], Sx [1,3,1,97,1,98,1,99,1,122,3,1,83,1,84,1,85,0,5,0,2,9,10,1,2,0,9,1,0,2,2,1,10,2,1,2]]
noncomputable def X5ft : DTr := .agg [I 1, Rs 9 1 4 0 4 false 0 [[97],[98],[99],[100]], Sx [122], Rs 9 1 3 0 3 false 0 [[83],[84],[85]], I 16, .sl 61 1 10 0 5 false 0 [I 16, Rw 3 1 2 0 2 false 0 [18,19], I 17, Rw 3 1 2 0 2 false 0 [1,18], I 17, .sl 3 0 0 0 0 true 0 [], I 18, Rw 3 1 2 0 2 false 0 [2,19], I 18, Rw 3 1 1 0 1 false 0 [3]], .sl 86 1 3 0 3 false 0 [Rw 132 1 40 0 4 false 0 [2,3,4,1,1,1,1,1,1,0,1,1,1,1,1,1,1,1,1,1,1,1,1,1,1,1,1,1,1,1,1,1,1,1,1,1,1,1,1,1], Rw 132 1 40 0 4 false 0 [2,3,4,1,1,1,1,1,1,0,1,1,1,1,1,1,1,1,1,2,1,1,1,1,1,1,1,1,1,3,1,1,1,1,1,1,1,1,1,3], Rw 132 1 30 0 3 false 0 [1,2,3,1,1,1,1,1,1,0,1,1,1,1,1,1,1,1,1,4,1,1,1,1,1,1,1,1,1,5]], Sx [1,4,1,97,1,98,1,99,1,100,1,122,3,1,83,1,84,1,85,0,5,0,2,9,10,1,2,0,9,1,0,2,2,1,10,2,1,2]]
noncomputable def X5tf : DTr := .agg [I 2, Rs 9 1 3 0 3 false 0 [[97],[98],[99]], Sx [122], Rs 9 1 3 0 3 false 0 [[83],[84],[85]], I 16, .sl 61 1 10 0 5 false 0 [I 16, Rw 3 1 2 0 2 false 0 [18,19], I 17, Rw 3 1 2 0 2 false 0 [1,18], I 17, .sl 3 0 0 0 0 true 0 [], I 18, Rw 3 1 2 0 2 false 0 [2,19], I 18, Rw 3 1 1 0 1 false 0 [3]], .sl 86 1 3 0 3 false 0 [Rw 132 1 100 0 10 false 0 [2,6,9,1,1,1,1,1,1,0,3,4,5,1,1,1,1,1,1,0,1,1,1,1,1,1,1,1,1,1,1,1,1,1,1,1,1,1,1,1,1,1,1,1,1,1,1,1,1,1,1,7,8,1,1,1,1,1,1,0,1,1,1,1,1,1,1,1,1,1,1,1,1,1,1,1,1,1,1,1,1,1,1,1,1,1,1,1,10,0,1,1,1,1,1,1,1,1,1,1], Rw 132 1 100 0 10 false 0 [2,6,9,1,1,1,1,1,1,0,3,4,5,1,1,1,1,1,1,0,1,1,1,1,1,1,1,1,1,2,1,1,1,1,1,1,1,1,1,2,1,1,1,1,1,1,1,1,1,2,1,7,8,1,1,1,1,1,1,0,1,1,1,1,1,1,1,1,1,3,1,1,1,1,1,1,1,1,1,3,1,1,1,1,1,1,1,1,10,0,1,1,1,1,1,1,1,1,1,3], Rw 132 1 60 0 6 false 0 [1,2,5,1,1,1,1,1,1,0,1,3,4,1,1,1,1,1,1,0,1,1,1,1,1,1,1,1,1,4,1,1,1,1,1,1,1,1,1,4,1,1,1,1,1,1,1,1,6,0,1,1,1,1,1,1,1,1,1,5]], Sx [2,3,1,97,1,98,1,99,1,122,3,1,83,1,84,1,85,0,5,0,2,9,10,1,2,0,9,1,0,2,2,1,10,2,1,2]]
noncomputable def X5tt : DTr := .agg [I 2, Rs 9 1 4 0 4 false 0 [[97],[98],[99],[100]], Sx [122], Rs 9 1 3 0 3 false 0 [[83],[84],[85]], I 16, .sl 61 1 10 0 5 false 0 [I 16, Rw 3 1 2 0 2 false 0 [18,19], I 17, Rw 3 1 2 0 2 false 0 [1,18], I 17, .sl 3 0 0 0 0 true 0 [], I 18, Rw 3 1 2 0 2 false 0 [2,19], I 18, Rw 3 1 1 0 1 false 0 [3]], .sl 86 1 3 0 3 false 0 [Rw 132 1 100 0 10 false 0 [2,6,9,1,1,1,1,1,1,0,3,4,5,1,1,1,1,1,1,0,1,1,1,1,1,1,1,1,1,1,1,1,1,1,1,1,1,1,1,1,1,1,1,1,1,1,1,1,1,1,1,7,8,1,1,1,1,1,1,0,1,1,1,1,1,1,1,1,1,1,1,1,1,1,1,1,1,1,1,1,1,1,1,1,1,1,1,1,10,0,1,1,1,1,1,1,1,1,1,1], Rw 132 1 100 0 10 false 0 [2,6,9,1,1,1,1,1,1,0,3,4,5,1,1,1,1,1,1,0,1,1,1,1,1,1,1,1,1,2,1,1,1,1,1,1,1,1,1,2,1,1,1,1,1,1,1,1,1,2,1,7,8,1,1,1,1,1,1,0,1,1,1,1,1,1,1,1,1,3,1,1,1,1,1,1,1,1,1,3,1,1,1,1,1,1,1,1,10,0,1,1,1,1,1,1,1,1,1,3], Rw 132 1 60 0 6 false 0 [1,2,5,1,1,1,1,1,1,0,1,3,4,1,1,1,1,1,1,0,1,1,1,1,1,1,1,1,1,4,1,1,1,1,1,1,1,1,1,4,1,1,1,1,1,1,1,1,6,0,1,1,1,1,1,1,1,1,1,5]], Sx [2,4,1,97,1,98,1,99,1,100,1,122,3,1,83,1,84,1,85,0,5,0,2,9,10,1,2,0,9,1,0,2,2,1,10,2,1,2]]
noncomputable def X6ff : DTr := .agg [I 2, Rs 9 1 3 0 3 false 0 [[97],[98],[99]], Sx [122], Rs 9 1 1 0 1 false 0 [[83]], I 16, .sl 61 1 6 0 3 false 0 [I 16, Rw 3 1 3 0 3 false 0 [1,1,17], I 16, Rw 3 1 2 0 2 false 0 [1,2], I 16, Rw 3 1 1 0 1 false 0 [3]], .sl 86 1 1 0 1 false 0 [Rw 132 1 60 0 6 false 0 [2,1,5,1,1,1,1,1,1,0,3,4,1,1,1,1,1,1,1,0,1,1,1,1,1,1,1,1,1,1,1,1,1,1,1,1,1,1,1,2,1,1,1,1,1,1,1,1,6,0,1,1,1,1,1,1,1,1,1,3]], Sx [2,3,1,97,1,98,1,99,1,122,1,1,83,0,3,0,3,0,0,8,0,2,0,1,0,1,2]]
noncomputable def X6ft : DTr := .agg [I 2, Rs 9 1 4 0 4 false 0 [[97],[98],[99],[100]], Sx [122], Rs 9 1 1 0 1 false 0 [[83]], I 16, .sl 61 1 6 0 3 false 0 [I 16, Rw 3 1 3 0 3 false 0 [1,1,17], I 16, Rw 3 1 2 0 2 false 0 [1,2], I 16, Rw 3 1 1 0 1 false 0 [3]], .sl 86 1 1 0 1 false 0 [Rw 132 1 60 0 6 false 0 [2,1,5,1,1,1,1,1,1,0,3,4,1,1,1,1,1,1,1,0,1,1,1,1,1,1,1,1,1,1,1,1,1,1,1,1,1,1,1,2,1,1,1,1,1,1,1,1,6,0,1,1,1,1,1,1,1,1,1,3]], Sx [2,4,1,97,1,98,1,99,1,100,1,122,1,1,83,0,3,0,3,0,0,8,0,2,0,1,0,1,2]]
noncomputable def X7ff : DTr := .agg [I 1, Rs 9 1 3 0 3 false 0 [[97],[98],[99]], Sx [122], Rs 9 1 3 0 3 false 0 [[83],[84],[85]], I 16, .sl 61 1 8 0 4 false 0 [I 16, Rw 3 1 3 0 3 false 0 [1,18,3], I 17, Rw 3 1 2 0 2 false 0 [2,18], I 17, Rw 3 1 1 0 1 false 0 [19], I 18, .sl 3 0 0 0 0 true 0 []], .sl 86 1 3 0 3 false 0 [Rw 132 1 20 0 2 false 0 [2,1,1,1,1,1,1,1,1,0,1,1,1,1,1,1,1,1,1,1], Rw 132 1 30 0 3 false 0 [1,2,3,1,1,1,1,1,1,0,1,1,1,1,1,1,1,1,1,2,1,1,1,1,1,1,1,1,1,3], Rw 132 1 20 0 2 false 0 [1,1,2,1,1,1,1,1,1,0,1,1,1,1,1,1,1,1,1,4]], Sx [1,3,1,97,1,98,1,99,1,122,3,1,83,1,84,1,85,0,4,0,3,0,9,2,1,2,1,9,1,1,10,2,0]]
noncomputable def X7ft : DTr := .agg [I 1, Rs 9 1 4 0 4 false 0 [[97],[98],[99],[100]], Sx [122], Rs 9 1 3 0 3 false 0 [[83],[84],[85]], I 16, .sl 61 1 8 0 4 false 0 [I 16, Rw 3 1 3 0 3 false 0 [1,18,3], I 17, Rw 3 1 2 0 2 false 0 [2,18], I 17, Rw 3 1 1 0 1 false 0 [19], I 18, .sl 3 0 0 0 0 true 0 []], .sl 86 1 3 0 3 false 0 [Rw 132 1 20 0 2 false 0 [2,1,1,1,1,1,1,1,1,0,1,1,1,1,1,1,1,1,1,1], Rw 132 1 30 0 3 false 0 [1,2,3,1,1,1,1,1,1,0,1,1,1,1,1,1,1,1,1,2,1,1,1,1,1,1,1,1,1,3], Rw 132 1 20 0 2 false 0 [1,1,2,1,1,1,1,1,1,0,1,1,1,1,1,1,1,1,1,4]], Sx [1,4,1,97,1,98,1,99,1,100,1,122,3,1,83,1,84,1,85,0,4,0,3,0,9,2,1,2,1,9,1,1,10,2,0]]
noncomputable def X7tf : DTr := .agg [I 2, Rs 9 1 3 0 3 false 0 [[97],[98],[99]], Sx [122], Rs 9 1 3 0 3 false 0 [[83],[84],[85]], I 16, .sl 61 1 8 0 4 false 0 [I 16, Rw 3 1 3 0 3 false 0 [1,18,3], I 17, Rw 3 1 2 0 2 false 0 [2,18], I 17, Rw 3 1 1 0 1 false 0 [19], I 18, .sl 3 0 0 0 0 true 0 []], .sl 86 1 3 0 3 false 0 [Rw 132 1 40 0 4 false 0 [2,1,1,1,1,1,1,1,1,0,1,3,4,1,1,1,1,1,1,0,1,1,1,1,1,1,1,1,1,1,1,1,1,1,1,1,1,1,1,1], Rw 132 1 60 0 6 false 0 [1,2,5,1,1,1,1,1,1,0,1,3,4,1,1,1,1,1,1,0,1,1,1,1,1,1,1,1,1,2,1,1,1,1,1,1,1,1,1,2,1,1,1,1,1,1,1,1,6,0,1,1,1,1,1,1,1,1,1,3], Rw 132 1 30 0 3 false 0 [1,1,2,1,1,1,1,1,1,0,1,1,1,1,1,1,1,1,3,0,1,1,1,1,1,1,1,1,1,4]], Sx [2,3,1,97,1,98,1,99,1,122,3,1,83,1,84,1,85,0,4,0,3,0,9,2,1,2,1,9,1,1,10,2,0]]
noncomputable def X7tt : DTr := .agg [I 2, Rs 9 1 4 0 4 false 0 [[97],[98],[99],[100]], Sx [122], Rs 9 1 3 0 3 false 0 [[83],[84],[85]], I 16, .sl 61 1 8 0 4 false 0 [I 16, Rw 3 1 3 0 3 false 0 [1,18,3], I 17, Rw 3 1 2 0 2 false 0 [2,18], I 17, Rw 3 1 1 0 1 false 0 [19], I 18, .sl 3 0 0 0 0 true 0 []], .sl 86 1 3 0 3 false 0 [Rw 132 1 40 0 4 false 0 [2,1,1,1,1,1,1,1,1,0,1,3,4,1,1,1,1,1,1,0,1,1,1,1,1,1,1,1,1,1,1,1,1,1,1,1,1,1,1,1], Rw 132 1 60 0 6 false 0 [1,2,5,1,1,1,1,1,1,0,1,3,4,1,1,1,1,1,1,0,1,1,1,1,1,1,1,1,1,2,1,1,1,1,1,1,1,1,1,2,1,1,1,1,1,1,1,1,6,0,1,1,1,1,1,1,1,1,1,3], Rw 132 1 30 0 3 false 0 [1,1,2,1,1,1,1,1,1,0,1,1,1,1,1,1,1,1,3,0,1,1,1,1,1,1,1,1,1,4]], Sx [2,4,1,97,1,98,1,99,1,100,1,122,3,1,83,1,84,1,85,0,4,0,3,0,9,2,1,2,1,9,1,1,10,2,0]]
noncomputable def X8ff : DTr := .agg [I 2, Rs 9 1 3 0 3 false 0 [[97],[98],[99]], Sx [122], Rs 9 1 2 0 2 false 0 [[83],[84]], I 16, .sl 61 1 8 0 4 false 0 [I 16, Rw 3 1 2 0 2 false 0 [18,3], I 16, Rw 3 1 2 0 2 false 0 [2,17], I 17, Rw 3 1 2 0 2 false 0 [2,1], I 17, .sl 3 0 0 0 0 true 0 []], .sl 86 1 2 0 2 false 0 [Rw 132 1 70 0 7 false 0 [1,2,4,1,1,1,1,1,1,0,3,6,7,1,1,1,1,1,1,0,1,1,1,1,1,1,1,1,1,1,1,1,1,1,1,1,1,1,5,0,1,1,1,1,1,1,1,1,1,1,1,1,1,1,1,1,1,1,1,2,1,1,1,1,1,1,1,1,1,2], Rw 132 1 50 0 5 false 0 [1,2,4,1,1,1,1,1,1,0,3,1,1,1,1,1,1,1,1,0,1,1,1,1,1,1,1,1,1,3,1,1,1,1,1,1,1,1,5,0,1,1,1,1,1,1,1,1,1,4]], Sx [2,3,1,97,1,98,1,99,1,122,2,1,83,1,84,0,4,0,2,9,2,0,2,1,8,1,2,1,0,1,0]]
noncomputable def X8ft : DTr := .agg [I 2, Rs 9 1 4 0 4 false 0 [[97],[98],[99],[100]], Sx [122], Rs 9 1 2 0 2 false 0 [[83],[84]], I 16, .sl 61 1 8 0 4 false 0 [I 16, Rw 3 1 2 0 2 false 0 [18,3], I 16, Rw 3 1 2 0 2 false 0 [2,17], I 17, Rw 3 1 2 0 2 false 0 [2,1], I 17, .sl 3 0 0 0 0 true 0 []], .sl 86 1 2 0 2 false 0 [Rw 132 1 70 0 7 false 0 [1,2,4,1,1,1,1,1,1,0,3,6,7,1,1,1,1,1,1,0,1,1,1,1,1,1,1,1,1,1,1,1,1,1,1,1,1,1,5,0,1,1,1,1,1,1,1,1,1,1,1,1,1,1,1,1,1,1,1,2,1,1,1,1,1,1,1,1,1,2], Rw 132 1 50 0 5 false 0 [1,2,4,1,1,1,1,1,1,0,3,1,1,1,1,1,1,1,1,0,1,1,1,1,1,1,1,1,1,3,1,1,1,1,1,1,1,1,5,0,1,1,1,1,1,1,1,1,1,4]], Sx [2,4,1,97,1,98,1,99,1,100,1,122,2,1,83,1,84,0,4,0,2,9,2,0,2,1,8,1,2,1,0,1,0]]
noncomputable def X9ff : DTr := .agg [I 1, Rs 9 1 2 0 2 false 0 [[97],[98]], Sx [122], Rs 9 1 1 0 1 false 0 [[83]], I 16, .sl 61 1 4 0 2 false 0 [I 16, Rw 3 1 3 0 3 false 0 [1,17,17], I 16, Rw 3 1 1 0 1 false 0 [2]], .sl 86 1 1 0 1 false 0 [Rw 132 1 30 0 3 false 0 [2,3,1,1,1,1,1,1,1,0,1,1,1,1,1,1,1,1,1,1,1,1,1,1,1,1,1,1,1,2]], Sx [1,2,1,97,1,98,1,122,1,1,83,0,2,0,3,0,8,8,0,1,1]]
noncomputable def X9ft : DTr := .agg [I 1, Rs 9 1 3 0 3 false 0 [[97],[98],[99]], Sx [122], Rs 9 1 1 0 1 false 0 [[83]], I 16, .sl 61 1 4 0 2 false 0 [I 16, Rw 3 1 3 0 3 false 0 [1,17,17], I 16, Rw 3 1 1 0 1 false 0 [2]], .sl 86 1 1 0 1 false 0 [Rw 132 1 30 0 3 false 0 [2,3,1,1,1,1,1,1,1,0,1,1,1,1,1,1,1,1,1,1,1,1,1,1,1,1,1,1,1,2]], Sx [1,3,1,97,1,98,1,99,1,122,1,1,83,0,2,0,3,0,8,8,0,1,1]]
noncomputable def X9tf : DTr := .agg [I 2, Rs 9 1 2 0 2 false 0 [[97],[98]], Sx [122], Rs 9 1 1 0 1 false 0 [[83]], I 16, .sl 61 1 4 0 2 false 0 [I 16, Rw 3 1 3 0 3 false 0 [1,17,17], I 16, Rw 3 1 1 0 1 false 0 [2]], .sl 86 1 1 0 1 false 0 [Rw 132 1 80 0 8 false 0 [2,5,1,1,1,1,1,1,1,0,3,4,1,1,1,1,1,1,1,0,1,1,1,1,1,1,1,1,1,1,1,1,1,1,1,1,1,1,1,1,7,8,1,1,1,1,1,1,6,0,1,1,1,1,1,1,1,1,1,2,1,1,1,1,1,1,1,1,1,2,1,1,1,1,1,1,1,1,1,2]], Sx [2,2,1,97,1,98,1,122,1,1,83,0,2,0,3,0,8,8,0,1,1]]
noncomputable def X9tt : DTr := .agg [I 2, Rs 9 1 3 0 3 false 0 [[97],[98],[99]], Sx [122], Rs 9 1 1 0 1 false 0 [[83]], I 16, .sl 61 1 4 0 2 false 0 [I 16, Rw 3 1 3 0 3 false 0 [1,17,17], I 16, Rw 3 1 1 0 1 false 0 [2]], .sl 86 1 1 0 1 false 0 [Rw 132 1 80 0 8 false 0 [2,5,1,1,1,1,1,1,1,0,3,4,1,1,1,1,1,1,1,0,1,1,1,1,1,1,1,1,1,1,1,1,1,1,1,1,1,1,1,1,7,8,1,1,1,1,1,1,6,0,1,1,1,1,1,1,1,1,1,2,1,1,1,1,1,1,1,1,1,2,1,1,1,1,1,1,1,1,1,2]], Sx [2,3,1,97,1,98,1,99,1,122,1,1,83,0,2,0,3,0,8,8,0,1,1]]
noncomputable def X10ff : DTr := .agg [I 3, Rs 9 1 2 0 2 false 0 [[97],[98]], Sx [122], Rs 9 1 1 0 1 false 0 [[83]], I 16, .sl 61 1 6 0 3 false 0 [I 16, Rw 3 1 3 0 3 false 0 [1,1,1], I 16, Rw 3 1 4 0 4 false 0 [1,1,2,17], I 16, Rw 3 1 1 0 1 false 0 [2]], .sl 86 1 1 0 1 false 0 [Rw 132 1 70 0 7 false 0 [2,6,1,1,1,1,1,1,1,0,3,1,1,1,1,1,1,1,1,0,4,5,1,1,1,1,1,1,1,0,1,1,1,1,1,1,1,1,1,1,1,1,1,1,1,1,1,1,1,2,1,1,1,1,1,1,1,1,7,0,1,1,1,1,1,1,1,1,1,3]], Sx [3,2,1,97,1,98,1,122,1,1,83,0,3,0,3,0,0,0,0,4,0,0,1,8,0,1,1]]
noncomputable def X10ft : DTr := .agg [I 3, Rs 9 1 3 0 3 false 0 [[97],[98],[99]], Sx [122], Rs 9 1 1 0 1 false 0 [[83]], I 16, .sl 61 1 6 0 3 false 0 [I 16, Rw 3 1 3 0 3 false 0 [1,1,1], I 16, Rw 3 1 4 0 4 false 0 [1,1,2,17], I 16, Rw 3 1 1 0 1 false 0 [2]], .sl 86 1 1 0 1 false 0 [Rw 132 1 70 0 7 false 0 [2,6,1,1,1,1,1,1,1,0,3,1,1,1,1,1,1,1,1,0,4,5,1,1,1,1,1,1,1,0,1,1,1,1,1,1,1,1,1,1,1,1,1,1,1,1,1,1,1,2,1,1,1,1,1,1,1,1,7,0,1,1,1,1,1,1,1,1,1,3]], Sx [3,3,1,97,1,98,1,99,1,122,1,1,83,0,3,0,3,0,0,0,0,4,0,0,1,8,0,1,1]]
noncomputable def X11ff : DTr := .agg [I 1, Rs 9 1 4 0 4 false 0 [[97],[98],[99],[100]], Sx [122], Rs 9 1 4 0 4 false 0 [[83],[76],[77],[69]], I 16, .sl 61 1 12 0 6 false 0 [I 16, Rw 3 1 3 0 3 false 0 [1,18,2], I 17, Rw 3 1 2 0 2 false 0 [20,19], I 18, Rw 3 1 3 0 3 false 0 [3,20,19], I 18, .sl 3 0 0 0 0 true 0 [], I 19, Rw 3 1 1 0 1 false 0 [4], I 19, Rw 3 1 1 0 1 false 0 [17]], .sl 86 1 4 0 4 false 0 [Rw 132 1 20 0 2 false 0 [2,1,1,1,1,1,1,1,1,0,1,1,1,1,1,1,1,1,1,1], Rw 132 1 30 0 3 false 0 [2,1,1,3,1,1,1,1,1,0,1,1,1,1,1,1,1,1,1,2,1,1,1,1,1,1,1,1,1,2], Rw 132 1 30 0 3 false 0 [1,3,2,1,1,1,1,1,1,0,1,1,1,1,1,1,1,1,1,3,1,1,1,1,1,1,1,1,1,4], Rw 132 1 30 0 3 false 0 [3,1,1,2,1,1,1,1,1,0,1,1,1,1,1,1,1,1,1,5,1,1,1,1,1,1,1,1,1,6]], Sx [1,4,1,97,1,98,1,99,1,100,1,122,4,1,83,1,76,1,77,1,69,0,6,0,3,0,9,1,1,2,11,10,2,3,2,11,10,2,0,3,1,3,3,1,8]]
noncomputable def X11tf : DTr := .agg [I 2, Rs 9 1 4 0 4 false 0 [[97],[98],[99],[100]], Sx [122], Rs 9 1 4 0 4 false 0 [[83],[76],[77],[69]], I 16, .sl 61 1 12 0 6 false 0 [I 16, Rw 3 1 3 0 3 false 0 [1,18,2], I 17, Rw 3 1 2 0 2 false 0 [20,19], I 18, Rw 3 1 3 0 3 false 0 [3,20,19], I 18, .sl 3 0 0 0 0 true 0 [], I 19, Rw 3 1 1 0 1 false 0 [4], I 19, Rw 3 1 1 0 1 false 0 [17]], .sl 86 1 4 0 4 false 0 [Rw 132 1 40 0 4 false 0 [2,1,1,1,1,1,1,1,1,0,3,1,1,4,1,1,1,1,1,0,1,1,1,1,1,1,1,1,1,1,1,1,1,1,1,1,1,1,1,1], Rw 132 1 70 0 7 false 0 [2,1,1,5,1,1,1,1,1,0,3,1,1,4,1,1,1,1,1,0,1,1,1,1,1,1,1,1,1,2,1,1,1,1,1,1,1,1,1,2,1,6,7,1,1,1,1,1,1,0,1,1,1,1,1,1,1,1,1,2,1,1,1,1,1,1,1,1,1,2], Rw 132 1 80 0 8 false 0 [1,5,2,1,1,1,1,1,1,0,3,1,1,4,1,1,1,1,1,0,1,1,1,1,1,1,1,1,1,3,1,1,1,1,1,1,1,1,1,3,1,7,8,1,1,1,1,1,6,0,1,1,1,1,1,1,1,1,1,4,1,1,1,1,1,1,1,1,1,4,1,1,1,1,1,1,1,1,1,4], Rw 132 1 70 0 7 false 0 [5,1,1,2,1,1,1,1,1,0,1,3,4,1,1,1,1,1,1,0,1,1,1,1,1,1,1,1,1,5,1,1,1,1,1,1,1,1,1,5,6,1,1,7,1,1,1,1,1,0,1,1,1,1,1,1,1,1,1,6,1,1,1,1,1,1,1,1,1,6]], Sx [2,4,1,97,1,98,1,99,1,100,1,122,4,1,83,1,76,1,77,1,69,0,6,0,3,0,9,1,1,2,11,10,2,3,2,11,10,2,0,3,1,3,3,1,8]]
noncomputable def X12ff : DTr := .agg [I 2, Rs 9 1 2 0 2 false 0 [[97],[98]], Sx [122], Rs 9 1 2 0 2 false 0 [[83],[84]], I 16, .sl 61 1 6 0 3 false 0 [I 16, Rw 3 1 2 0 2 false 0 [18,18], I 17, Rw 3 1 2 0 2 false 0 [1,2], I 17, Rw 3 1 2 0 2 false 0 [2,1]], .sl 86 1 2 0 2 false 0 [Rw 132 1 50 0 5 false 0 [2,4,1,1,1,1,1,1,1,0,1,3,1,1,1,1,1,1,1,0,1,1,1,1,1,1,1,1,1,1,5,1,1,1,1,1,1,1,1,0,1,1,1,1,1,1,1,1,1,1], Rw 132 1 50 0 5 false 0 [2,4,1,1,1,1,1,1,1,0,1,3,1,1,1,1,1,1,1,0,1,1,1,1,1,1,1,1,1,2,5,1,1,1,1,1,1,1,1,0,1,1,1,1,1,1,1,1,1,3]], Sx [2,2,1,97,1,98,1,122,2,1,83,1,84,0,3,0,2,9,9,1,2,0,1,1,2,1,0]]
noncomputable def X12ft : DTr := .agg [I 2, Rs 9 1 3 0 3 false 0 [[97],[98],[99]], Sx [122], Rs 9 1 2 0 2 false 0 [[83],[84]], I 16, .sl 61 1 6 0 3 false 0 [I 16, Rw 3 1 2 0 2 false 0 [18,18], I 17, Rw 3 1 2 0 2 false 0 [1,2], I 17, Rw 3 1 2 0 2 false 0 [2,1]], .sl 86 1 2 0 2 false 0 [Rw 132 1 50 0 5 false 0 [2,4,1,1,1,1,1,1,1,0,1,3,1,1,1,1,1,1,1,0,1,1,1,1,1,1,1,1,1,1,5,1,1,1,1,1,1,1,1,0,1,1,1,1,1,1,1,1,1,1], Rw 132 1 50 0 5 false 0 [2,4,1,1,1,1,1,1,1,0,1,3,1,1,1,1,1,1,1,0,1,1,1,1,1,1,1,1,1,2,5,1,1,1,1,1,1,1,1,0,1,1,1,1,1,1,1,1,1,3]], Sx [2,3,1,97,1,98,1,99,1,122,2,1,83,1,84,0,3,0,2,9,9,1,2,0,1,1,2,1,0]]
noncomputable def X13ff : DTr := .agg [I 1, Rs 9 1 1 0 1 false 0 [[97]], Sx [122], Rs 9 1 1 0 1 false 0 [[83]], I 16, .sl 61 1 2 0 1 false 0 [I 16, Rw 3 1 1 0 1 false 0 [1]], .sl 86 1 1 0 1 false 0 [Rw 132 1 20 0 2 false 0 [2,1,1,1,1,1,1,1,1,0,1,1,1,1,1,1,1,1,1,1]], Sx [1,1,1,97,1,122,1,1,83,0,1,0,1,0]]
noncomputable def X13ft : DTr := .agg [I 1, Rs 9 1 2 0 2 false 0 [[97],[98]], Sx [122], Rs 9 1 1 0 1 false 0 [[83]], I 16, .sl 61 1 2 0 1 false 0 [I 16, Rw 3 1 1 0 1 false 0 [1]], .sl 86 1 1 0 1 false 0 [Rw 132 1 20 0 2 false 0 [2,1,1,1,1,1,1,1,1,0,1,1,1,1,1,1,1,1,1,1]], Sx [1,2,1,97,1,98,1,122,1,1,83,0,1,0,1,0]]
noncomputable def X13tf : DTr := .agg [I 2, Rs 9 1 1 0 1 false 0 [[97]], Sx [122], Rs 9 1 1 0 1 false 0 [[83]], I 16, .sl 61 1 2 0 1 false 0 [I 16, Rw 3 1 1 0 1 false 0 [1]], .sl 86 1 1 0 1 false 0 [Rw 132 1 30 0 3 false 0 [2,1,1,1,1,1,1,1,1,0,1,1,1,1,1,1,1,1,3,0,1,1,1,1,1,1,1,1,1,1]], Sx [2,1,1,97,1,122,1,1,83,0,1,0,1,0]]
noncomputable def X13tt : DTr := .agg [I 2, Rs 9 1 2 0 2 false 0 [[97],[98]], Sx [122], Rs 9 1 1 0 1 false 0 [[83]], I 16, .sl 61 1 2 0 1 false 0 [I 16, Rw 3 1 1 0 1 false 0 [1]], .sl 86 1 1 0 1 false 0 [Rw 132 1 30 0 3 false 0 [2,1,1,1,1,1,1,1,1,0,1,1,1,1,1,1,1,1,3,0,1,1,1,1,1,1,1,1,1,1]], Sx [2,2,1,97,1,98,1,122,1,1,83,0,1,0,1,0]]
noncomputable def X14ff : DTr := .agg [I 2, Rs 9 1 3 0 3 false 0 [[97],[98],[99]], Sx [122], Rs 9 1 2 0 2 false 0 [[83],[84]], I 16, .sl 61 1 8 0 4 false 0 [I 16, Rw 3 1 2 0 2 false 0 [1,18], I 16, Rw 3 1 3 0 3 false 0 [1,2,3], I 17, Rw 3 1 1 0 1 false 0 [1], I 17, Rw 3 1 2 0 2 false 0 [3,17]], .sl 86 1 2 0 2 false 0 [Rw 132 1 50 0 5 false 0 [2,1,1,1,1,1,1,1,1,0,3,5,4,1,1,1,1,1,1,0,1,1,1,1,1,1,1,1,1,1,1,1,1,1,1,1,1,1,1,1,1,1,1,1,1,1,1,1,1,2], Rw 132 1 50 0 5 false 0 [2,1,4,1,1,1,1,1,1,0,1,1,1,1,1,1,1,1,3,0,1,1,1,1,1,1,1,1,1,3,5,1,1,1,1,1,1,1,1,0,1,1,1,1,1,1,1,1,1,4]], Sx [2,3,1,97,1,98,1,99,1,122,2,1,83,1,84,0,4,0,2,0,9,0,3,0,1,2,1,1,0,1,2,2,8]]
noncomputable def X14ft : DTr := .agg [I 2, Rs 9 1 4 0 4 false 0 [[97],[98],[99],[100]], Sx [122], Rs 9 1 2 0 2 false 0 [[83],[84]], I 16, .sl 61 1 8 0 4 false 0 [I 16, Rw 3 1 2 0 2 false 0 [1,18], I 16, Rw 3 1 3 0 3 false 0 [1,2,3], I 17, Rw 3 1 1 0 1 false 0 [1], I 17, Rw 3 1 2 0 2 false 0 [3,17]], .sl 86 1 2 0 2 false 0 [Rw 132 1 50 0 5 false 0 [2,1,1,1,1,1,1,1,1,0,3,5,4,1,1,1,1,1,1,0,1,1,1,1,1,1,1,1,1,1,1,1,1,1,1,1,1,1,1,1,1,1,1,1,1,1,1,1,1,2], Rw 132 1 50 0 5 false 0 [2,1,4,1,1,1,1,1,1,0,1,1,1,1,1,1,1,1,3,0,1,1,1,1,1,1,1,1,1,3,5,1,1,1,1,1,1,1,1,0,1,1,1,1,1,1,1,1,1,4]], Sx [2,4,1,97,1,98,1,99,1,100,1,122,2,1,83,1,84,0,4,0,2,0,9,0,3,0,1,2,1,1,0,1,2,2,8]]
noncomputable def X15ff : DTr := .agg [I 1, Rs 9 1 2 0 2 false 0 [[97],[98]], Sx [122], Rs 9 1 3 0 3 false 0 [[83],[84],[85]], I 16, .sl 61 1 8 0 4 false 0 [I 16, Rw 3 1 3 0 3 false 0 [18,19,18], I 17, .sl 3 0 0 0 0 true 0 [], I 18, Rw 3 1 3 0 3 false 0 [1,19,2], I 18, .sl 3 0 0 0 0 true 0 []], .sl 86 1 3 0 3 false 0 [Rw 132 1 30 0 3 false 0 [3,1,1,1,1,1,1,1,2,0,1,1,1,1,1,1,1,1,1,1,1,1,1,1,1,1,1,1,1,1], Rw 132 1 30 0 3 false 0 [3,1,1,1,1,1,1,1,2,0,1,1,1,1,1,1,1,1,1,2,1,1,1,1,1,1,1,1,1,2], Rw 132 1 40 0 4 false 0 [2,4,1,1,1,1,1,1,3,0,1,1,1,1,1,1,1,1,1,3,1,1,1,1,1,1,1,1,1,4,1,1,1,1,1,1,1,1,1,4]], Sx [1,2,1,97,1,98,1,122,3,1,83,1,84,1,85,0,4,0,3,9,10,9,1,0,2,3,0,10,1,2,0]]
noncomputable def X15ft : DTr := .agg [I 1, Rs 9 1 3 0 3 false 0 [[97],[98],[99]], Sx [122], Rs 9 1 3 0 3 false 0 [[83],[84],[85]], I 16, .sl 61 1 8 0 4 false 0 [I 16, Rw 3 1 3 0 3 false 0 [18,19,18], I 17, .sl 3 0 0 0 0 true 0 [], I 18, Rw 3 1 3 0 3 false 0 [1,19,2], I 18, .sl 3 0 0 0 0 true 0 []], .sl 86 1 3 0 3 false 0 [Rw 132 1 30 0 3 false 0 [3,1,1,1,1,1,1,1,2,0,1,1,1,1,1,1,1,1,1,1,1,1,1,1,1,1,1,1,1,1], Rw 132 1 30 0 3 false 0 [3,1,1,1,1,1,1,1,2,0,1,1,1,1,1,1,1,1,1,2,1,1,1,1,1,1,1,1,1,2], Rw 132 1 40 0 4 false 0 [2,4,1,1,1,1,1,1,3,0,1,1,1,1,1,1,1,1,1,3,1,1,1,1,1,1,1,1,1,4,1,1,1,1,1,1,1,1,1,4]], Sx [1,3,1,97,1,98,1,99,1,122,3,1,83,1,84,1,85,0,4,0,3,9,10,9,1,0,2,3,0,10,1,2,0]]
noncomputable def X15tf : DTr := .agg [I 2, Rs 9 1 2 0 2 false 0 [[97],[98]], Sx [122], Rs 9 1 3 0 3 false 0 [[83],[84],[85]], I 16, .sl 61 1 8 0 4 false 0 [I 16, Rw 3 1 3 0 3 false 0 [18,19,18], I 17, .sl 3 0 0 0 0 true 0 [], I 18, Rw 3 1 3 0 3 false 0 [1,19,2], I 18, .sl 3 0 0 0 0 true 0 []], .sl 86 1 3 0 3 false 0 [Rw 132 1 50 0 5 false 0 [3,1,1,1,1,1,1,1,2,0,1,1,1,1,1,1,1,1,1,1,4,5,1,1,1,1,1,1,1,0,1,1,1,1,1,1,1,1,1,1,1,1,1,1,1,1,1,1,1,1], Rw 132 1 50 0 5 false 0 [3,1,1,1,1,1,1,1,2,0,1,1,1,1,1,1,1,1,1,2,4,5,1,1,1,1,1,1,1,0,1,1,1,1,1,1,1,1,1,2,1,1,1,1,1,1,1,1,1,2], Rw 132 1 80 0 8 false 0 [2,6,1,1,1,1,1,1,5,0,3,4,1,1,1,1,1,1,1,0,1,1,1,1,1,1,1,1,1,3,1,1,1,1,1,1,1,1,1,3,1,1,1,1,1,1,1,1,1,4,1,8,1,1,1,1,1,1,7,0,1,1,1,1,1,1,1,1,1,4,1,1,1,1,1,1,1,1,1,4]], Sx [2,2,1,97,1,98,1,122,3,1,83,1,84,1,85,0,4,0,3,9,10,9,1,0,2,3,0,10,1,2,0]]
noncomputable def X15tt : DTr := .agg [I 2, Rs 9 1 3 0 3 false 0 [[97],[98],[99]], Sx [122], Rs 9 1 3 0 3 false 0 [[83],[84],[85]], I 16, .sl 61 1 8 0 4 false 0 [I 16, Rw 3 1 3 0 3 false 0 [18,19,18], I 17, .sl 3 0 0 0 0 true 0 [], I 18, Rw 3 1 3 0 3 false 0 [1,19,2], I 18, .sl 3 0 0 0 0 true 0 []], .sl 86 1 3 0 3 false 0 [Rw 132 1 50 0 5 false 0 [3,1,1,1,1,1,1,1,2,0,1,1,1,1,1,1,1,1,1,1,4,5,1,1,1,1,1,1,1,0,1,1,1,1,1,1,1,1,1,1,1,1,1,1,1,1,1,1,1,1], Rw 132 1 50 0 5 false 0 [3,1,1,1,1,1,1,1,2,0,1,1,1,1,1,1,1,1,1,2,4,5,1,1,1,1,1,1,1,0,1,1,1,1,1,1,1,1,1,2,1,1,1,1,1,1,1,1,1,2], Rw 132 1 80 0 8 false 0 [2,6,1,1,1,1,1,1,5,0,3,4,1,1,1,1,1,1,1,0,1,1,1,1,1,1,1,1,1,3,1,1,1,1,1,1,1,1,1,3,1,1,1,1,1,1,1,1,1,4,1,8,1,1,1,1,1,1,7,0,1,1,1,1,1,1,1,1,1,4,1,1,1,1,1,1,1,1,1,4]], Sx [2,3,1,97,1,98,1,99,1,122,3,1,83,1,84,1,85,0,4,0,3,9,10,9,1,0,2,3,0,10,1,2,0]]
end Go.Proofs.YtjnmkdahbcmfaaaGreat
