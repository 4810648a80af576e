/- Walks and plain laws, part 8 of 10: The reader of the reference (layer 8): rule, walked; The reader of the reference (layer 8): known; The lexer of the reference (layer 4): Check and Number, of one digit; The reader of the reference (layer 8): head; The reader of the reference (layer 8): Parse; Check of a source (layer 8's reference), where the source is right; Check of a source (layer 8's reference): twice; Check, where the source is right; Check of a source (layer 8's reference), where the source is right; Productions of the call's own. Conditions: none beyond those that each theorem states. -/
import Derived.Test.YtnnkfgekiaaehaaGreatC7
import Derived.Deep.RegionHeld3
import Derived.Deep.DeepCutAuto
/- The reader of the reference (layer 8): rule, walked. -/
namespace Go.Proofs.YtnnkfgekiaaehaaGreat
open Go.ChangeShapes Go.WideShapes Go.ChangeAt Go.RowKit
set_option linter.unusedVariables false
section
variable {rb : Nat} {r : RS} {l : List Lx} {W : World} {ts : List ByteArray} {rs : List Rule}
set_option maxRecDepth 100000 in
set_option maxHeartbeats 4000000 in
theorem rule_any {x : Rule} {m : List Lx} (h : SB rb r l ts rs W) (hr : ruleF rs (l.drop r.at') = some (x, m)) (ha : r.alts = nAlts rs) (h24 : nAlts rs ≤ 24) (h80 : rs.length ≤ 8) (htx : ∀ x ∈ l, x.text.size ≤ maxLen) :
    Calls Tryz.prog 89 #[.pointer (some ⟨rb, 0, none⟩)] W (RetRule W rb r l ts rs x m) := by
  have hR := Lib.hid (fun (R : Value) (i : Nat) (w' : World) (h1 : l.drop i = m) (h2 : SB rb { r with at' := i, alts := nAlts (rs ++ [x]), R := R } l ts (rs ++ [x]) w') (h3 : Below rb W w') (h4 : ∀ k, k < W.heap.size → k ≠ rb → r.R.ownBlock ≠ some k → w'.heap[k]? = W.heap[k]?) (h5 : ∀ k, R.ownBlock = some k → r.R.ownBlock = some k ∨ W.heap.size ≤ k) => (show RetRule W rb r l ts rs x m (.returned (.tuple #[])) w' from ⟨rfl, R, i, h1, h2, h3, h4, h5⟩))
  generalize RetRule W rb r l ts rs x m = RR at *
  obtain ⟨y, _, l1, l2, l3, e1, hy1, hy2, hxn, hnh, hn8, hq1, hq2, hq3, _⟩ := rule_inv hr
  obtain ⟨hx0, hd1⟩ := drop_head e1
  have hyt := htx y (List.mem_of_getElem? hx0)
  obtain ⟨u, e2, hu1, hu2⟩ := must_inv hq1
  obtain ⟨hx1, hd2⟩ := drop_head (hd1.trans e2)
  obtain ⟨h1, h2, h3⟩ := h
  have hrl := h1.lt
  obtain ⟨TA, tc, hT, htc1, htc2⟩ := h2.strs
  obtain ⟨RA, rc, hRv, hrc1, hrc2⟩ := (h3.reads).len
  have hP0 := Lib.hid (peek_any h1 hx0)
  have hN0 := Lib.hid (fun (W1 : World) (h : RBox rb r l W1) => name_any h hx0 true hy1 hy2 hyt)
  have hf2 := field_lx2 y.kind y.text y.at'
  rw [← hxn] at hN0
  replace hxn := Lib.hid hxn
  replace hx0 := Lib.hid hx0
  replace hx1 := Lib.hid hx1
  replace hn8 := Lib.hid hn8
  replace hnh := Lib.hid hnh
  replace hT := Lib.hid hT
  replace hRv := Lib.hid hRv
  replace h2 := Lib.hid h2
  replace h3 := Lib.hid h3
  replace hd2 := Lib.hid hd2
  clear hr e1 hy1 hy2 hq1 e2 hd1
  go_enter Tryz.func89, Tryz.ntmps89
  go_upto_region 2 with (first
    | (go_at_call 126; refine hP0.out.mono ?_; clear hP0; rintro e w1 ⟨rfl, hb1⟩; obtain ⟨hb2, hk2⟩ := h1.keep hb1; have hN1 := Lib.hid (hN0.out w1 hb2); clear hN0)
    | (go_at_call 127; refine hN1.out.mono ?_; clear hN1; rintro e w2 ⟨rfl, hb3, hk3⟩))
  have hk4 := hk2.trans hk3
  clear hk2 hk3 hb1 hb2 hf2
  have hRd := Keep.owv hk4 h3.out (fun b hb => by have : rb < b := hb; omega) (Nat.lt_succ_self rb)
  have hRu := hRd.reads
  rw [hRv.out] at hRu
  have hRu2 := Lib.hid (rules_any (T := .slice TA ts.length tc) (k := r.k) (sep := r.sep) (st := r.start) hRu (by omega))
  have c6 := hb3.1.cell 6
  have c7 := hb3.1.cell 7
  have c8 := hb3.1.cell 8
  have c9 := hb3.1.cell 9
  have c10 := hb3.1.cell 10
  simp only [List.getElem?_toArray, List.getElem?_cons_zero, List.getElem?_cons_succ] at c6 c7 c8 c9 c10
  rw [hT.out] at c7
  rw [hRv.out] at c10
  have hO := Lib.hid (ok_any hb3)
  have hnl : (rs.map (·.1)).length ≤ 1000000 := by simp; omega
  have hn8b : ((rs.length : Int) == 8) = false := by have := hn8.out; simp; omega
  clear hRd hRu
  go_upto_region 4 with (first
    | (go_at_call 88; refine hO.out.mono ?_; clear hO; rintro e w3 ⟨rfl, rfl⟩)
    | (go_at_call 129; refine hRu2.out.mono ?_; clear hRu2; rintro e w3 ⟨vN, rfl, hoN, hb5⟩; obtain ⟨NA, nc, eN⟩ := own_sl hoN; rw [List.length_map] at eN; subst eN; have hH := hasv_any hoN.rdv x.1 hnl; rw [hnh.out] at hH; replace hH := Lib.hid hH)
    | (go_at_call 128; refine hH.out.mono ?_; clear hH; rintro e w4 ⟨rfl, rfl⟩))
  obtain ⟨hb6, hk6⟩ := hb3.keep hb5
  have hk7 := hk4.trans hk6
  clear hk4 hk6 hb3 hoN hb5 c6 c7 c8 c9 c10
  have c10 := hb6.1.cell 10
  simp only [List.getElem?_toArray, List.getElem?_cons_zero, List.getElem?_cons_succ] at c10
  rw [hRv.out] at c10
  go_upto_region 7 with (fail)
  have q : Blk (w3.alloc (.cells #[.string x.1, .slice none 0 0] 133)) w3.heap.size 133 #[.string x.1, .slice none 0 0] := Blk.new _ _ _
  have hgx : W.heap.size ≤ w3.heap.size := hk7.1.size
  obtain ⟨hb8, hk8⟩ := hb6.keep (W' := w3.alloc (.cells #[.string x.1, .slice none 0 0] 133)) (bAlc (Below.refl _ _) _)
  have hk9 := hk7.trans hk8
  clear hk7 hk8 hb6 c10
  generalize w3.alloc (.cells #[.string x.1, .slice none 0 0] 133) = W2 at *
  generalize w3.heap.size = gx at *
  have hM := Lib.hid (must_any hb8 hx1.out 3 sgEq hu1 hu2)
  clear hb8
  go_upto_region 8 with (go_at_call 121; refine hM.out.mono ?_; clear hM; rintro e w4 ⟨rfl, hb9, hk10⟩)
  have q1 := hk10.blk q (by omega)
  have hk11 := hk9.trans hk10
  have hO := Lib.hid (ok_any hb9)
  clear q hk9 hk10
  go_upto_region 9 with (go_at_call 88; refine hO.out.mono ?_; clear hO; rintro e w5 ⟨rfl, rfl⟩)
  have hmain : Hid (l.drop (r.at' + 1 + 1) = l2 ∧ True) := Lib.hid ⟨hd2.out, trivial⟩
  replace hq2 := Lib.hid hq2
  go_loopg [5] 26 (fun gk s5 wr => ∃ (d : List (List ByteArray)) (i : Nat) (b : Bool) (va : Value), s5 = .bool b ∧ Hid ((b = true ∧ ∃ f, f < gk ∧ altsF f (nAlts rs + d.length) d (l.drop i) = some (x.2, l3)) ∨ (b = false ∧ x.2 = d ∧ l.drop i = l3)) ∧
    RBox rb { r with at' := i, alts := (nAlts rs + d.length : Nat) } l wr ∧ Blk wr gx 133 #[.string x.1, va] ∧ OwV wr (gx + 1) (fun b => gx < b) 22 1 va (d.map altV) ∧ Keep rb W wr ∧ nAlts rs + d.length ≤ 24)
  case atStart => exact ⟨[], _, true, _, rfl, Lib.hid (.inl ⟨rfl, 25, by omega, by rw [hd2.out]; exact hq2.out⟩), by rw [ha] at hb9; exact hb9, q1, OwV.nil _ _ _ _ _, hk11, by simp; omega⟩
  case round =>
    clear hb9 q1 hk11
    obtain ⟨d, i, b, va, rfl, hcase, hb, q, hva, hk, hd24⟩ := hrel
    cases b with
    | false =>
      obtain ⟨hxd, hil⟩ : x.2 = d ∧ l.drop i = l3 := by
        rcases hcase.out with ⟨h0, _⟩ | ⟨_, h⟩
        · cases h0
        · exact h
      obtain ⟨u2, e4, hu3, hu4⟩ := must_inv hq3
      obtain ⟨hx3, hd3⟩ := drop_head (hil.trans e4)
      have hM := Lib.hid (must_any hb hx3 3 sgSemi hu3 hu4)
      replace hxd := Lib.hid hxd
      replace hd3 := Lib.hid hd3
      clear hq3 e4 hil hx3 hcase hu1 hu2 hu3 hu4
      obtain ⟨VA, vc, eva, hv1, hv2⟩ := hva.reads.len
      subst eva
      have hgw := q.lt
      go_upto_region 13 with (go_at_call 121; refine hM.out.mono ?_; clear hM; rintro e w7 ⟨rfl, hb7, hk7⟩)
      have q7 := hk7.blk q (by omega)
      have hva7 := hk7.owv hva (fun b hb e => by omega) (by omega)
      have hk8 := hk.trans hk7
      have hRo := hk8.owv h3.out (fun b hb => by have : rb < b := hb; omega) (Nat.lt_succ_self rb)
      have hT7 := hk8.rdv h2.out (fun b h => by have : rb < b := h.2.1; omega)
      have hRl := h3.out.lt
      rw [hRv.out] at hRo hT7 hRl
      clear hk hk7 hb q hva
      have hrl7 := hb7.lt
      have hgw7 := q7.lt
      have hDD : Hid (∀ Y, Below w7.heap.size w7 Y → ∀ (j : Nat) (u : Value) (z : Dat), #[Value.string x.1, .slice VA d.length vc][j]? = some u → (ruleV x)[j]? = some z → RdX Y (fun b => b < Y.heap.size ∧ rb < b ∧ (Value.slice RA rs.length rc).ownBlock ≠ some b) u z) := Lib.hid fun Y hY j u z hu hz => by
        match j, hu, hz with
        | 0, hu, hz => simp [ruleV] at hu hz; subst hu hz; exact .one _
        | 1, hu, hz =>
          simp [ruleV] at hu hz
          subst hu hz
          rw [hxd.out]
          refine ((hva7.reads' (S' := fun b => b < w7.heap.size ∧ gx < b) (fun b h1 h2 => ⟨h1, h2⟩) (fun b h1 h2 => ⟨h2, h1⟩)).step hY).mono (fun b hb => ⟨Nat.lt_of_lt_of_le hb.1 hY.size, by omega, fun e => ?_⟩)
          have := (hRl b e).2
          omega
        | j + 2, hu, hz => simp at hu
      have hc10 : Hid (∀ X r' l, RBox rb r' l X → r'.R = .slice RA rs.length rc → X.cell? ⟨rb, 10, none⟩ = some (.slice RA rs.length rc)) := Lib.hid fun X r' l h e => by
        have := h.1.cell 10
        simp only [List.getElem?_toArray, List.getElem?_cons_zero, List.getElem?_cons_succ] at this
        rw [this, e]
      have a1 := hc10.out _ _ _ hb7 hRv.out
      have a2 := hc10.out _ _ _ (hb7.step (bAlc (Below.refl _ _) (.cells #[.string x.1, .slice VA d.length vc] 133))) hRv.out
      have g0 := q7.cell 0
      have g1 := q7.cell 1
      simp only [List.getElem?_toArray, List.getElem?_cons_zero, List.getElem?_cons_succ] at g0 g1
      have hdl : (rs.map ruleV).length < 1000000 := by simp; omega
      have hF : Hid (∀ X w' RA2 rc2, Below w7.heap.size w7 X → X.grownBy w' (Value.slice RA rs.length rc).ownBlock → RBox rb { r with at' := i + 1, alts := (nAlts rs + d.length : Nat) } l w' → OwV w' (rb + 1) (fun b => rb < b) 133 2 (.slice RA2 (rs.length + 1) rc2) ((rs ++ [x]).map ruleV) →
          ((Value.slice RA2 (rs.length + 1) rc2).ownBlock = (Value.slice RA rs.length rc).ownBlock ∨ (Value.slice RA2 (rs.length + 1) rc2).ownBlock = some X.heap.size) → (∀ W0, Below (rb + 1) W0 X → Below (rb + 1) W0 w') → RR (.returned (.tuple #[])) (w'.setCell ⟨rb, 10, none⟩ (.slice RA2 (rs.length + 1) rc2))) := Lib.hid fun X w' RA2 rc2 hX h1 h2 h3 h4 h5 => by
        have hbx : Below rb w7 w' := (h5 w7 (hX.mono (by omega))).mono (by omega)
        have hse : ((nAlts rs + d.length : Nat) : Int) = (nAlts (rs ++ [x]) : Nat) := by rw [nAlts_snoc, hxd.out]
        rw [hse] at h2
        have hTX := hT7.step hX
        refine hR.out _ (i + 1) _ hd3.out ⟨h2.put10 _, ?_, h3.set (fun h => by have : rb < rb := h; omega) (fun e => ?_)⟩ ?_ (fun k hk1 hk2 hk3 => ?_) (fun k hk => ?_)
        · refine ((hTX.grown h1 fun b hb => fun e => hb.2.2 e).set (p := ⟨rb, 10, none⟩) (fun h => by have : rb < rb := h.2.1; omega)).mono fun b hb => ⟨?_, hb.2.1, ?_⟩
          · have := hk8.1.size; have := hbx.size; simp; omega
          · rcases h4 with h4 | h4
            · rw [h4]; exact hb.2.2
            · rw [h4]; intro e; injection e with e; have := hk8.1.size; have := hX.size; omega
        · have := (h3.lt rb e).1; omega
        · exact (hk8.1.trans hbx).trans (Below.setCell (p := ⟨rb, 10, none⟩) (Below.refl rb w') (Nat.le_refl rb) _)
        · rw [hRv.out] at hk3
          have hkx : k < w7.heap.size := Nat.lt_of_lt_of_le hk1 hk8.1.size
          exact (Below.heap_setCell _ _ _ _ (by show k ≠ rb; exact hk2)).trans ((h1.block k (Nat.lt_of_lt_of_le hkx hX.size) (fun e => hk3 e.symm)).trans ((hX.block k hkx).trans (hk8.2 k hk1 hk2)))
        · rw [hRv.out]
          rcases h4 with h4 | h4
          · rw [h4] at hk; exact .inl hk
          · rw [h4] at hk; injection hk with hk; have := hk8.1.size; have := hX.size; exact .inr (by omega)
      replace hF := Lib.hid hF.out
      go_region_law ((refine step_of_wp _ (by rfl) ?_; refine wp_pushV _ _ _ _ (by rfl) (rb + 1) (fun b => rb < b) 133 _ 2 40 under78 info133 rfl (by omega) _ (rs.map ruleV) (by rfl) (hRo.step (by repeat (first | assumption | exact Below.refl _ _ | (with_reducible refine bAlc ?_ _) | (with_reducible refine bDrw ?_)))) _ #[.string x.1, .slice VA d.length vc] (by rfl) (Blk.new _ _ _) rfl (ruleV x) rfl (hDD.out _ (by repeat (first | assumption | exact Below.refl _ _ | (with_reducible refine bAlc ?_ _) | (with_reducible refine bDrw ?_)))) (by simp [Value.oneCell']) hdl (by omega) (by simp; omega) ?_; intro v' w' hown' hg' hat' hb'; rw [show rs.map ruleV ++ [ruleV x] = (rs ++ [x]).map ruleV by simp] at hown'; obtain ⟨RA2, rc2, ev, _, _⟩ := hown'.reads.len; rw [List.length_append, List.length_singleton] at ev; subst ev; have hb9 := (hb7.step (bAlc (Below.refl _ _) (.cells #[.string x.1, .slice VA d.length vc] 133))).low (hb' (w7.alloc (.cells #[.string x.1, .slice VA d.length vc] 133)) (by first | exact Below.refl _ _ | exact (Below.refl _ _).drew)) (Nat.lt_succ_self rb); have f1 := hc10.out _ _ _ hb9 hRv.out; have hz' := hb9.1.frozen 10))
      all_goals
        go_wp2_with fail
        go_end0
        refine hF.out _ w' RA2 rc2 ?_ hg' hb9 hown' hat' hb'
        first | exact bAlc (Below.refl _ _) _ | exact bDrw (bAlc (Below.refl _ _) _) | exact bAlc (bDrw (Below.refl _ _)) _
    | true =>
      obtain ⟨f, hf, hal⟩ : ∃ f, f < gk ∧ altsF f (nAlts rs + d.length) d (l.drop i) = some (x.2, l3) := by
        rcases hcase.out with ⟨_, h⟩ | ⟨h0, _⟩
        · exact h
        · cases h0
      obtain ⟨f', a, l', rfl, hn24, hal1, hal2⟩ := alts_inv hal
      obtain ⟨na, hna1, hna2⟩ := alt_len (f := 0) (d := []) (m := []) hal1
      rw [List.drop_drop] at hna2
      have hna : i + na = i + a.length := by rw [hna1]; simp
      rw [hna] at hna2
      obtain ⟨VA, vc, eva, hv1, hv2⟩ := hva.reads.len
      subst eva
      have hgw := q.lt
      have hA : Hid (∀ X, Below wr.heap.size wr X → Calls Tryz.prog 130 #[.pointer (some ⟨rb, 0, none⟩)] X fun e w' => ∃ A3 c3, e = .returned (.slice A3 a.length c3) ∧ Own1 w' wr.heap.size 9 (.slice A3 a.length c3) (strs a) ∧ RBox rb { r with at' := i + a.length, alts := (nAlts rs + d.length : Nat) + 1 } l w' ∧ Blk w' gx 133 #[.string x.1, .slice VA d.length vc] ∧ OwV w' (gx + 1) (fun b => gx < b) 22 1 (.slice VA d.length vc) (d.map altV) ∧ Keep rb W w' ∧ wr.heap.size ≤ w'.heap.size) := Lib.hid fun X hX => by
        refine (alternative_any (hb.step hX) hal1 (by have := hn24; show ((nAlts rs + d.length : Nat) : Int) ≠ 24; omega) (by show (0 : Int) ≤ (nAlts rs + d.length : Nat); omega) (by show ((nAlts rs + d.length : Nat) : Int) ≤ 24; omega) htx).mono ?_
        rintro e w' ⟨v, rfl, h1, h2, h3⟩
        have hK := h3.trans (Keep.refl rb w')
        obtain ⟨A3, c3, e3⟩ := own_sl h1
        subst e3
        exact ⟨A3, c3, rfl, h1.mono hX.size, h2, h3.blk (q.step hX) (by omega), h3.owv (hva.step hX) (fun b hb e => by omega) (by omega), (hk.trans (Keep.of hX hb.lt)).trans h3, Nat.le_trans hX.size h3.1.size⟩
      have hcq : Hid (∀ w', Blk w' gx 133 #[.string x.1, .slice VA d.length vc] → w'.cell? ⟨gx, 1, none⟩ = some (.slice VA d.length vc)) := Lib.hid fun w' h => h.cell 1
      have hdl : (d.map altV).length < 1000000 := by simp; omega
      have hvl := hva.lt
      have hD : Hid (∀ A3 c3 X Y, Own1 X wr.heap.size 9 (.slice A3 a.length c3) (strs a) → Below X.heap.size X Y → ∀ (j : Nat) (u : Value) (x : Dat), #[Value.slice A3 a.length c3][j]? = some u → (altV a)[j]? = some x → RdX Y (fun b => b < Y.heap.size ∧ gx < b ∧ (Value.slice VA d.length vc).ownBlock ≠ some b) u x) := Lib.hid fun A3 c3 X Y h1 h2 j u x hu hx => by
        have hj : j = 0 := by have := (Array.getElem?_eq_some_iff.1 hu).1; simp at this; omega
        subst hj
        simp [altV] at hu hx
        subst hu hx
        refine (h1.rdv.step h2).mono fun b hb => ⟨Nat.lt_of_lt_of_le hb.2 h2.size, by omega, fun e => ?_⟩
        have := (hvl b e).2
        omega
      have hE : Hid (∀ A3 c3 w3 w' VA2 vc2, RBox rb { r with at' := i + a.length, alts := (nAlts rs + d.length : Nat) + 1 } l w3 → Keep rb W w3 → Blk w' gx 133 #[.string x.1, .slice VA d.length vc] → OwV w' (gx + 1) (fun b => gx < b) 22 1 (.slice VA2 (d.length + 1) vc2) ((d ++ [a]).map altV) → (∀ W0, Below (gx + 1) W0 (w3.alloc (.cells #[.slice A3 a.length c3] 22)) → Below (gx + 1) W0 w') → gx < w3.heap.size →
          RBox rb { r with at' := i + a.length, alts := (nAlts rs + (d ++ [a]).length : Nat) } l (w'.setCell ⟨gx, 1, none⟩ (.slice VA2 (d.length + 1) vc2)) ∧ Blk (w'.setCell ⟨gx, 1, none⟩ (.slice VA2 (d.length + 1) vc2)) gx 133 #[.string x.1, .slice VA2 (d.length + 1) vc2] ∧ OwV (w'.setCell ⟨gx, 1, none⟩ (.slice VA2 (d.length + 1) vc2)) (gx + 1) (fun b => gx < b) 22 1 (.slice VA2 (d.length + 1) vc2) ((d ++ [a]).map altV) ∧ Keep rb W (w'.setCell ⟨gx, 1, none⟩ (.slice VA2 (d.length + 1) vc2))) := Lib.hid fun A3 c3 w3 w' VA2 vc2 h1 h2 h3 h4 h5 h6 => by
        have hB : Below (gx + 1) w3 w' := h5 w3 ((Below.refl _ _).alloc (by omega) _)
        have hal : ((nAlts rs + d.length : Nat) : Int) + 1 = (nAlts rs + (d ++ [a]).length : Nat) := by simp; omega
        rw [hal] at h1
        refine ⟨(h1.low hB (by omega)).set (by show rb < gx; omega) _, h3.put 1 _, h4.set (by show ¬ gx < gx; omega) (fun e => ?_), (h2.then (hB.mono (by omega)) (by omega)).far (by show W.heap.size ≤ gx; omega) (by show rb ≤ gx; omega) _⟩
        have := (h4.lt gx e).1
        omega
      replace hE := Lib.hid hE.out
      replace hvl := Lib.hid hvl
      replace hal := Lib.hid hal
      replace hal1 := Lib.hid hal1
      replace hal2 := Lib.hid hal2
      replace hna := Lib.hid hna
      replace hna1 := Lib.hid hna1
      replace hna2 := Lib.hid hna2
      replace hn24 := Lib.hid hn24
      clear hv1 hv2
      have d1 := hcq.out _ q
      go_upto_block 1 with (fail)
      go_cut [44, 45, 46, 47, 48, 49, 50] (fun s44 s45 s46 s47 s48 s49 s50 wx => ∃ VA2 vc2, RBox rb { r with at' := i + a.length, alts := (nAlts rs + (d ++ [a]).length : Nat) } l wx ∧ Blk wx gx 133 #[.string x.1, .slice VA2 (d.length + 1) vc2] ∧ OwV wx (gx + 1) (fun b => gx < b) 22 1 (.slice VA2 (d.length + 1) vc2) ((d ++ [a]).map altV) ∧ Keep rb W wx)
      case first =>
        go_upto_region 11 with (fail)
        go_region_law (first
          | (go_simp; go_at_call 130; refine (hA.out _ (by repeat (first | assumption | exact Below.refl _ _ | (with_reducible refine bAlc ?_ _) | (with_reducible refine bDrw ?_)))).mono ?_; rintro e w3 ⟨A3, c3, rfl, ho3, hb3, hq3, hva3, hk3, hs3⟩; have e1 := hcq.out _ hq3; have e2 := hcq.out _ (hq3.alloc (.cells #[.slice A3 a.length c3] 22)))
          | (refine step_of_wp _ (by rfl) ?_; refine wp_pushV _ _ _ _ (by rfl) (gx + 1) (fun b => gx < b) 22 _ 1 24 under131 info22 rfl (by omega) _ (d.map altV) (by rfl) (hva3.step (by repeat (first | assumption | exact Below.refl _ _ | (with_reducible refine bAlc ?_ _) | (with_reducible refine bDrw ?_)))) _ #[.slice A3 a.length c3] (by rfl) (Blk.new _ _ _) rfl (altV a) rfl (hD.out _ _ _ _ ho3 (by repeat (first | assumption | exact Below.refl _ _ | (with_reducible refine bAlc ?_ _) | (with_reducible refine bDrw ?_)))) (by simp [Value.oneCell']) hdl (by omega) (by simp; omega) ?_; intro v' w' hown' hg' hat' hb'; have hq' := (hq3.alloc (.cells #[.slice A3 a.length c3] 22)).below (hb' _ (Below.refl _ _)) (Nat.lt_succ_self gx); rw [show d.map altV ++ [altV a] = (d ++ [a]).map altV by simp] at hown'; obtain ⟨VA2, vc2, ev, _, _⟩ := hown'.reads.len; rw [List.length_append, List.length_singleton] at ev; subst ev; have f1 := hcq.out _ hq'; have hz' := hq'.frozen 1))
        all_goals
          go_wp2_with fail
          go_meet
          exact ⟨VA2, vc2, hE.out A3 c3 w3 w' VA2 vc2 hb3 hk3 hq' hown' hb' (by omega)⟩
      case rest =>
        obtain ⟨VA2, vc2, hb4, q4, hva4, hk4⟩ := hcut
        obtain ⟨b, hbe⟩ : ∃ b, b = (nextF sgBar l').1 := ⟨_, rfl⟩
        have hN := Lib.hid (next_any hb4 sgBar b (by rw [hbe, hna2.out]))
        replace hbe := Lib.hid hbe
        go_wp2_with (go_at_call 125; refine hN.out.mono ?_; clear hN; rintro e w6 ⟨rfl, hb7, hk7⟩)
        go_roundg (f' + 1)
        case measure => omega
        case rel =>
          refine ⟨d ++ [a], _, b, _, rfl, Lib.hid ?_, hb7, hk7.blk q4 (by omega), hk7.owv hva4 (fun b hb e => by omega) (by omega), hk4.trans hk7, by have := hn24.out; simp; omega⟩
          rcases hal2.out with ⟨e1, e2⟩ | ⟨e1, e2, e3⟩
          · have hbt : b = true := hbe.out.trans e1
            refine .inl ⟨hbt, f', by omega, ?_⟩
            rw [next_true e1, hna2.out, List.drop_drop] at e2
            rw [if_pos hbt, List.length_append]
            exact e2
          · have hbf : b = false := hbe.out.trans e1
            refine .inr ⟨hbf, e2, ?_⟩
            rw [next_false e1, hna2.out] at e3
            rw [if_neg (by rw [hbf]; decide)]
            exact e3.symm
end
end Go.Proofs.YtnnkfgekiaaehaaGreat

/- The reader of the reference (layer 8): known. -/
namespace Go.Proofs.YtnnkfgekiaaehaaGreat
open Go.ChangeShapes Go.WideShapes Go.ChangeAt Go.RowKit
set_option linter.unusedVariables false
section
variable {rb : Nat} {r : RS} {l : List Lx} {W : World} {ts : List ByteArray} {rs : List Rule}
theorem SB.step {W' : World} (h : SB rb r l ts rs W) (hb : Below W.heap.size W W') : SB rb r l ts rs W' :=
  ⟨h.1.step hb, (h.2.1.step hb).mono fun b hb' => ⟨Nat.lt_of_lt_of_le hb'.1 hb.size, hb'.2⟩, h.2.2.step hb⟩
set_option maxRecDepth 100000 in
set_option maxHeartbeats 4000000 in
theorem known_any (h : SB rb r l ts rs W) (y : Lx) (j : Nat) (hh : hasN y.text (rs.map (·.1)) = true)
    (hk : ∀ x ∈ l.drop j, (!decide (x.kind = 1) || (!decide (x.text = r.sep) && (hasN x.text (rs.map (·.1)) || hasN x.text ts))) = true) (h80 : rs.length ≤ 8) (ht80 : ts.length ≤ 8) (hj : j ≤ r.n) :
    Calls Tryz.prog 90 #[.pointer (some ⟨rb, 0, none⟩), lxV y.kind y.text y.at', .int .i64 j] W fun e w' => e = .returned (.tuple #[]) ∧ Below W.heap.size W w' := by
  have hb0 : Below W.heap.size W (W.alloc (.cells #[.int .i64 y.kind, .string y.text, .int .i64 y.at'] 124)) := bAlc (Below.refl _ _) _
  have h1 := h.step hb0
  have q0 : Blk (W.alloc (.cells #[.int .i64 y.kind, .string y.text, .int .i64 y.at'] 124)) W.heap.size 124 #[.int .i64 y.kind, .string y.text, .int .i64 y.at'] := Blk.new _ _ _
  obtain ⟨TA, tc, hT, htc1, htc2⟩ := h.2.1.strs
  obtain ⟨RA, rc, hRv, hrc1, hrc2⟩ := (h.2.2.reads).len
  have hn := h.1.2.2.1
  have hn2 := h.1.2.2.2
  clear h htc1 htc2 hrc1 hrc2
  have hk := Lib.hid hk
  replace hT := Lib.hid hT
  replace hRv := Lib.hid hRv
  replace hn := Lib.hid hn
  go_enter Tryz.func90, Tryz.ntmps90
  go_upto_region 1 with (fail)
  generalize W.alloc (.cells #[.int .i64 y.kind, .string y.text, .int .i64 y.at'] 124) = W1 at *
  have hRu := h1.2.2.reads
  rw [hRv.out] at hRu
  have hRu2 := Lib.hid (rules_any (T := .slice TA ts.length tc) (k := r.k) (sep := r.sep) (st := r.start) hRu (by omega))
  have hcs : Hid (∀ X, RBox rb r l X → X.cell? ⟨rb, 1, none⟩ = some (.slice r.LA r.n r.c) ∧ X.cell? ⟨rb, 6, none⟩ = some (.int .i64 r.k) ∧ X.cell? ⟨rb, 7, none⟩ = some (.slice TA ts.length tc) ∧ X.cell? ⟨rb, 8, none⟩ = some (.string r.sep) ∧ X.cell? ⟨rb, 9, none⟩ = some (.string r.start) ∧ X.cell? ⟨rb, 10, none⟩ = some (.slice RA rs.length rc)) := Lib.hid fun X h => by
    have c1 := h.1.cell 1
    have c6 := h.1.cell 6
    have c7 := h.1.cell 7
    have c8 := h.1.cell 8
    have c9 := h.1.cell 9
    have c10 := h.1.cell 10
    simp only [List.getElem?_toArray, List.getElem?_cons_zero, List.getElem?_cons_succ] at c1 c6 c7 c8 c9 c10
    rw [hT.out] at c7
    rw [hRv.out] at c10
    exact ⟨c1, c6, c7, c8, c9, c10⟩
  obtain ⟨c1, c6, c7, c8, c9, c10⟩ := hcs.out _ h1.1
  have hnl : (rs.map (·.1)).length ≤ 1000000 := by simp; omega
  have hyt : (rs.map (·.1)).length = rs.length := by simp
  replace hyt := Lib.hid hyt
  go_upto_region 2 with (go_at_call 129; refine hRu2.out.mono ?_; clear hRu2; rintro e w3 ⟨vN, rfl, hoN, hb5⟩; obtain ⟨NA, nc, eN⟩ := own_sl hoN; rw [List.length_map] at eN; subst eN)
  have h3 := h1.step hb5
  have q3 := q0.step hb5
  have hw3 := bStep hb0 hb5
  have hRN := hoN.rdv
  clear c1 c6 c7 c8 c9 c10 h1 q0 hRu hb0
  have hH := Lib.hid (hasv_any hRN y.text hnl)
  rw [hh] at hH
  have d1 := q3.cell 1
  simp only [List.getElem?_toArray, List.getElem?_cons_zero, List.getElem?_cons_succ] at d1
  go_upto_region 5 with (go_at_call 128; refine hH.out.mono ?_; clear hH; rintro e w4 ⟨rfl, rfl⟩)
  clear d1 q3 hoN hh
  have hrl := h3.1.lt
  go_loopg [7] (r.n - j) (fun gk s7 wr => ∃ i : Nat, s7 = .int .i64 i ∧ i + gk = r.n ∧ j ≤ i ∧ Below w3.heap.size w3 wr)
  case atStart => exact ⟨j, rfl, by omega, Nat.le_refl _, Below.refl _ _⟩
  case round =>
    obtain ⟨i, rfl, hi, hji, hb⟩ := hrel
    have h4 := h3.step hb
    have hR4 := (hRN.step hb)
    obtain ⟨c1, c6, c7, c8, c9, c10⟩ := hcs.out _ h4.1
    have hfin := Lib.hid (bStep hw3 hb)
    by_cases hin : i < r.n
    · have hlt : i < l.length := by have := hn.out; omega
      have hxi : l[i]? = some l[i] := List.getElem?_eq_getElem hlt
      have hkx := hk.out l[i] (by rw [List.mem_iff_getElem?]; exact ⟨i - j, by rw [List.getElem?_drop, show j + (i - j) = i by omega]; exact hxi⟩)
      obtain ⟨b, off, hLA, hbl, x0, x1, x2⟩ := h4.1.get hxi
      generalize l[i] = x at *
      rw [hLA] at c1
      have hz0 : (0 : Int) ≤ i := by omega
      have hz1 : (i : Int) < r.n := by omega
      have hz4 : (r.n : Int) ≤ 2001 := by omega
      replace hLA := Lib.hid hLA
      replace hxi := Lib.hid hxi
      replace hi := Lib.hid hi
      by_cases hk1 : x.kind = 1
      · have hkb : (x.kind == 1) = true := by simp [hk1]
        have hsep : Hid (¬ x.text = r.sep ∧ (hasN x.text (rs.map (·.1)) || hasN x.text ts) = true) := Lib.hid (by simp [hk1] at hkx; exact ⟨hkx.1, by simpa using hkx.2⟩)
        have hsb := eqF _ _ hsep.out.1
        clear hkx hk1
        go_upto_region 9 with (fail)
        have qx : Blk (wr.alloc (.cells #[.int .i64 x.kind, .string x.text, .int .i64 x.at'] 124)) wr.heap.size 124 #[.int .i64 x.kind, .string x.text, .int .i64 x.at'] := Blk.new _ _ _
        have hb5 : Below w3.heap.size w3 (wr.alloc (.cells #[.int .i64 x.kind, .string x.text, .int .i64 x.at'] 124)) := bAlc hb _
        have h6 := h4.step (bAlc (Below.refl _ _) (.cells #[.int .i64 x.kind, .string x.text, .int .i64 x.at'] 124))
        have hR6 := hR4.step (bAlc (Below.refl _ _) (.cells #[.int .i64 x.kind, .string x.text, .int .i64 x.at'] 124))
        clear hb h4 hR4 c1 c6 c7 c8 c9 c10 x0 x1 x2 hfin
        generalize wr.alloc (.cells #[.int .i64 x.kind, .string x.text, .int .i64 x.at'] 124) = W6 at *
        generalize wr.heap.size = gx at *
        obtain ⟨c1, c6, c7, c8, c9, c10⟩ := hcs.out _ h6.1
        have y1 : W6.cell? ⟨gx, 1, none⟩ = some (.string x.text) := qx.cell 1
        have k7 := cell_kept c7
        have k8 := cell_kept c8
        have ky := cell_kept y1
        clear c1 c6 c7 c8 c9 c10 y1
        refine wp_region_kept (by kernel_rfl) (by kernel_rfl) ?_
        repeat (go_big_quiet_step (fail))
        refine wpQuiet_nil ?_
        rintro _ ⟨p, rfl⟩
        have hpk := p.kept
        have h7 := h6.step hpk
        have hR7 := hR6.step hpk
        have q7 := qx.step hpk
        have hb7 : Below w3.heap.size w3 p.world := bStep hb5 hpk
        clear hpk k7 k8 ky h6 hR6 qx hb5
        generalize p.world = W7 at *
        obtain ⟨c1, c6, c7, c8, c9, c10⟩ := hcs.out _ h7.1
        have y1 : W7.cell? ⟨gx, 1, none⟩ = some (.string x.text) := q7.cell 1
        have k7 := cell_kept c7
        have ky := cell_kept y1
        clear c1 c6 c7 c8 c9 c10 y1
        have hT7 := h7.2.1
        rw [hT.out] at hT7
        have hA := Lib.hid (fun (p : KeptBy W7) => hasv_any (hR7.step p.kept) x.text hnl)
        have hB := Lib.hid (fun (p : KeptBy W7) => hasv_any (hT7.step p.kept) x.text (by omega))
        clear hT7
        cases hn1 : hasN x.text (rs.map (·.1)) with
        | true =>
          rw [hn1] at hA
          replace hn1 := Lib.hid hn1
          clear hB
          go_upto_region 11 with (fail)
          refine wp_region_kept (by kernel_rfl) (by kernel_rfl) ?_
          repeat (go_big_quiet_step ((go_at_call 128; exact Calls.kept_same (hA.out _))))
          refine wpQuiet_nil ?_
          rintro _ ⟨p, rfl⟩
          have hpk := p.kept
          clear k7 ky hA
          generalize p.world = W8 at *
          go_wp2_with fail
          go_roundg (r.n - (i + 1))
          case measure => have := hi.out; omega
          case rel => exact ⟨i + 1, by go_num, by have := hi.out; omega, by omega, bStep hb7 hpk⟩
        | false =>
          have hn2 : hasN x.text ts = true := by have := hsep.out.2; rw [hn1] at this; simpa using this
          rw [hn1] at hA
          rw [hn2] at hB
          replace hn1 := Lib.hid hn1
          replace hn2 := Lib.hid hn2
          go_upto_region 11 with (fail)
          refine wp_region_kept (by kernel_rfl) (by kernel_rfl) ?_
          repeat (go_big_quiet_step (fail))
          go_big_quiet_step ((go_at_call 128; exact Calls.kept_same (hA.out _)))
          repeat (go_big_quiet_step (fail))
          go_big_quiet_step ((go_at_call 128; exact Calls.kept_same (hB.out _)))
          repeat (go_big_quiet_step (fail))
          refine wpQuiet_nil ?_
          rintro _ ⟨p, rfl⟩
          have hpk := p.kept
          clear k7 ky hA hB
          generalize p.world = W8 at *
          go_wp2_with fail
          go_roundg (r.n - (i + 1))
          case measure => have := hi.out; omega
          case rel => exact ⟨i + 1, by go_num, by have := hi.out; omega, by omega, bStep hb7 hpk⟩
      · have hkb : (x.kind == 1) = false := by simp [hk1]
        clear hkx hk1
        go_wp2_with fail
        go_roundg (r.n - (i + 1))
        case measure => have := hi.out; omega
        case rel => exact ⟨i + 1, by go_num, by have := hi.out; omega, by omega, bAlc hb _⟩
    · go_wp2_with fail
      go_end0
      exact ⟨rfl, hfin.out⟩
end
end Go.Proofs.YtnnkfgekiaaehaaGreat

/- The lexer of the reference (layer 4): Check and Number, of one digit. -/
namespace Go.Proofs.YtnnkfgekiaaehaaGreat
open Go.ChangeShapes Go.WideShapes Go.ChangeAt Go.RowKit
set_option linter.unusedVariables false
theorem beg_one (t : ByteArray) (ht : t.size = 1) (h1 : 49 ≤ byteAt t 0) (h4 : byteAt t 0 ≤ 52) : begB t = some (2, 1) := by
  have hs : spanB digiI t t.size 1 = 1 := by rw [ht]; unfold spanB; rw [if_neg (by omega)]
  generalize hc : byteAt t 0 = c at *
  have e1 : signI c = false := decide_eq_false (by omega)
  have e2 : letrI c = false := by unfold letrI; exact decide_eq_false (by omega)
  have e3 : digiI c = true := by unfold digiI; exact decide_eq_true (by omega)
  unfold begB
  rw [hc, e1, e2, e3, if_neg (by decide), if_neg (by decide), if_pos rfl, hs, ht, if_neg (by omega)]
theorem ext_all (t : ByteArray) (ht : t.size = 1) : t.extract 0 1 = t := by
  apply ByteArray.ext
  rw [ByteArray.data_extract]
  have : t.data.size = 1 := ht
  rw [← this]
  simp
theorem check_lx (t : ByteArray) (i : Nat) (w : World) (ht : t.size = 1) (h1 : 49 ≤ byteAt t 0) (h4 : byteAt t 0 ≤ 52) :
    Calls Tryz.prog 159 #[lxV 2 t i] w fun e w' => e = .returned (.int .i64 0) ∧ Below w.heap.size w w' := by
  have hB := Lib.hid (fun W => lexbeg_any t 2 1 W (by rw [ht]; unfold maxLen; omega) (by omega) (beg_one t ht h1 h4))
  rw [ext_all t ht] at hB
  have hne : t.toList.isEmpty = false := by
    rw [ByteArray.toList_eq]
    cases h : t.data.toList with
    | nil => have h2 : t.data.toList.length = 1 := by rw [Array.length_toList]; exact ht
             rw [h] at h2; cases h2
    | cons _ _ => rfl
  have hee := eqT t t rfl
  have hz : ¬ (i : Int) < 0 := by omega
  clear h1 h4
  replace ht := Lib.hid ht
  go_enter Tryz.func159, Tryz.ntmps159
  go_upto_region 6 with (go_at_call 157; refine (hB.out _).mono ?_; clear hB; rintro e w2 ⟨rfl, hb2⟩)
  have q : Blk (w.alloc (.cells #[.int .i64 2, .string t, .int .i64 i] 124)) w.heap.size 124 #[.int .i64 2, .string t, .int .i64 i] := Blk.new _ _ _
  have hb0 : Below w.heap.size w (w.alloc (.cells #[.int .i64 2, .string t, .int .i64 i] 124)) := bAlc (Below.refl _ _) _
  have q2 := (q.step hb2).alloc (.cells #[.int .i64 2, .string t, .int .i64 0] 124)
  have hb3 := bAlc (bStep hb0 hb2) (.cells #[.int .i64 2, .string t, .int .i64 0] 124)
  have d0 := q2.cell 0
  have d1 := q2.cell 1
  have d2 := q2.cell 2
  simp only [List.getElem?_toArray, List.getElem?_cons_zero, List.getElem?_cons_succ] at d0 d1 d2
  go_wp2_with fail
  go_ret
  exact ⟨rfl, hb3⟩
set_option maxHeartbeats 1000000 in
theorem number_any (t : ByteArray) (i : Nat) (c : Int) (w : World) (ht : t.size = 1) (hc : byteAt t 0 = c) (h1 : 49 ≤ c) (h4 : c ≤ 52) :
    Calls Tryz.prog 124 #[lxV 2 t i, .int .i64 1, .int .i64 4] w fun e w' => e = .returned (.tuple #[.int .i64 (c - 48), .int .i64 0]) ∧ Below w.heap.size w w' := by
  have hC := Lib.hid (fun W => check_lx t i W ht (by omega) (by omega))
  have hbt := (byteAt_get t 0 (by omega)).symm
  rw [hc] at hbt
  replace hc := Lib.hid hc
  have hts : (t.size : Int) = 1 := by omega
  go_enter Tryz.func124, Tryz.ntmps124
  go_upto_region 2 with (go_at_call 159; refine (hC.out _).mono ?_; clear hC; rintro e w2 ⟨rfl, hb2⟩)
  have q : Blk (w.alloc (.cells #[.int .i64 2, .string t, .int .i64 i] 124)) w.heap.size 124 #[.int .i64 2, .string t, .int .i64 i] := Blk.new _ _ _
  have hb0 : Below w.heap.size w (w.alloc (.cells #[.int .i64 2, .string t, .int .i64 i] 124)) := bAlc (Below.refl _ _) _
  have q2 := q.step hb2
  have hb3 := bStep hb0 hb2
  clear q hb0 hb2
  have d0 := q2.cell 0
  have d1 := q2.cell 1
  simp only [List.getElem?_toArray, List.getElem?_cons_zero, List.getElem?_cons_succ] at d0 d1
  go_upto_region 8 with (fail)
  go_loopg [9, 10, 11] 1 (fun gk s9 s10 s11 wr => wr = w2 ∧ ((gk = 1 ∧ s9 = .int .i64 0 ∧ s10 = .int .i64 0) ∨ (gk = 0 ∧ s9 = .int .i64 (c - 48) ∧ s10 = .int .i64 1)))
  case atStart => exact ⟨rfl, .inl ⟨rfl, rfl, rfl⟩⟩
  case round =>
    obtain ⟨rfl, ⟨rfl, rfl, rfl⟩ | ⟨rfl, rfl, rfl⟩⟩ := hrel
    · go_wp2_with fail
      go_roundg 0
      case measure => omega
      case rel => exact ⟨rfl, .inr ⟨rfl, by go_num, rfl⟩⟩
    · have hz1 : (1 : Int) ≤ c - 48 := by omega
      have hz2 : c - 48 ≤ 4 := by omega
      go_wp2_with fail
      go_ret2
      exact ⟨rfl, hb3⟩
end Go.Proofs.YtnnkfgekiaaehaaGreat

/- The reader of the reference (layer 8): head. -/
namespace Go.Proofs.YtnnkfgekiaaehaaGreat
open Go.ChangeShapes Go.WideShapes Go.ChangeAt Go.RowKit
set_option linter.unusedVariables false
theorem toks_inv {f : Nat} {d ts : List ByteArray} {l m : List Lx} (h : toksF f d l = some (ts, m)) :
    ∃ f' y l', f = f' + 1 ∧ l = y :: l' ∧ y.kind = 1 ∧ smallB y.text = true ∧ hasN y.text d = false ∧ d.length ≠ 8 ∧ (((nextF sgComma l').1 = true ∧ toksF f' (d ++ [y.text]) (nextF sgComma l').2 = some (ts, m)) ∨ ((nextF sgComma l').1 = false ∧ ts = d ++ [y.text] ∧ m = (nextF sgComma l').2)) := by
  cases f with
  | zero => simp [toksF] at h
  | succ f =>
    unfold toksF at h
    cases hn : nameF false l with
    | none => rw [hn] at h; cases h
    | some q =>
      obtain ⟨s, l'⟩ := q
      rw [hn] at h
      obtain ⟨y, rfl, rfl, hy1, hy2⟩ := name_inv hn
      dsimp only at h
      by_cases hc : hasN y.text d = true ∨ d.length = 8
      · rw [if_pos hc] at h; cases h
      · rw [if_neg hc] at h
        have hh : hasN y.text d = false := by
          cases hh : hasN y.text d with
          | true => exact absurd (.inl hh) hc
          | false => rfl
        refine ⟨f, y, l', rfl, rfl, hy1, hy2, hh, fun e => hc (.inr e), ?_⟩
        by_cases hb : (nextF sgComma l').1 = true
        · rw [if_pos hb] at h; exact .inl ⟨hb, h⟩
        · rw [if_neg hb] at h
          injection h with h
          injection h with h1 h2
          exact .inr ⟨by simpa using hb, h1.symm, h2.symm⟩
theorem head_inv {l r' : List Lx} {k : Int} {ts : List ByteArray} {sep st : ByteArray} (h : headF l = some (k, ts, sep, st, r')) :
    ∃ n l1 l2 l3 l4 l5 l6 l7 l8 l9 l10, mustF 1 ⟨#[108, 111, 111, 107, 97, 104, 101, 97, 100]⟩ l = some (n :: l1) ∧ n.kind = 2 ∧ n.text.size = 1 ∧ 49 ≤ byteAt n.text 0 ∧ byteAt n.text 0 ≤ 52 ∧ k = byteAt n.text 0 - 48 ∧
      mustF 3 sgSemi l1 = some l2 ∧ mustF 1 ⟨#[116, 111, 107, 101, 110]⟩ l2 = some l3 ∧ toksF 9 [] l3 = some (ts, l4) ∧ mustF 3 sgSemi l4 = some l5 ∧ mustF 1 ⟨#[115, 101, 112, 97, 114, 97, 116, 111, 114]⟩ l5 = some l6 ∧
      nameF false l6 = some (sep, l7) ∧ hasN sep ts = false ∧ mustF 3 sgSemi l7 = some l8 ∧ mustF 1 ⟨#[115, 116, 97, 114, 116]⟩ l8 = some l9 ∧ nameF true l9 = some (st, l10) ∧ mustF 3 sgSemi l10 = some r' := by
  unfold headF at h
  cases h0 : mustF 1 ⟨#[108, 111, 111, 107, 97, 104, 101, 97, 100]⟩ l with
  | none => rw [h0] at h; cases h
  | some q =>
    cases q with
    | nil => rw [h0] at h; cases h
    | cons n l1 =>
      rw [h0] at h
      dsimp only at h
      by_cases hc : n.kind = 2 ∧ n.text.size = 1 ∧ 49 ≤ byteAt n.text 0 ∧ byteAt n.text 0 ≤ 52
      · rw [if_pos hc] at h
        cases h1 : mustF 3 sgSemi l1 with
        | none => rw [h1] at h; cases h
        | some l2 =>
          rw [h1] at h; dsimp only at h
          cases h2 : mustF 1 ⟨#[116, 111, 107, 101, 110]⟩ l2 with
          | none => rw [h2] at h; cases h
          | some l3 =>
            rw [h2] at h; dsimp only at h
            cases h3 : toksF 9 [] l3 with
            | none => rw [h3] at h; cases h
            | some q =>
              obtain ⟨ts', l4⟩ := q
              rw [h3] at h; dsimp only at h
              cases h4 : mustF 3 sgSemi l4 with
              | none => rw [h4] at h; cases h
              | some l5 =>
                rw [h4] at h; dsimp only at h
                cases h5 : mustF 1 ⟨#[115, 101, 112, 97, 114, 97, 116, 111, 114]⟩ l5 with
                | none => rw [h5] at h; cases h
                | some l6 =>
                  rw [h5] at h; dsimp only at h
                  cases h6 : nameF false l6 with
                  | none => rw [h6] at h; cases h
                  | some q =>
                    obtain ⟨sep', l7⟩ := q
                    rw [h6] at h; dsimp only at h
                    cases h7 : hasN sep' ts' with
                    | true => rw [h7, if_pos rfl] at h; cases h
                    | false =>
                      rw [h7, if_neg (by decide)] at h
                      cases h8 : mustF 3 sgSemi l7 with
                      | none => rw [h8] at h; cases h
                      | some l8 =>
                        rw [h8] at h; dsimp only at h
                        cases h9 : mustF 1 ⟨#[115, 116, 97, 114, 116]⟩ l8 with
                        | none => rw [h9] at h; cases h
                        | some l9 =>
                          rw [h9] at h; dsimp only at h
                          cases h10 : nameF true l9 with
                          | none => rw [h10] at h; cases h
                          | some q =>
                            obtain ⟨st', l10⟩ := q
                            rw [h10] at h; dsimp only at h
                            cases h11 : mustF 3 sgSemi l10 with
                            | none => rw [h11] at h; cases h
                            | some l11 =>
                              rw [h11] at h
                              injection h with h
                              simp only [Prod.mk.injEq] at h
                              obtain ⟨rfl, rfl, rfl, rfl, rfl⟩ := h
                              exact ⟨n, l1, l2, l3, l4, l5, l6, l7, l8, l9, l10, rfl, hc.1, hc.2.1, hc.2.2.1, hc.2.2.2, rfl, h1, h2, h3, h4, h5, h6, h7, h8, h9, h10, h11⟩
      · rw [if_neg hc] at h; cases h
theorem Own1.far {w : World} {base : Nat} {e : TypeId} {v : Value} {l : List Value} (h : Own1 w base e v l) {p : Addr} (hp : p.block < base) (u : Value) : Own1 (w.setCell p u) base e v l := by
  refine ⟨h.1, ?_⟩
  rcases h.2 with hn | ⟨g, cap, cur, rfl, hg0, hg, rest⟩
  · exact .inl hn
  · exact .inr ⟨g, cap, cur, rfl, hg0, (Below.heap_setCell w p u g (by omega)).trans hg, rest⟩
section
variable {rb : Nat} {r : RS} {l : List Lx} {W : World}
def RetHead (W : World) (rb : Nat) (r : RS) (l : List Lx) (k : Int) (ts : List ByteArray) (sep st : ByteArray) (r' : List Lx) (e : Ending) (w' : World) : Prop :=
  ∃ (y : Lx) (T : Value) (i : Nat), e = .returned (lxV y.kind y.text y.at') ∧ y.text = st ∧ l.drop i = r' ∧ i ≤ l.length ∧ RBox rb { r with at' := i, k := k, T := T, sep := sep, start := st } l w' ∧ Own1 w' W.heap.size 9 T (strs ts) ∧ Keep rb W w'
theorem RBox.put6 (h : RBox rb r l W) (v : Int) : RBox rb { r with k := v } l (W.setCell ⟨rb, 6, none⟩ (.int .i64 v)) :=
  ⟨h.1.put 6 _, h.2.1.below (Below.setCell (p := ⟨rb, 6, none⟩) (Below.refl rb W) (Nat.le_refl rb) _), h.2.2⟩
theorem RBox.put7 (h : RBox rb r l W) (v : Value) : RBox rb { r with T := v } l (W.setCell ⟨rb, 7, none⟩ v) :=
  ⟨h.1.put 7 _, h.2.1.below (Below.setCell (p := ⟨rb, 7, none⟩) (Below.refl rb W) (Nat.le_refl rb) _), h.2.2⟩
theorem RBox.put8 (h : RBox rb r l W) (v : ByteArray) : RBox rb { r with sep := v } l (W.setCell ⟨rb, 8, none⟩ (.string v)) :=
  ⟨h.1.put 8 _, h.2.1.below (Below.setCell (p := ⟨rb, 8, none⟩) (Below.refl rb W) (Nat.le_refl rb) _), h.2.2⟩
theorem RBox.put9 (h : RBox rb r l W) (v : ByteArray) : RBox rb { r with start := v } l (W.setCell ⟨rb, 9, none⟩ (.string v)) :=
  ⟨h.1.put 9 _, h.2.1.below (Below.setCell (p := ⟨rb, 9, none⟩) (Below.refl rb W) (Nat.le_refl rb) _), h.2.2⟩
set_option maxRecDepth 100000 in
set_option maxHeartbeats 4000000 in
theorem head_any {k : Int} {ts : List ByteArray} {sep st : ByteArray} {r' : List Lx} (h : RBox rb r l W) (hh : headF (l.drop r.at') = some (k, ts, sep, st, r')) (hT : r.T = .slice none 0 0) (htx : ∀ x ∈ l, x.text.size ≤ maxLen) :
    Calls Tryz.prog 87 #[.pointer (some ⟨rb, 0, none⟩)] W (RetHead W rb r l k ts sep st r') := by
  have hR := Lib.hid (fun (y : Lx) (T : Value) (i : Nat) (w' : World) (h1 : y.text = st) (h2 : l.drop i = r') (h3 : i ≤ l.length) (h4 : RBox rb { r with at' := i, k := k, T := T, sep := sep, start := st } l w') (h5 : Own1 w' W.heap.size 9 T (strs ts)) (h6 : Keep rb W w') => (show RetHead W rb r l k ts sep st r' (.returned (lxV y.kind y.text y.at')) w' from ⟨y, T, i, rfl, h1, h2, h3, h4, h5, h6⟩))
  generalize RetHead W rb r l k ts sep st r' = RR at *
  obtain ⟨n, l1, l2, l3, l4, l5, l6, l7, l8, l9, l10, a0, an1, an2, an3, an4, ak, a1, a2, a3, a4, a5, a6, a7, a8, a9, a10, a11⟩ := head_inv hh
  obtain ⟨x0, e0, x01, x02⟩ := must_inv a0
  obtain ⟨g0, f0⟩ := drop_head e0
  obtain ⟨g1, f1⟩ := drop_head f0
  obtain ⟨x2, e2, x21, x22⟩ := must_inv a1
  obtain ⟨g2, f2⟩ := drop_head (f1.trans e2)
  obtain ⟨x3, e3, x31, x32⟩ := must_inv a2
  obtain ⟨g3, f3⟩ := drop_head (f2.trans e3)
  obtain ⟨nk, nt, na⟩ := n
  dsimp only at an1 an2 an3 an4 ak g1
  subst an1
  replace hh := Lib.hid hh
  replace f3 := Lib.hid f3
  replace hT := Lib.hid hT
  clear a0 a1 a2 e0 e2 e3 f0 f1 f2
  have hrl := h.lt
  have hb0 : Below W.heap.size W (W.alloc (.cells #[.int .i64 0, .string ⟨#[]⟩, .int .i64 0] 124)) := bAlc (Below.refl _ _) _
  have q0 : Blk (W.alloc (.cells #[.int .i64 0, .string ⟨#[]⟩, .int .i64 0] 124)) W.heap.size 124 #[.int .i64 0, .string ⟨#[]⟩, .int .i64 0] := Blk.new _ _ _
  obtain ⟨h1, k1⟩ := h.keep hb0
  have hW1 : W.heap.size + 1 = (W.alloc (.cells #[.int .i64 0, .string ⟨#[]⟩, .int .i64 0] 124)).heap.size := by simp
  clear h hb0
  have hnum := Lib.hid (fun w => number_any nt na (byteAt nt 0) w an2 rfl an3 an4)
  rw [← ak] at hnum
  replace ak := Lib.hid ak
  replace an3 := Lib.hid an3
  replace an4 := Lib.hid an4
  go_enter Tryz.func87, Tryz.ntmps87
  go_upto_region 1 with (fail)
  generalize W.alloc (.cells #[.int .i64 0, .string ⟨#[]⟩, .int .i64 0] 124) = W1 at *
  go_upto_region 2 with (go_at_call 121; refine (must_any h1 g0 1 _ x01 x02).mono ?_; rintro e w1 ⟨rfl, h2, k2⟩)
  have q2 := k2.blk q0 (by omega)
  have k3 := k1.trans k2
  clear h1 k1 k2 q0 g0 x01 x02
  go_upto_region 3 with (go_at_call 122; refine (take_any h2 g1).mono ?_; rintro e w2 ⟨rfl, h3, k4⟩)
  have q3 := k4.blk q2 (by omega)
  have k5 := k3.trans k4
  have p3 : Blk (w2.alloc (.cells #[.int .i64 2, .string nt, .int .i64 na] 124)) w2.heap.size 124 #[.int .i64 2, .string nt, .int .i64 na] := Blk.new _ _ _
  have q4 := q3.alloc (.cells #[.int .i64 2, .string nt, .int .i64 na] 124)
  obtain ⟨h4, k6⟩ := h3.keep (W' := w2.alloc (.cells #[.int .i64 2, .string nt, .int .i64 na] 124)) (bAlc (Below.refl _ _) _)
  have k7 := k5.trans k6
  have hW2 : W.heap.size + 1 ≤ w2.heap.size := by have := q3.lt; omega
  clear h2 h3 k3 k4 k5 k6 q2 q3 g1
  try dsimp only at h4
  generalize w2.alloc (.cells #[.int .i64 2, .string nt, .int .i64 na] 124) = W2 at *
  generalize w2.heap.size = gn at *
  have d0 := p3.cell 0
  have d1 := p3.cell 1
  have d2 := p3.cell 2
  simp only [List.getElem?_toArray, List.getElem?_cons_zero, List.getElem?_cons_succ] at d0 d1 d2
  go_upto_region 6 with (go_at_call 88; refine (ok_any h4).mono ?_; rintro e w3 ⟨rfl, rfl⟩)
  go_upto_region 7 with (go_at_call 124; refine (hnum.out _).mono ?_; clear hnum; rintro e w3 ⟨rfl, hb3⟩)
  obtain ⟨h5, k8⟩ := h4.keep hb3
  have k9 := k7.trans k8
  have q5 := q4.step hb3
  have c6 := h5.1.cell 6
  have z6 := h5.1.frozen 6
  simp only [List.getElem?_toArray, List.getElem?_cons_zero, List.getElem?_cons_succ] at c6
  have h6 := h5.put6 k
  have k10 := k9.set 6 (.int .i64 k)
  have q6 := q5.far (p := ⟨rb, 6, none⟩) (by show W.heap.size ≠ rb; omega) (.int .i64 k)
  clear h4 h5 k7 k8 k9 q4 q5 p3 hb3 d0 d1 d2
  go_upto_region 10 with (fail)
  clear c6 z6
  generalize w3.setCell ⟨rb, 6, none⟩ (.int .i64 k) = W3 at *
  go_upto_region 11 with (go_at_call 121; refine (must_any h6 g2 3 sgSemi x21 x22).mono ?_; rintro e w4 ⟨rfl, h7, k11⟩)
  go_upto_region 12 with (go_at_call 121; refine (must_any h7 g3 1 _ x31 x32).mono ?_; rintro e w5 ⟨rfl, h8, k12⟩)
  have q7 := k12.blk (k11.blk q6 (by omega)) (by omega)
  have k13 := (k10.trans k11).trans k12
  clear h6 h7 k10 k11 k12 q6 g2 g3 x21 x22 x31 x32
  try dsimp only at h8
  go_upto_region 13 with (fail)
  have hbase : rb < W1.heap.size := by omega
  replace a3 := Lib.hid a3
  rw [hT.out] at h8
  go_loopg [6, 7, 8] 10 (fun gk s6 s7 s8 wr => ∃ (d : List ByteArray) (i : Nat) (b : Bool) (TA : Option Addr) (tc : Nat), s6 = .bool b ∧ Hid ((b = true ∧ ∃ f, f < gk ∧ toksF f d (l.drop i) = some (ts, l4)) ∨ (b = false ∧ ts = d ∧ l.drop i = l4)) ∧
    RBox rb { r with at' := i, k := k, T := .slice TA d.length tc } l wr ∧ Own1 wr W1.heap.size 9 (.slice TA d.length tc) (strs d) ∧ Blk wr W.heap.size 124 #[.int .i64 0, .string ⟨#[]⟩, .int .i64 0] ∧ Keep rb W wr ∧ W1.heap.size ≤ wr.heap.size ∧ d.length ≤ 8)
  case atStart => exact ⟨[], _, true, none, 0, rfl, Lib.hid (.inl ⟨rfl, 9, by omega, by rw [f3.out]; exact a3.out⟩), h8, Own1.nil _ _ _, q7, k13, by have := q7.lt; omega, by simp⟩
  case round =>
    clear h8 q7 k13
    obtain ⟨d, i, b, TA, tc, rfl, hcase, hb, ho, q, hk, hws, hd8⟩ := hrel
    cases b with
    | false =>
      obtain ⟨hxd, hil⟩ : ts = d ∧ l.drop i = l4 := by
        rcases hcase.out with ⟨h0, _⟩ | ⟨_, h⟩
        · cases h0
        · exact h
      obtain ⟨x4, e4, x41, x42⟩ := must_inv a4
      obtain ⟨g4, f4⟩ := drop_head (hil.trans e4)
      obtain ⟨x5, e5, x51, x52⟩ := must_inv a5
      obtain ⟨g5, f5⟩ := drop_head (f4.trans e5)
      obtain ⟨x6, e6, hse, x61, x62⟩ := name_inv a6
      obtain ⟨g6, f6⟩ := drop_head (f5.trans e6)
      obtain ⟨x7, e7, x71, x72⟩ := must_inv a8
      obtain ⟨g7, f7⟩ := drop_head (f6.trans e7)
      obtain ⟨x8, e8, x81, x82⟩ := must_inv a9
      obtain ⟨g8, f8⟩ := drop_head (f7.trans e8)
      obtain ⟨x9, e9, hste, x91, x92⟩ := name_inv a10
      obtain ⟨g9, f9⟩ := drop_head (f8.trans e9)
      obtain ⟨x10, e10, x101, x102⟩ := must_inv a11
      obtain ⟨g10, f10⟩ := drop_head (f9.trans e10)
      have ht6 := htx x6 (List.mem_of_getElem? g6)
      have ht9 := htx x9 (List.mem_of_getElem? g9)
      have hlast := (List.getElem?_eq_some_iff.1 g10).1
      replace f10 := Lib.hid f10
      have hf2 := field_lx2 x6.kind x6.text x6.at'
      have hN6 := Lib.hid (fun (r : RS) (W' : World) (h : RBox rb r l W') (g : l[r.at']? = some x6) => name_any h g false x61 x62 ht6)
      have hN9 := Lib.hid (fun (r : RS) (W' : World) (h : RBox rb r l W') (g : l[r.at']? = some x9) => name_any h g true x91 x92 ht9)
      have hM4 := Lib.hid (fun (r : RS) (W' : World) (h : RBox rb r l W') (g : l[r.at']? = some x4) => must_any h g 3 sgSemi x41 x42)
      have hM5 := Lib.hid (fun (r : RS) (W' : World) (h : RBox rb r l W') (g : l[r.at']? = some x5) => must_any h g 1 _ x51 x52)
      have hM7 := Lib.hid (fun (r : RS) (W' : World) (h : RBox rb r l W') (g : l[r.at']? = some x7) => must_any h g 3 sgSemi x71 x72)
      have hM8 := Lib.hid (fun (r : RS) (W' : World) (h : RBox rb r l W') (g : l[r.at']? = some x8) => must_any h g 1 _ x81 x82)
      have hM10 := Lib.hid (fun (r : RS) (W' : World) (h : RBox rb r l W') (g : l[r.at']? = some x10) => must_any h g 3 sgSemi x101 x102)
      replace hse := Lib.hid hse
      replace hste := Lib.hid hste
      replace hxd := Lib.hid hxd
      replace g4 := Lib.hid g4
      replace g5 := Lib.hid g5
      replace g6 := Lib.hid g6
      replace g7 := Lib.hid g7
      replace g8 := Lib.hid g8
      replace g9 := Lib.hid g9
      replace g10 := Lib.hid g10
      replace a7 := Lib.hid a7
      replace a6 := Lib.hid a6
      replace a10 := Lib.hid a10
      clear a3 a4 a5 a8 a9 a11 hcase hil e4 x41 x42 f4 e5 x51 x52 f5 e6 x61 x62 f6 e7 x71 x72 f7 e8 x81 x82 f8 e9 x91 x92 f9 e10 x101 x102
      go_upto_region 23 with (go_at_call 121; refine (hM4.out _ _ hb g4.out).mono ?_; clear hM4; rintro e w6 ⟨rfl, h2, k2⟩)
      go_upto_region 24 with (go_at_call 121; refine (hM5.out _ _ h2 g5.out).mono ?_; clear hM5; rintro e w7 ⟨rfl, h3, k3⟩)
      have k4 := k2.trans k3
      have hP := Lib.hid (peek_any h3 g6.out)
      go_upto_region 25 with (go_at_call 126; refine hP.out.mono ?_; clear hP; rintro e w8 ⟨rfl, hb8⟩)
      obtain ⟨h4, k5⟩ := h3.keep hb8
      go_upto_region 26 with (go_at_call 127; refine (hN6.out _ _ h4 g6.out).mono ?_; clear hN6; rintro e w9 ⟨rfl, h5, k6⟩; have c8 := h5.1.cell 8; have z8 := h5.1.frozen 8; simp only [List.getElem?_toArray, List.getElem?_cons_zero, List.getElem?_cons_succ] at c8)
      have k7 := (hk.trans k4).trans (k5.trans k6)
      have o2 := ((k4.trans (k5.trans k6)).own1 ho hbase)
      have q2 := ((k4.trans (k5.trans k6)).blk q (by omega))
      have hws2 := Nat.le_trans hws (k4.trans (k5.trans k6)).1.size
      have h6 := h5.put8 x6.text
      have k8 := k7.set 8 (.string x6.text)
      have o3 := ((Keep.refl rb w9).set 8 (.string x6.text)).own1 o2 hbase
      have q3 := q2.far (p := ⟨rb, 8, none⟩) (by show W.heap.size ≠ rb; omega) (.string x6.text)
      have hws3 : W1.heap.size ≤ (w9.setCell ⟨rb, 8, none⟩ (.string x6.text)).heap.size := by simp; exact hws2
      clear h2 h3 h4 h5 hb ho q hk k2 k3 k4 k5 k6 k7 hb8 c8 z8 o2 q2 hws hws2 hf2
      generalize w9.setCell ⟨rb, 8, none⟩ (.string x6.text) = W9 at *
      have hse7 : hasN x6.text d = false := by rw [← hse.out, ← hxd.out]; exact a7.out
      have hA := Lib.hid (fun (p : KeptBy W9) => hasv_any (o3.rdv.step p.kept) x6.text (by omega))
      rw [hse7] at hA
      clear hse7
      have c7 := h6.1.cell 7
      have c8 := h6.1.cell 8
      simp only [List.getElem?_toArray, List.getElem?_cons_zero, List.getElem?_cons_succ] at c7 c8
      have k7 := cell_kept c7
      have k8' := cell_kept c8
      clear c7 c8
      refine wp_region_kept (by kernel_rfl) (by kernel_rfl) ?_
      repeat (go_big_quiet_step ((go_at_call 128; exact Calls.kept_same (hA.out _))))
      refine wpQuiet_nil ?_
      rintro _ ⟨p, rfl⟩
      obtain ⟨h7, k9⟩ := h6.keep p.kept
      have o4 := o3.step p.kept
      have q4 := q3.step p.kept
      have k10 := k8.trans k9
      have hws4 := Nat.le_trans hws3 k9.1.size
      clear h6 o3 q3 k8 k9 hws3 k7 k8' hA
      generalize p.world = W10 at *
      go_upto_region 29 with (go_at_call 121; refine (hM7.out _ _ h7 g7.out).mono ?_; clear hM7; rintro e w11 ⟨rfl, h8, k11⟩)
      go_upto_region 30 with (go_at_call 121; refine (hM8.out _ _ h8 g8.out).mono ?_; clear hM8; rintro e w12 ⟨rfl, h9, k12⟩)
      have k13 := k11.trans k12
      have hP := Lib.hid (peek_any h9 g9.out)
      go_upto_region 31 with (go_at_call 126; refine hP.out.mono ?_; clear hP; rintro e w13 ⟨rfl, hb13⟩)
      obtain ⟨h10, k14⟩ := h9.keep (bAlc hb13 (.cells #[.int .i64 x9.kind, .string x9.text, .int .i64 x9.at'] 124))
      have p10 : Blk (w13.alloc (.cells #[.int .i64 x9.kind, .string x9.text, .int .i64 x9.at'] 124)) w13.heap.size 124 #[.int .i64 x9.kind, .string x9.text, .int .i64 x9.at'] := Blk.new _ _ _
      have k15 := k13.trans k14
      have q5 := k15.blk q4 (by omega)
      have o5 := k15.own1 o4 hbase
      have hws5 := Nat.le_trans hws4 k13.1.size
      have hg13 := hb13.size
      have k16 := k10.trans k15
      have hqlt := q4.lt
      have hqlt2 := k13.1.size
      clear h7 h8 h9 k11 k12 k13 k14 k15 q4 o4 hws4 k10 hb13
      generalize w13.alloc (.cells #[.int .i64 x9.kind, .string x9.text, .int .i64 x9.at'] 124) = W13 at *
      generalize w13.heap.size = gs at *
      go_upto_region 32 with (go_at_call 127; refine (hN9.out _ _ h10 g9.out).mono ?_; clear hN9; rintro e w14 ⟨rfl, h11, k17⟩; have c9 := h11.1.cell 9; have z9 := h11.1.frozen 9; simp only [List.getElem?_toArray, List.getElem?_cons_zero, List.getElem?_cons_succ] at c9)
      have p11 := (k17.blk p10 (by omega)).far (p := ⟨rb, 9, none⟩) (by show gs ≠ rb; omega) (.string x9.text)
      have q6 := (k17.blk q5 (by omega)).far (p := ⟨rb, 9, none⟩) (by show W.heap.size ≠ rb; omega) (.string x9.text)
      have o6 := ((Keep.refl rb w14).set 9 (.string x9.text)).own1 (k17.own1 o5 hbase) hbase
      have h12 := h11.put9 x9.text
      have k18 := (k16.trans k17).set 9 (.string x9.text)
      clear h10 h11 k16 k17 p10 q5 o5 c9 z9
      generalize w14.setCell ⟨rb, 9, none⟩ (.string x9.text) = W14 at *
      go_upto_region 33 with (go_at_call 121; refine (hM10.out _ _ h12 g10.out).mono ?_; clear hM10; rintro e w15 ⟨rfl, h13, k19⟩)
      have p12 := k19.blk p11 (by omega)
      have q7 := k19.blk q6 (by omega)
      have o7 := k19.own1 o6 hbase
      have k20 := k18.trans k19
      clear h12 k18 k19 p11 q6 o6
      have d0 := p12.cell 0
      have d1 := p12.cell 1
      have d2 := p12.cell 2
      have b0 := q7.cell 0
      have b1 := q7.cell 1
      have b2 := q7.cell 2
      have y0 := q7.frozen 0
      have y1 := q7.frozen 1
      have y2 := q7.frozen 2
      simp only [List.getElem?_toArray, List.getElem?_cons_zero, List.getElem?_cons_succ] at d0 d1 d2 b0 b1 b2
      go_wp2_with fail
      refine bodyPost_ret (results_cell_row rfl _ _ _ 124 _ (0, 0) _ rfl (((q7.put 0 _).put 1 _).put 2 _) under124 rfl size124) rfl ?_
      have hle : W1.heap.size ≥ W.heap.size := by omega
      refine hR.out x9 (.slice TA d.length tc) (i + 1 + 1 + 1 + 1 + 1 + 1 + 1) _ hste.out.symm f10.out (by omega) ?_ ?_ ?_
      · rw [hse.out, hste.out]
        exact ((h13.set (p := ⟨W.heap.size, 0, none⟩) hrl _).set (p := ⟨W.heap.size, 1, none⟩) hrl _).set (p := ⟨W.heap.size, 2, none⟩) hrl _
      · rw [hxd.out]
        exact (((o7.far (p := ⟨W.heap.size, 0, none⟩) (by show W.heap.size < _; omega) _).far (p := ⟨W.heap.size, 1, none⟩) (by show W.heap.size < _; omega) _).far (p := ⟨W.heap.size, 2, none⟩) (by show W.heap.size < _; omega) _).mono hle
      · exact ((k20.far (p := ⟨W.heap.size, 0, none⟩) (Nat.le_refl _) (Nat.le_of_lt hrl) _).far (p := ⟨W.heap.size, 1, none⟩) (Nat.le_refl _) (Nat.le_of_lt hrl) _).far (p := ⟨W.heap.size, 2, none⟩) (Nat.le_refl _) (Nat.le_of_lt hrl) _
    | true =>
      obtain ⟨f, hf, hal⟩ : ∃ f, f < gk ∧ toksF f d (l.drop i) = some (ts, l4) := by
        rcases hcase.out with ⟨_, h⟩ | ⟨h0, _⟩
        · exact h
        · cases h0
      obtain ⟨f', y, l', rfl, hy0, hy1, hy2, hy3, hn8, hal2⟩ := toks_inv hal
      obtain ⟨g4, f4⟩ := drop_head hy0
      have hyt := htx y (List.mem_of_getElem? g4)
      have hP := Lib.hid (peek_any hb g4)
      have hO := Lib.hid (ok_any hb)
      have hf2 := field_lx2 y.kind y.text y.at'
      have hn8b : ((d.length : Int) == 8) = false := by simp; omega
      have hdl : (strs d).length ≤ 100 := by simp [strs]; omega
      have hN0 := Lib.hid (fun (W' : World) (h : RBox rb { r with at' := i, k := k, T := .slice TA d.length tc } l W') => name_any h g4 false hy1 hy2 hyt)
      clear hy1 hy2
      replace hal := Lib.hid hal
      replace hal2 := Lib.hid hal2
      replace hn8 := Lib.hid hn8
      replace f4 := Lib.hid f4
      clear hy0 hcase
      go_upto_region 16 with (first
        | (go_at_call 88; refine hO.out.mono ?_; clear hO; rintro e w6 ⟨rfl, rfl⟩)
        | (go_at_call 126; refine hP.out.mono ?_; clear hP; rintro e w6 ⟨rfl, hb6⟩))
      obtain ⟨h2, k2⟩ := hb.keep hb6
      have o2 := ho.step hb6
      have q2 := q.step hb6
      have k3 := hk.trans k2
      have hws2 := Nat.le_trans hws hb6.size
      clear hb ho q hk k2 hb6 hf2 hws
      have hN := Lib.hid (hN0.out _ h2)
      go_upto_region 17 with (go_at_call 127; refine hN.out.mono ?_; clear hN; rintro e w7 ⟨rfl, h3, k4⟩)
      have o3 := k4.own1 o2 hbase
      have q3 := k4.blk q2 (by omega)
      have k5 := k3.trans k4
      have hws3 := Nat.le_trans hws2 k4.1.size
      clear h2 k3 k4 o2 q2 hws2
      have c7 := h3.1.cell 7
      have z7 := h3.1.frozen 7
      simp only [List.getElem?_toArray, List.getElem?_cons_zero, List.getElem?_cons_succ] at c7
      have hH := Lib.hid (hasv_any o3.rdv y.text (by omega))
      rw [hy3] at hH
      go_upto_region 21 with (go_at_call 128; refine hH.out.mono ?_; clear hH; rintro e w8 ⟨rfl, rfl⟩)
      go_upto_region 14 with (at_builtin; refine wpList_join1 _ rfl _ _ 22 rfl W1.heap.size 9 _ 16 under23 info9 rfl _ _ rfl (o3.alloc _) _ _ 1 1 [.string y.text] rfl (rd_blk (Blk.new _ _ _)) (by simp [Value.oneCell']) (by omega) (by simp) (by simp; omega) ?_; intro v' w9 hown1 hg1 hat1 hb1; rw [strs_snoc] at hown1; obtain ⟨TA2, tc2, e2⟩ := own_sl hown1; rw [List.length_append, List.length_singleton] at e2; subst e2; have h4 := (h3.step (bAlc (Below.refl _ _) (.cells #[.string y.text] 9))).low (hb1 (w7.alloc (.cells #[.string y.text] 9)) (Below.refl _ _)) hbase; have c7' := h4.1.cell 7; have z7' := h4.1.frozen 7; simp only [List.getElem?_toArray, List.getElem?_cons_zero, List.getElem?_cons_succ] at c7')
      have hB := hb1 w7 ((Below.refl _ _).alloc hws3 _)
      have h5 := h4.put7 (.slice TA2 (d.length + 1) tc2)
      have q4 := (q3.below hB (by omega)).far (p := ⟨rb, 7, none⟩) (by show W.heap.size ≠ rb; omega) (.slice TA2 (d.length + 1) tc2)
      have k6 := (k5.then (hB.mono (by omega)) (by omega)).set 7 (.slice TA2 (d.length + 1) tc2)
      have o4 : Own1 (w9.setCell ⟨rb, 7, none⟩ (.slice TA2 (d.length + 1) tc2)) W1.heap.size 9 (.slice TA2 (d.length + 1) tc2) (strs (d ++ [y.text])) := ((Keep.refl rb w9).set 7 _).own1 hown1 hbase
      have hws4 : W1.heap.size ≤ (w9.setCell ⟨rb, 7, none⟩ (.slice TA2 (d.length + 1) tc2)).heap.size := by simp; exact Nat.le_trans hws3 hB.size
      clear h3 h4 c7 z7 c7' z7' q3 k5 o3 hws3 hown1 hg1 hat1 hb1 hB
      generalize w9.setCell ⟨rb, 7, none⟩ (.slice TA2 (d.length + 1) tc2) = W9 at *
      obtain ⟨b, hbe⟩ : ∃ b, b = (nextF sgComma l').1 := ⟨_, rfl⟩
      have hN := Lib.hid (next_any h5 sgComma b (by rw [hbe]; show _ = (nextF sgComma (l.drop (i + 1))).1; rw [f4.out]))
      replace hbe := Lib.hid hbe
      go_wp2_with (go_at_call 125; refine hN.out.mono ?_; clear hN; rintro e w10 ⟨rfl, h6, k7⟩)
      go_roundg (f' + 1)
      case measure => omega
      case rel =>
        refine ⟨d ++ [y.text], _, b, TA2, tc2, rfl, Lib.hid ?_, by rw [List.length_append, List.length_singleton]; exact h6, by rw [List.length_append, List.length_singleton]; exact k7.own1 o4 hbase, k7.blk q4 (by omega), k6.trans k7, Nat.le_trans hws4 k7.1.size, by have := hn8.out; simp; omega⟩
        rcases hal2.out with ⟨e1, e2⟩ | ⟨e1, e2, e3⟩
        · have hbt : b = true := hbe.out.trans e1
          refine .inl ⟨hbt, f', by omega, ?_⟩
          rw [next_true e1, ← f4.out, List.drop_drop] at e2
          rw [if_pos hbt]
          exact e2
        · have hbf : b = false := hbe.out.trans e1
          refine .inr ⟨hbf, e2, ?_⟩
          rw [next_false e1, ← f4.out] at e3
          rw [if_neg (by rw [hbf]; decide)]
          exact e3.symm
end
end Go.Proofs.YtnnkfgekiaaehaaGreat

/- The reader of the reference (layer 8): Parse. -/
namespace Go.Proofs.YtnnkfgekiaaehaaGreat
open Go.ChangeShapes Go.WideShapes Go.ChangeAt Go.RowKit
set_option linter.unusedVariables false
theorem lex_facts {s : ByteArray} : ∀ (f i : Nat) (l : List Lx), i ≤ s.size → lexF s f i = some l → l.length < f ∧ ∀ x ∈ l, x.text.size ≤ s.size
  | 0, i, l, _, h => by simp [lexF] at h
  | f + 1, i, l, hi, h => by
    have hle := (span_le blankI s s.size i hi).1
    unfold lexF at h
    split at h
    · injection h with h; subst h; exact ⟨by simp, by simp⟩
    · rename_i hne
      split at h
      · cases h
      · rename_i k n h2
        split at h
        · cases h
        · rename_i m h3
          injection h with h
          subst h
          have hn := (begB_le (by rw [ByteArray.size_extract]; omega) h2).1
          rw [ByteArray.size_extract] at hn
          obtain ⟨h4, h5⟩ := lex_facts f _ m (by omega) h3
          refine ⟨by simp; omega, ?_⟩
          intro x hx
          rcases List.mem_cons.1 hx with rfl | hx
          · show ((s.extract _ s.size).extract 0 n).size ≤ s.size
            rw [ByteArray.size_extract, ByteArray.size_extract]; omega
          · exact h5 x hx
theorem rules_inv {f : Nat} {d rs : List Rule} {l : List Lx} (h : rulesF f d l = some rs) : ∃ f' x m, f = f' + 1 ∧ ruleF d l = some (x, m) ∧ ((m = [] ∧ rs = d ++ [x]) ∨ (m ≠ [] ∧ rulesF f' (d ++ [x]) m = some rs)) := by
  cases f with
  | zero => simp [rulesF] at h
  | succ f =>
    unfold rulesF at h
    cases hr : ruleF d l with
    | none => rw [hr] at h; cases h
    | some q =>
      obtain ⟨x, m⟩ := q
      rw [hr] at h
      refine ⟨f, x, m, rfl, rfl, ?_⟩
      cases m with
      | nil => injection h with h; exact .inl ⟨rfl, h.symm⟩
      | cons y m => exact .inr ⟨by simp, h⟩
theorem alts_len {az : List (List ByteArray)} {m : List Lx} : ∀ {f n : Nat} {d : List (List ByteArray)} {l : List Lx}, altsF f n d l = some (az, m) → n ≤ 24 → n + (az.length - d.length) ≤ 24 ∧ d.length ≤ az.length := by
  intro f
  induction f with
  | zero => intro n d l h; simp [altsF] at h
  | succ f ih =>
    intro n d l h hn
    obtain ⟨f', a, l', h1, h2, h3, h4⟩ := alts_inv h
    injection h1 with h1; subst h1
    rcases h4 with ⟨_, h5⟩ | ⟨_, rfl, _⟩
    · obtain ⟨a, b⟩ := ih h5 (by omega)
      simp at a b
      exact ⟨by omega, by omega⟩
    · simp; omega
theorem rule_alts {d : List Rule} {l m : List Lx} {x : Rule} (h : ruleF d l = some (x, m)) (hn : nAlts d ≤ 24) : nAlts (d ++ [x]) ≤ 24 ∧ d.length ≠ 8 := by
  obtain ⟨y, z, l1, l2, l3, _, _, _, _, _, h8, _, h9, _, _⟩ := rule_inv h
  have := (alts_len h9 hn).1
  rw [nAlts_snoc]
  simp at this
  exact ⟨by omega, h8⟩
theorem toks_len {ts : List ByteArray} {m : List Lx} : ∀ {f : Nat} {d : List ByteArray} {l : List Lx}, toksF f d l = some (ts, m) → d.length ≤ 8 → ts.length ≤ 8 := by
  intro f
  induction f with
  | zero => intro d l h; simp [toksF] at h
  | succ f ih =>
    intro d l h hd
    obtain ⟨f', y, l', h1, _, _, _, _, h8, h2⟩ := toks_inv h
    injection h1 with h1; subst h1
    rcases h2 with ⟨_, h3⟩ | ⟨_, rfl, _⟩
    · exact ih h3 (by simp; omega)
    · simp; omega
theorem under80 : Tryz.prog.underlying 80 = some (.struct (Tryz.prog.fieldsOf 80)) := by kernel_rfl
theorem size80 : (Tryz.prog.info? 80).map (·.size) = some 5 := by kernel_rfl
theorem results_parse {fn : Func} {p r : Tmp} (h : fn.results = #[.cell p 80, .cell r 82]) (tmps : Array Value) (w : World) (g g' : Nat) (cs ds : Array Value)
    (hp : tmps.getD p undef = .pointer (some ⟨g, 0, none⟩)) (hr : tmps.getD r undef = .pointer (some ⟨g', 0, none⟩)) (h1 : Blk w g 80 cs) (h2 : Blk w g' 82 ds) (s1 : cs.size = 5) (s2 : ds.size = 2) :
    (results fn tmps).run Tryz.prog w = .ok (.tuple #[.agg cs, .agg ds]) w := by
  have hp' : tmps[p]?.getD undef = .pointer (some ⟨g, 0, none⟩) := by simpa using hp
  have hr' : tmps[r]?.getD undef = .pointer (some ⟨g', 0, none⟩) := by simpa using hr
  simp [results, h, hp', hr', asAddr, run_loadVar_row w g 80 80 cs (0, 0) _ h1 under80 rfl (by rw [size80, s1]), run_loadVar_row w g' 82 82 ds (0, 0) _ h2 under82 rfl (by rw [size82, s2])]
def srcV (x : Src) (T R : Value) : Value := .agg #[.int .i64 x.k, T, .string x.sep, .string x.start, R]
def SrcAt (w : World) (S : Nat → Prop) (x : Src) (T R : Value) : Prop := RdX w S T (strsV x.toks) ∧ RdX w S R (rulesV x.rules)
def RetSrc (x : Src) (w : World) (e : Ending) (w' : World) : Prop := ∃ T R, e = .returned (.tuple #[srcV x T R, .agg #[.int .i64 0, .int .i64 0]]) ∧ SrcAt w' (fun b => b < w'.heap.size) x T R ∧ Below w.heap.size w w'
set_option maxRecDepth 100000 in
set_option maxHeartbeats 4000000 in
theorem parse_any (s : ByteArray) (x : Src) (w : World) (h : parseF s = some x) : Calls Tryz.prog 44 #[.string s] w (RetSrc x w) := by
  have hR := Lib.hid (fun (T R : Value) (w' : World) (h1 : SrcAt w' (fun b => b < w'.heap.size) x T R) (h2 : Below w.heap.size w w') => (show RetSrc x w (.returned (.tuple #[srcV x T R, .agg #[.int .i64 0, .int .i64 0]])) w' from ⟨T, R, rfl, h1, h2⟩))
  generalize RetSrc x w = RR at *
  obtain ⟨xk, xts, xsep, xst, xrs⟩ := x
  obtain ⟨hs, l, r', hl, hhd, hru, hkn⟩ : s.size ≤ 2000 ∧ ∃ l r', lexF s (s.size + 1) 0 = some l ∧ headF l = some (xk, xts, xsep, xst, r') ∧ rulesF 9 [] r' = some xrs ∧ knownF ⟨xk, xts, xsep, xst, xrs⟩ r' = true := by
    unfold parseF at h
    by_cases hc : 2000 < s.size
    · rw [if_pos hc] at h; cases h
    · rw [if_neg hc] at h
      refine ⟨by omega, ?_⟩
      cases h1 : lexF s (s.size + 1) 0 with
      | none => rw [h1] at h; cases h
      | some l =>
        rw [h1] at h; dsimp only at h
        cases h2 : headF l with
        | none => rw [h2] at h; cases h
        | some q =>
          obtain ⟨k, ts, sep, st, r⟩ := q
          rw [h2] at h; dsimp only at h
          cases h3 : rulesF 9 [] r with
          | none => rw [h3] at h; cases h
          | some rs =>
            rw [h3] at h; dsimp only at h
            by_cases h4 : knownF ⟨k, ts, sep, st, rs⟩ r = true
            · rw [if_pos h4] at h
              injection h with h
              injection h with e1 e2 e3 e4 e5
              subst e1 e2 e3 e4 e5
              exact ⟨l, r, rfl, h2, h3, h4⟩
            · rw [if_neg h4] at h; cases h
  clear h
  obtain ⟨hll, hlt⟩ := lex_facts _ _ _ (Nat.zero_le _) hl
  have hlm : ∀ x ∈ l, x.text.size ≤ maxLen := fun x hx => by have := hlt x hx; unfold maxLen; omega
  have hLx := Lib.hid (lexemes_any s (s.size + 1) l)
  replace hl := Lib.hid hl
  replace hhd := Lib.hid hhd
  replace hru := Lib.hid hru
  replace hkn := Lib.hid hkn
  have hb0 : Below w.heap.size w ((w.alloc (.cells #[.int .i64 0, .slice none 0 0, .string ⟨#[]⟩, .string ⟨#[]⟩, .slice none 0 0] 80)).alloc (.cells #[.int .i64 0, .int .i64 0] 82)) := bAlc (bAlc (Below.refl _ _) _) _
  have q0 : Blk ((w.alloc (.cells #[.int .i64 0, .slice none 0 0, .string ⟨#[]⟩, .string ⟨#[]⟩, .slice none 0 0] 80)).alloc (.cells #[.int .i64 0, .int .i64 0] 82)) w.heap.size 80 #[.int .i64 0, .slice none 0 0, .string ⟨#[]⟩, .string ⟨#[]⟩, .slice none 0 0] := (Blk.new _ _ _).alloc _
  have p0 : Blk ((w.alloc (.cells #[.int .i64 0, .slice none 0 0, .string ⟨#[]⟩, .string ⟨#[]⟩, .slice none 0 0] 80)).alloc (.cells #[.int .i64 0, .int .i64 0] 82)) (w.heap.size + 1) 82 #[.int .i64 0, .int .i64 0] := Blk.newAt _ _ _ _ (by simp)
  go_enter Tryz.func44, Tryz.ntmps44
  go_upto_region 1 with (fail)
  generalize (w.alloc (.cells #[.int .i64 0, .slice none 0 0, .string ⟨#[]⟩, .string ⟨#[]⟩, .slice none 0 0] 80)).alloc (.cells #[.int .i64 0, .int .i64 0] 82) = W1 at *
  have hL1 := Lib.hid (hLx.out W1 hs hl.out (by omega))
  clear hLx
  go_upto_region 2 with (go_at_call 86; refine hL1.out.mono ?_; clear hL1; rintro e w2 ⟨v, rfl, hv, hb2⟩; obtain ⟨LA, lc, ev, hLr, hlc1, hlc2, hlb⟩ := hv.reads; rw [List.length_map] at ev; subst ev)
  have q2 := (q0.step hb2).alloc (.cells #[.int .i64 0, .int .i64 0] 82)
  have p2 := (p0.step hb2).alloc (.cells #[.int .i64 0, .int .i64 0] 82)
  have hw2 := bAlc (bStep hb0 hb2) (.cells #[.int .i64 0, .int .i64 0] 82)
  have hL2 : RdR (w2.alloc (.cells #[.int .i64 0, .int .i64 0] 82)) w2.heap.size 3 LA l.length (l.map Lx.row) := by
    have := hLr.below (bAlc (Below.refl _ _) (.cells #[.int .i64 0, .int .i64 0] 82))
    rw [List.length_map] at this
    exact this
  have hsz2 : (w2.alloc (.cells #[.int .i64 0, .int .i64 0] 82)).heap.size = w2.heap.size + 1 := by simp
  have hws : w.heap.size + 2 ≤ w2.heap.size := by have := (p0.step hb2).lt; omega
  go_upto_region 4 with (fail)
  clear hLr hlb hv hb2 q0 p0 hb0
  generalize w2.alloc (.cells #[.int .i64 0, .int .i64 0] 82) = W2 at *
  have qb : Blk (W2.alloc (.cells #[.string s, .slice LA l.length lc, .int .i64 0, .int .i64 0, .int .i64 0, .int .i64 0, .int .i64 0, .slice none 0 0, .string ⟨#[]⟩, .string ⟨#[]⟩, .slice none 0 0] 122)) W2.heap.size 122 #[.string s, .slice LA l.length lc, .int .i64 0, .int .i64 0, .int .i64 0, .int .i64 0, .int .i64 0, .slice none 0 0, .string ⟨#[]⟩, .string ⟨#[]⟩, .slice none 0 0] := Blk.new _ _ _
  have hw3 := bAlc hw2 (.cells #[.string s, .slice LA l.length lc, .int .i64 0, .int .i64 0, .int .i64 0, .int .i64 0, .int .i64 0, .slice none 0 0, .string ⟨#[]⟩, .string ⟨#[]⟩, .slice none 0 0] 122)
  have q3 := q2.alloc (.cells #[.string s, .slice LA l.length lc, .int .i64 0, .int .i64 0, .int .i64 0, .int .i64 0, .int .i64 0, .slice none 0 0, .string ⟨#[]⟩, .string ⟨#[]⟩, .slice none 0 0] 122)
  have p3 := p2.alloc (.cells #[.string s, .slice LA l.length lc, .int .i64 0, .int .i64 0, .int .i64 0, .int .i64 0, .int .i64 0, .slice none 0 0, .string ⟨#[]⟩, .string ⟨#[]⟩, .slice none 0 0] 122)
  have h0 : RBox W2.heap.size { text := s, LA := LA, n := l.length, c := lc, at' := 0, alts := 0, k := 0, T := .slice none 0 0, sep := ⟨#[]⟩, start := ⟨#[]⟩, R := .slice none 0 0 } l (W2.alloc (.cells #[.string s, .slice LA l.length lc, .int .i64 0, .int .i64 0, .int .i64 0, .int .i64 0, .int .i64 0, .slice none 0 0, .string ⟨#[]⟩, .string ⟨#[]⟩, .slice none 0 0] 122)) :=
    ⟨qb, (hL2.below (bAlc (Below.refl _ _) _ |>.mono (by omega))).mono (by omega), rfl, by show l.length ≤ 2001; omega⟩
  rw [hsz2] at h0
  go_upto_region 5 with (fail)
  clear hL2 q2 p2 hw2 qb
  generalize W2.alloc (.cells #[.string s, .slice LA l.length lc, .int .i64 0, .int .i64 0, .int .i64 0, .int .i64 0, .int .i64 0, .slice none 0 0, .string ⟨#[]⟩, .string ⟨#[]⟩, .slice none 0 0] 122) = W3 at *
  have hrw : w.heap.size + 2 < w2.heap.size + 1 := by omega
  replace hsz2 := Lib.hid hsz2
  generalize w2.heap.size + 1 = rb at *
  have hH := Lib.hid (head_any h0 (by show headF (l.drop 0) = _; exact hhd.out) rfl hlm)
  have hrl := h0.lt
  clear h0
  go_upto_region 6 with (go_at_call 87; refine hH.out.mono ?_; clear hH; rintro e w4 ⟨y, T, i, rfl, hyt, hdi, hil, h1, ho, hk⟩; replace hyt := Lib.hid hyt; replace hdi := Lib.hid hdi)
  have q4 := hk.blk q3 (by omega)
  have p4 := hk.blk p3 (by omega)
  have hw4 : Below w.heap.size w w4 := hw3.trans (hk.1.mono (by omega))
  have hT4 := ho.rdv
  have hw4s := hk.1.size
  clear hk ho q3 p3 hw3
  have hb5 := bAlc (Below.refl w4.heap.size w4) (.cells #[.int .i64 y.kind, .string y.text, .int .i64 y.at'] 124)
  have y5 : Blk (w4.alloc (.cells #[.int .i64 y.kind, .string y.text, .int .i64 y.at'] 124)) w4.heap.size 124 #[.int .i64 y.kind, .string y.text, .int .i64 y.at'] := Blk.new _ _ _
  have q5 := q4.step hb5
  have p5 := p4.step hb5
  have hw5 := bStep hw4 hb5
  have h5 : SB rb { text := s, LA := LA, n := l.length, c := lc, at' := i, alts := (nAlts [] : Nat), k := xk, T := T, sep := xsep, start := xst, R := .slice none 0 0 } l xts [] (w4.alloc (.cells #[.int .i64 y.kind, .string y.text, .int .i64 y.at'] 124)) :=
    ⟨h1.step hb5, (hT4.step hb5).mono fun b hb => ⟨by simp; omega, by omega, by simp [Value.ownBlock]⟩, OwV.nil _ _ _ _ _⟩
  clear h1 q4 p4 hw4 hT4 hb5
  generalize w4.alloc (.cells #[.int .i64 y.kind, .string y.text, .int .i64 y.at'] 124) = W5 at *
  generalize w4.heap.size = gs at *
  have c2 := h5.1.cells.2.2.1
  go_upto_region 8 with (fail)
  clear c2
  have ht80 : xts.length ≤ 8 := by
    obtain ⟨n, l1, l2, l3, l4, l5, l6, l7, l8, l9, l10, _, _, _, _, _, _, _, _, h3, _⟩ := head_inv hhd.out
    exact toks_len h3 (by simp)
  go_loopg [9] 10 (fun gk s9 wr => ∃ (d : List Rule) (j : Nat) (b : Bool) (R : Value), s9 = .bool b ∧ Hid (((b = true ∨ j < l.length) ∧ ∃ f, f < gk ∧ rulesF f d (l.drop j) = some xrs) ∨ (b = false ∧ l.length ≤ j ∧ d = xrs)) ∧ SB rb { text := s, LA := LA, n := l.length, c := lc, at' := j, alts := (nAlts d : Nat), k := xk, T := T, sep := xsep, start := xst, R := R } l xts d wr ∧
    Blk wr gs 124 #[.int .i64 y.kind, .string y.text, .int .i64 y.at'] ∧ Blk wr w.heap.size 80 #[.int .i64 0, .slice none 0 0, .string ⟨#[]⟩, .string ⟨#[]⟩, .slice none 0 0] ∧ Blk wr (w.heap.size + 1) 82 #[.int .i64 0, .int .i64 0] ∧ Below w.heap.size w wr ∧ (∀ k, R.ownBlock = some k → gs < k) ∧ nAlts d ≤ 24 ∧ d.length ≤ 8)
  case atStart => exact ⟨[], i, true, _, rfl, Lib.hid (.inl ⟨.inl rfl, 9, by omega, by rw [hdi.out]; exact hru.out⟩), h5, y5, q5, p5, hw5, by simp [Value.ownBlock], by simp [nAlts], by simp⟩
  case round =>
    clear h5 y5 q5 p5 hw5
    obtain ⟨d, j, b, R, rfl, hcase, h5, y5, q5, p5, hw5, hRg, hd24, hd8⟩ := hrel
    have hO := Lib.hid (ok_any h5.1)
    have c2 := h5.1.cells.2.2.1
    rcases hcase.out with ⟨hbj, f, hf, hrl2⟩ | ⟨hbf, hjl, hde⟩
    · obtain ⟨f', x, m, rfl, hru1, hru2⟩ := rules_inv hrl2
      have hU := Lib.hid (rule_any h5 hru1 rfl hd24 hd8 hlm)
      obtain ⟨h24', hn8⟩ := rule_alts hru1 hd24
      have hz : b = true ∨ b = false ∧ (j : Int) < l.length := by
        cases b with
        | true => exact .inl rfl
        | false => rcases hbj with h | h
                   · cases h
                   · exact .inr ⟨rfl, by omega⟩
      have hylt := y5.lt
      replace hru2 := Lib.hid hru2
      replace hn8 := Lib.hid hn8
      clear hbj hrl2 hcase hru1
      have hfin : ∀ w', RetRule wr rb { text := s, LA := LA, n := l.length, c := lc, at' := j, alts := (nAlts d : Nat), k := xk, T := T, sep := xsep, start := xst, R := R } l xts d x m (.returned (.tuple #[])) w' → ∃ (d : List Rule) (j : Nat) (R : Value), Hid ((j < l.length ∧ ∃ f, f < f' + 1 ∧ rulesF f d (l.drop j) = some xrs) ∨ (l.length ≤ j ∧ d = xrs)) ∧ SB rb { text := s, LA := LA, n := l.length, c := lc, at' := j, alts := (nAlts d : Nat), k := xk, T := T, sep := xsep, start := xst, R := R } l xts d w' ∧
    Blk w' gs 124 #[.int .i64 y.kind, .string y.text, .int .i64 y.at'] ∧ Blk w' w.heap.size 80 #[.int .i64 0, .slice none 0 0, .string ⟨#[]⟩, .string ⟨#[]⟩, .slice none 0 0] ∧ Blk w' (w.heap.size + 1) 82 #[.int .i64 0, .int .i64 0] ∧ Below w.heap.size w w' ∧ (∀ k, R.ownBlock = some k → gs < k) ∧ nAlts d ≤ 24 ∧ d.length ≤ 8 := by
        rintro w' ⟨_, R', j', g1, g2, g3, g4, g5⟩
        refine ⟨d ++ [x], j', R', Lib.hid ?_, g2, (g4 gs hylt (by omega) (fun e => by have := hRg gs e; omega)).trans y5, q5.below g3 (by omega), p5.below g3 (by omega), hw5.trans (g3.mono (by omega)), fun k hk => ?_, h24', by have := hn8.out; simp; omega⟩
        · rcases hru2.out with ⟨e1, e2⟩ | ⟨e1, e2⟩
          · refine .inr ⟨?_, e2.symm⟩
            rw [e1] at g1
            exact List.drop_eq_nil_iff.1 g1
          · refine .inl ⟨?_, f', by omega, by rw [g1]; exact e2⟩
            have : ¬ l.length ≤ j' := fun h => e1 (by rw [← g1]; exact List.drop_eq_nil_iff.2 h)
            omega
        · rcases g5 k hk with h | h
          · exact hRg k h
          · omega
      replace hfin := Lib.hid hfin
      rcases hz with rfl | ⟨rfl, hz⟩
      · go_wp2_with (first
          | (go_at_call 88; refine hO.out.mono ?_; clear hO; rintro e w6 ⟨rfl, rfl⟩)
          | (go_at_call 89; refine hU.out.mono ?_; clear hU; intro e w7 hr7; have e7 := hr7.1; subst e7))
        obtain ⟨d2, j2, R2, hc2, hrest⟩ := hfin.out _ hr7
        go_roundg (f' + 1)
        case measure => omega
        case rel => exact ⟨d2, j2, false, R2, rfl, Lib.hid (hc2.out.imp (fun h => ⟨.inr h.1, h.2⟩) (fun h => ⟨rfl, h⟩)), hrest⟩
      · go_wp2_with (first
          | (go_at_call 88; refine hO.out.mono ?_; clear hO; rintro e w6 ⟨rfl, rfl⟩)
          | (go_at_call 89; refine hU.out.mono ?_; clear hU; intro e w7 hr7; have e7 := hr7.1; subst e7))
        obtain ⟨d2, j2, R2, hc2, hrest⟩ := hfin.out _ hr7
        go_roundg (f' + 1)
        case measure => omega
        case rel => exact ⟨d2, j2, false, R2, rfl, Lib.hid (hc2.out.imp (fun h => ⟨.inr h.1, h.2⟩) (fun h => ⟨rfl, h⟩)), hrest⟩
    · subst hbf
      subst hde
      have hz : ¬ (j : Int) < l.length := by omega
      have hk := hkn.out
      unfold knownF at hk
      rw [Bool.and_eq_true, List.all_eq_true] at hk
      have hK := Lib.hid (known_any h5 y i (by rw [hyt.out]; exact hk.1) (by rw [hdi.out]; exact hk.2) hd8 ht80 hil)
      clear hk hcase hRg
      have y0 := y5.cell 0
      have y1 := y5.cell 1
      have y2 := y5.cell 2
      simp only [List.getElem?_toArray, List.getElem?_cons_zero, List.getElem?_cons_succ] at y0 y1 y2
      go_upto_region 12 with (go_at_call 88; refine hO.out.mono ?_; rintro e w6 ⟨rfl, rfl⟩)
      go_upto_region 13 with (go_at_call 90; refine hK.out.mono ?_; clear hK; rintro e w7 ⟨rfl, hb7⟩)
      have h8 := h5.step hb7
      have q8 := q5.step hb7
      have p8 := p5.step hb7
      have hw8 := bStep hw5 hb7
      clear h5 q5 p5 y5 y0 y1 y2 hw5 hb7 hO c2
      have hO := Lib.hid (ok_any h8.1)
      obtain ⟨TA, tc, hT, htc1, htc2⟩ := h8.2.1.strs
      obtain ⟨RA, rc, hRv, hrc1, hrc2⟩ := (h8.2.2.reads).len
      dsimp only at hT hRv
      subst hT
      subst hRv
      have c6 := h8.1.1.cell 6
      have c7 := h8.1.1.cell 7
      have c8 := h8.1.1.cell 8
      have c9 := h8.1.1.cell 9
      have c10 := h8.1.1.cell 10
      have b0 := q8.cell 0
      have b1 := q8.cell 1
      have b2 := q8.cell 2
      have b3 := q8.cell 3
      have b4 := q8.cell 4
      have a0 := p8.cell 0
      have a1 := p8.cell 1
      simp only [List.getElem?_toArray, List.getElem?_cons_zero, List.getElem?_cons_succ] at c6 c7 c8 c9 c10 b0 b1 b2 b3 b4 a0 a1
      have f0 := q8.frozen 0
      have f1 := q8.frozen 1
      have f2 := q8.frozen 2
      have f3 := q8.frozen 3
      have f4 := q8.frozen 4
      have f5 := p8.frozen 0
      have f6 := p8.frozen 1
      go_wp2_with (go_at_call 88; refine hO.out.mono ?_; clear hO; rintro e w9 ⟨rfl, rfl⟩)
      refine bodyPost_ret (results_parse rfl _ _ w.heap.size (w.heap.size + 1) #[.int .i64 xk, .slice TA xts.length tc, .string xsep, .string xst, .slice RA d.length rc] #[.int .i64 0, .int .i64 0] rfl (by rfl) ?_ ?_ rfl rfl) rfl ?_
      · exact ((((((q8.put 0 _).put 1 _).put 2 _).put 3 _).put 4 _).far (p := ⟨w.heap.size + 1, 0, none⟩) (by simp) _).far (p := ⟨w.heap.size + 1, 1, none⟩) (by simp) _
      · exact ((((((p8.far (p := ⟨w.heap.size, 0, none⟩) (by simp) _).far (p := ⟨w.heap.size, 1, none⟩) (by simp) _).far (p := ⟨w.heap.size, 2, none⟩) (by simp) _).far (p := ⟨w.heap.size, 3, none⟩) (by simp) _).far (p := ⟨w.heap.size, 4, none⟩) (by simp) _).put 0 _).put 1 _
      · refine hR.out _ _ _ ⟨?_, ?_⟩ ?_
        · refine (((((((h8.2.1.mono (S' := fun b => b < w7.heap.size ∧ rb < b) (fun b hb => ⟨hb.1, hb.2.1⟩)).set (p := ⟨w.heap.size, 0, none⟩) (by show ¬ (_ ∧ rb < w.heap.size); omega)).set (p := ⟨w.heap.size, 1, none⟩) (by show ¬ (_ ∧ rb < w.heap.size); omega)).set (p := ⟨w.heap.size, 2, none⟩) (by show ¬ (_ ∧ rb < w.heap.size); omega)).set (p := ⟨w.heap.size, 3, none⟩) (by show ¬ (_ ∧ rb < w.heap.size); omega)).set (p := ⟨w.heap.size, 4, none⟩) (by show ¬ (_ ∧ rb < w.heap.size); omega)).set (p := ⟨w.heap.size + 1, 0, none⟩) (by show ¬ (_ ∧ rb < w.heap.size + 1); omega)).set (p := ⟨w.heap.size + 1, 1, none⟩) (by show ¬ (_ ∧ rb < w.heap.size + 1); omega) |>.mono fun b hb => by simpa using hb.1
        · refine (((((((h8.2.2.reads' (S' := fun b => b < w7.heap.size ∧ rb < b) (fun b h1 h2 => ⟨h1, h2⟩) (fun b h1 h2 => ⟨h2, h1⟩)).set (p := ⟨w.heap.size, 0, none⟩) (by show ¬ (_ ∧ rb < w.heap.size); omega)).set (p := ⟨w.heap.size, 1, none⟩) (by show ¬ (_ ∧ rb < w.heap.size); omega)).set (p := ⟨w.heap.size, 2, none⟩) (by show ¬ (_ ∧ rb < w.heap.size); omega)).set (p := ⟨w.heap.size, 3, none⟩) (by show ¬ (_ ∧ rb < w.heap.size); omega)).set (p := ⟨w.heap.size, 4, none⟩) (by show ¬ (_ ∧ rb < w.heap.size); omega)).set (p := ⟨w.heap.size + 1, 0, none⟩) (by show ¬ (_ ∧ rb < w.heap.size + 1); omega)).set (p := ⟨w.heap.size + 1, 1, none⟩) (by show ¬ (_ ∧ rb < w.heap.size + 1); omega) |>.mono fun b hb => by simpa using hb.1
        · exact bSet (bSet (bSet (bSet (bSet (bSet (bSet hw8 _ _ (by simp)) _ _ (by simp)) _ _ (by simp)) _ _ (by simp)) _ _ (by simp)) _ _ (by simp)) _ _ (by simp)
end Go.Proofs.YtnnkfgekiaaehaaGreat

/- Check of a source (layer 8's reference), where the source is right. -/
namespace Go.Proofs.YtnnkfgekiaaehaaGreat
open Go.ChangeShapes Go.WideShapes Go.ChangeAt Go.RowKit
set_option linter.unusedVariables false
section
variable {w : World} {S : Nat → Prop}
theorem RdX.ruleS {RA : Option Addr} {n rc : Nat} {l : List Rule} (h : RdX w S (.slice RA n rc) (rulesV l)) {i : Nat} {x : Rule} (hi : l[i]? = some x) :
    ∃ b off UA uc, RA = some ⟨b, off, none⟩ ∧ w.cell? ⟨b, off + i * 2, none⟩ = some (.string x.1) ∧ w.cell? ⟨b, off + i * 2 + 1, none⟩ = some (.slice UA x.2.length uc) ∧ RdX w S (.slice UA x.2.length uc) (.sl 1 (x.2.map altV)) ∧ uc ≤ maxLen ∧ x.2.length ≤ uc := by
  obtain ⟨b, off, c, u, h1, h2, h3, h4, h5⟩ := h.rule hi
  injection h1 with e1 e2 e3
  obtain ⟨UA, uc, rfl, h6, h7⟩ := h5.len
  exact ⟨b, off, UA, uc, e1, h3, h4, h5, h7, h6⟩
theorem RdX.altS {UA : Option Addr} {n uc : Nat} {l : List (List ByteArray)} (h : RdX w S (.slice UA n uc) (.sl 1 (l.map altV))) {i : Nat} {x : List ByteArray} (hi : l[i]? = some x) :
    ∃ b off VA vc, UA = some ⟨b, off, none⟩ ∧ w.cell? ⟨b, off + i, none⟩ = some (.slice VA x.length vc) ∧ RdX w S (.slice VA x.length vc) (strsV x) ∧ vc ≤ maxLen ∧ x.length ≤ vc := by
  obtain ⟨b, off, c, u, h1, h2, h3, h4⟩ := h.alt hi
  injection h1 with e1 e2 e3
  obtain ⟨VA, vc, rfl, h6, h7⟩ := h4.strs
  exact ⟨b, off, VA, vc, e1, h3, h4, h7, h6⟩
theorem RdX.strS {A : Option Addr} {n c : Nat} {l : List ByteArray} (h : RdX w S (.slice A n c) (strsV l)) {i : Nat} {s : ByteArray} (hi : l[i]? = some s) :
    ∃ b off, A = some ⟨b, off, none⟩ ∧ w.cell? ⟨b, off + i, none⟩ = some (.string s) := by
  obtain ⟨b, off, c, h1, h2, h3⟩ := h.str hi
  injection h1 with e1 e2 e3
  exact ⟨b, off, e1, h3⟩
end
structure SrcR (x : Src) : Prop where
  k1 : 1 ≤ x.k
  k4 : x.k ≤ 4
  t0 : x.toks.length ≠ 0
  r0 : x.rules.length ≠ 0
  a0 : ∀ r ∈ x.rules, r.2.length ≠ 0
  t8 : x.toks.length ≤ 8
  r8 : x.rules.length ≤ 8
  n24 : nAlts x.rules ≤ 24
  l6 : ∀ r ∈ x.rules, ∀ a ∈ r.2, a.length ≤ 6
  ts : ∀ s ∈ x.toks, smallB s = true
  rc : ∀ r ∈ x.rules, capB r.1 = true
  an : ∀ r ∈ x.rules, ∀ a ∈ r.2, ∀ s ∈ a, smallB s = true ∨ capB s = true
  ss : smallB x.sep = true
  sc : capB x.start = true
  d1 : (x.toks ++ [x.sep]).Nodup
  d2 : (x.rules.map (·.1)).Nodup
  us : ∀ r ∈ x.rules, ∀ a ∈ r.2, hasN x.sep a = false
  kn : ∀ r ∈ x.rules, ∀ a ∈ r.2, ∀ s ∈ a, hasN s (x.rules.map (·.1)) = true ∨ hasN s x.toks = true
  st : hasN x.start (x.rules.map (·.1)) = true
theorem srcR {x : Src} (h : srcOK x = true) : SrcR x := by
  unfold srcOK at h
  simp only [Bool.and_eq_true, decide_eq_true_eq, List.all_eq_true, Bool.or_eq_true, Bool.not_eq_true', List.isEmpty_eq_false_iff] at h
  obtain ⟨⟨⟨⟨⟨⟨⟨⟨⟨⟨⟨⟨⟨⟨⟨⟨⟨h1, h2⟩, h3⟩, h4⟩, h5⟩, h6⟩, h7⟩, h8⟩, h9⟩, h10⟩, h11⟩, h12⟩, h13⟩, h14⟩, h15⟩, h16⟩, h17⟩, h18⟩ := h
  exact ⟨h1, h2, fun e => h3 (List.eq_nil_of_length_eq_zero e), fun e => h4 (List.eq_nil_of_length_eq_zero e), fun r hr e => h5 r hr (List.eq_nil_of_length_eq_zero e), h6, h7, h8, h9, h10, fun r hr => (h11 r hr).1, fun r hr => (h11 r hr).2, h12, h13, h14, h15, h16, h17, h18⟩
theorem chk_len {s : ByteArray} (h : checkE s = 0) : s.size ≤ maxLen := by
  have hm : 12 ≤ maxLen := by unfold maxLen; omega
  unfold checkE at h
  split at h
  · omega
  · unfold wordE at h
    split at h
    · omega
    · split at h
      · split at h
        · omega
        · omega
      · omega
theorem small_len {s : ByteArray} (h : smallB s = true) : s.size ≤ maxLen := by
  unfold smallB at h; rw [Bool.and_eq_true, decide_eq_true_eq] at h; exact chk_len h.1
theorem cap_len {s : ByteArray} (h : capB s = true) : s.size ≤ maxLen := by
  unfold capB at h; rw [Bool.and_eq_true, decide_eq_true_eq] at h; exact chk_len h.1
theorem SrcR.sizes {x : Src} (h : SrcR x) : ((∀ s ∈ x.toks, s.size ≤ maxLen) ∧ ∀ r ∈ x.rules, r.1.size ≤ maxLen ∧ ∀ a ∈ r.2, ∀ s ∈ a, s.size ≤ maxLen) ∧ x.sep.size ≤ maxLen ∧ x.start.size ≤ maxLen :=
  ⟨⟨fun s hs => small_len (h.ts s hs), fun r hr => ⟨cap_len (h.rc r hr), fun a ha s hs => by
    rcases h.an r hr a ha s hs with h | h
    · exact small_len h
    · exact cap_len h⟩⟩, small_len h.ss, cap_len h.sc⟩
theorem nAlts_take (l : List Rule) (i : Nat) (h : i < l.length) : nAlts (l.take (i + 1)) = nAlts (l.take i) + l[i].2.length := by
  rw [List.take_succ_eq_append_getElem h, nAlts_snoc]
theorem nAlts_le (l : List Rule) (i : Nat) : nAlts (l.take i) ≤ nAlts l := by
  have h1 : nAlts (l.take i ++ l.drop i) = nAlts (l.take i) + nAlts (l.drop i) := by simp only [nAlts, List.map_append, List.sum_append]
  rw [List.take_append_drop] at h1
  omega
section
variable {w : World} {S : Nat → Prop} {k : Int} {toks : List ByteArray} {sep start : ByteArray} {rules : List Rule} {TA RA : Option Addr} {tc rc : Nat}
set_option maxRecDepth 100000 in
set_option maxHeartbeats 4000000 in
theorem short_ok (h : SrcAt w S ⟨k, toks, sep, start, rules⟩ (.slice TA toks.length tc) (.slice RA rules.length rc)) (hx : SrcR ⟨k, toks, sep, start, rules⟩) :
    Calls Tryz.prog 131 #[.agg #[.int .i64 k, .slice TA toks.length tc, .string sep, .string start, .slice RA rules.length rc]] w fun e w' => e = .returned (.bool false) ∧ Below w.heap.size w w' := by
  obtain ⟨hT, hRl⟩ := h
  have hb0 : Below w.heap.size w (w.alloc (.cells #[.int .i64 k, .slice TA toks.length tc, .string sep, .string start, .slice RA rules.length rc] 80)) := bAlc (Below.refl _ _) _
  have q0 : Blk (w.alloc (.cells #[.int .i64 k, .slice TA toks.length tc, .string sep, .string start, .slice RA rules.length rc] 80)) w.heap.size 80 #[.int .i64 k, .slice TA toks.length tc, .string sep, .string start, .slice RA rules.length rc] := Blk.new _ _ _
  replace hT := hT.step hb0
  replace hRl := hRl.step hb0
  have c0 := q0.cell 0
  have c1 := q0.cell 1
  have c2 := q0.cell 2
  have c3 := q0.cell 3
  have c4 := q0.cell 4
  simp only [List.getElem?_toArray, List.getElem?_cons_zero, List.getElem?_cons_succ] at c0 c1 c2 c3 c4
  dsimp only at hT hRl
  have ht0 : ((toks.length : Int) == 0) = false := by have := hx.t0; simpa using this
  have hr0 : ((rules.length : Int) == 0) = false := by have := hx.r0; simpa using this
  have ha0 := Lib.hid hx.a0
  have hr8b : rules.length ≤ 8 := hx.r8
  clear hx
  replace hT := Lib.hid hT
  go_enter Tryz.func131, Tryz.ntmps131
  go_upto_region 2 with (fail)
  generalize w.alloc (.cells #[.int .i64 k, .slice TA toks.length tc, .string sep, .string start, .slice RA rules.length rc] 80) = W1 at *
  go_loopg [3] rules.length (fun gk s3 wr => ∃ i : Nat, wr = W1 ∧ s3 = .int .i64 i ∧ i + gk = rules.length)
  case atStart => exact ⟨0, rfl, rfl, by omega⟩
  case round =>
    obtain ⟨i, rfl, rfl, hi⟩ := hrel
    by_cases hin : i < rules.length
    · have hms : rules.length - (i + 1) < gk ∧ i + 1 + (rules.length - (i + 1)) = rules.length := by omega
      replace hi := Lib.hid hi
      replace hms := Lib.hid hms
      have hxi : rules[i]? = some rules[i] := List.getElem?_eq_getElem hin
      have hrm : rules[i] ∈ rules := List.getElem_mem hin
      obtain ⟨b, off, UA, uc, hA, x0, x1, hU, hu1, hu2⟩ := hRl.ruleS hxi
      subst hA
      have ha : ((rules[i].2.length : Int) == 0) = false := by have := ha0.out _ hrm; simpa using this
      generalize rules[i] = x at *
      replace hxi := Lib.hid hxi
      have hz0 : (0 : Int) ≤ i := by omega
      have hz1 : (i : Int) < rules.length := by omega
      go_wp2_with fail
      go_roundg (rules.length - (i + 1))
      case measure => exact hms.out.1
      case rel => exact ⟨i + 1, rfl, by go_num, hms.out.2⟩
    · go_wp2_with fail
      go_ret
      exact ⟨rfl, hb0⟩
set_option maxRecDepth 100000 in
set_option maxHeartbeats 4000000 in
theorem full_ok (h : SrcAt w S ⟨k, toks, sep, start, rules⟩ (.slice TA toks.length tc) (.slice RA rules.length rc)) (hx : SrcR ⟨k, toks, sep, start, rules⟩) :
    Calls Tryz.prog 132 #[.agg #[.int .i64 k, .slice TA toks.length tc, .string sep, .string start, .slice RA rules.length rc]] w fun e w' => e = .returned (.bool false) ∧ Below w.heap.size w w' := by
  obtain ⟨hT, hRl⟩ := h
  have hb0 : Below w.heap.size w (w.alloc (.cells #[.int .i64 k, .slice TA toks.length tc, .string sep, .string start, .slice RA rules.length rc] 80)) := bAlc (Below.refl _ _) _
  have q0 : Blk (w.alloc (.cells #[.int .i64 k, .slice TA toks.length tc, .string sep, .string start, .slice RA rules.length rc] 80)) w.heap.size 80 #[.int .i64 k, .slice TA toks.length tc, .string sep, .string start, .slice RA rules.length rc] := Blk.new _ _ _
  replace hT := hT.step hb0
  replace hRl := hRl.step hb0
  have c0 := q0.cell 0
  have c1 := q0.cell 1
  have c2 := q0.cell 2
  have c3 := q0.cell 3
  have c4 := q0.cell 4
  simp only [List.getElem?_toArray, List.getElem?_cons_zero, List.getElem?_cons_succ] at c0 c1 c2 c3 c4
  dsimp only at hT hRl
  have ht8 : decide ((8 : Int) < toks.length) = false := decide_eq_false (by have := hx.t8; dsimp only at this; omega)
  have hr8 : decide ((8 : Int) < rules.length) = false := decide_eq_false (by have := hx.r8; dsimp only at this; omega)
  have hr8b : rules.length ≤ 8 := hx.r8
  have hn := hx.n24
  have hl6 := Lib.hid hx.l6
  dsimp only at hn
  clear hx
  replace hT := Lib.hid hT
  go_enter Tryz.func132, Tryz.ntmps132
  go_upto_region 3 with (fail)
  generalize w.alloc (.cells #[.int .i64 k, .slice TA toks.length tc, .string sep, .string start, .slice RA rules.length rc] 80) = W1 at *
  go_loopg [3, 4, 5] rules.length (fun gk s3 s4 s5 wr => ∃ i : Nat, wr = W1 ∧ s3 = .int .i64 (nAlts (rules.take i) : Nat) ∧ s4 = .int .i64 i ∧ i + gk = rules.length)
  case atStart => exact ⟨0, rfl, rfl, rfl, by omega⟩
  case round =>
    obtain ⟨i, rfl, rfl, rfl, hi⟩ := hrel
    have hnl := nAlts_le rules i
    by_cases hin : i < rules.length
    · have hsu := nAlts_take rules i hin
      have hnl2 := nAlts_le rules (i + 1)
      replace hi := Lib.hid hi
      have hxi : rules[i]? = some rules[i] := List.getElem?_eq_getElem hin
      have hrm : rules[i] ∈ rules := List.getElem_mem hin
      obtain ⟨b, off, UA, uc, hA, x0, x1, hU, hu1, hu2⟩ := hRl.ruleS hxi
      subst hA
      have hla := Lib.hid (hl6.out _ hrm)
      generalize rules[i] = x at *
      replace hxi := Lib.hid hxi
      generalize nAlts (rules.take i) = N at *
      have hz0 : (0 : Int) ≤ i := by omega
      have hz1 : (i : Int) < rules.length := by omega
      have hz2 : (i : Int) ≤ 8 := by omega
      have hz3 : (N : Int) + x.2.length ≤ 24 := by omega
      have hal : x.2.length ≤ 24 := by omega
      replace hsu := Lib.hid hsu
      replace hnl := Lib.hid hnl
      replace hnl2 := Lib.hid hnl2
      go_upto_region 7 with (fail)
      generalize wr = wE at *
      go_loopg [5] x.2.length (fun gk s5 wr => ∃ j : Nat, wr = wE ∧ s5 = .int .i64 j ∧ j + gk = x.2.length)
      case atStart => exact ⟨0, rfl, rfl, by omega⟩
      case round =>
        obtain ⟨j, rfl, rfl, hj⟩ := hrel
        by_cases hjn : j < x.2.length
        · have hxj : x.2[j]? = some x.2[j] := List.getElem?_eq_getElem hjn
          obtain ⟨b2, off2, VA, vc, hA2, y0, hV, hv1, hv2⟩ := hU.altS hxj
          subst hA2
          have hl := hla.out _ (List.getElem_mem hjn)
          generalize x.2[j] = a at *
          replace hxj := Lib.hid hxj
          replace hj := Lib.hid hj
          have hz4 : ¬ (6 : Int) < a.length := by omega
          have hz5 : (0 : Int) ≤ j := by omega
          have hz6 : (j : Int) < x.2.length := by omega
          have hz7 : (j : Int) ≤ 24 := by omega
          go_wp2_with fail
          go_roundg (x.2.length - (j + 1))
          case measure => have := hj.out; omega
          case rel => exact ⟨j + 1, rfl, by go_num, by have := hj.out; omega⟩
        · have hz8 : ¬ (j : Int) < x.2.length := by omega
          go_wp2_with fail
          go_roundg (rules.length - (i + 1))
          case measure => have := hi.out; omega
          case rel => exact ⟨i + 1, rfl, by rw [hsu.out]; go_num, by go_num, by have := hi.out; omega⟩
    · have hie : nAlts (rules.take i) = nAlts rules := by rw [List.take_of_length_le (by omega)]
      rw [hie]
      have hz9 : decide ((24 : Int) < nAlts rules) = false := decide_eq_false (by omega)
      clear hnl hie
      generalize nAlts rules = N at *
      go_wp2_with fail
      go_ret
      exact ⟨rfl, hb0⟩
set_option maxRecDepth 100000 in
set_option maxHeartbeats 4000000 in
theorem misnamed_ok (h : SrcAt w S ⟨k, toks, sep, start, rules⟩ (.slice TA toks.length tc) (.slice RA rules.length rc)) (hx : SrcR ⟨k, toks, sep, start, rules⟩) :
    Calls Tryz.prog 133 #[.agg #[.int .i64 k, .slice TA toks.length tc, .string sep, .string start, .slice RA rules.length rc]] w fun e w' => e = .returned (.bool false) ∧ Below w.heap.size w w' := by
  obtain ⟨hT, hRl⟩ := h
  have hb0 : Below w.heap.size w (w.alloc (.cells #[.int .i64 k, .slice TA toks.length tc, .string sep, .string start, .slice RA rules.length rc] 80)) := bAlc (Below.refl _ _) _
  have q0 : Blk (w.alloc (.cells #[.int .i64 k, .slice TA toks.length tc, .string sep, .string start, .slice RA rules.length rc] 80)) w.heap.size 80 #[.int .i64 k, .slice TA toks.length tc, .string sep, .string start, .slice RA rules.length rc] := Blk.new _ _ _
  replace hT := hT.step hb0
  replace hRl := hRl.step hb0
  have c0 := q0.cell 0
  have c1 := q0.cell 1
  have c2 := q0.cell 2
  have c3 := q0.cell 3
  have c4 := q0.cell 4
  simp only [List.getElem?_toArray, List.getElem?_cons_zero, List.getElem?_cons_succ] at c0 c1 c2 c3 c4
  dsimp only at hT hRl
  have ht8 : toks.length ≤ 8 := hx.t8
  have hr8b : rules.length ≤ 8 := hx.r8
  have hts := Lib.hid hx.ts
  have hrc := Lib.hid hx.rc
  have han := Lib.hid hx.an
  have hl6 := Lib.hid hx.l6
  have hn := Lib.hid hx.n24
  have hS := Lib.hid (fun s (hs : s.size ≤ maxLen) W => rsmall_any s W hs)
  have hC := Lib.hid (fun s (hs : s.size ≤ maxLen) W => rcap_any s W hs)
  have hsz := Lib.hid hx.sizes.1
  have hsz2 := Lib.hid hx.sizes.2
  dsimp only at hsz hsz2
  have hss : smallB sep = true := hx.ss
  have hsc : capB start = true := hx.sc
  clear hx
  go_enter Tryz.func133, Tryz.ntmps133
  go_upto_region 2 with (fail)
  generalize w.alloc (.cells #[.int .i64 k, .slice TA toks.length tc, .string sep, .string start, .slice RA rules.length rc] 80) = W1 at *
  go_loopg [3] toks.length (fun gk s3 wr => ∃ i : Nat, wr = W1 ∧ s3 = .int .i64 i ∧ i + gk = toks.length)
  case atStart => exact ⟨0, rfl, rfl, by omega⟩
  case round =>
    obtain ⟨i, rfl, rfl, hi⟩ := hrel
    by_cases hin : i < toks.length
    · have hxi : toks[i]? = some toks[i] := List.getElem?_eq_getElem hin
      obtain ⟨b, off, hA, x0⟩ := hT.strS hxi
      subst hA
      have hsm := hts.out _ (List.getElem_mem hin)
      have hsl := hsz.out.1 _ (List.getElem_mem hin)
      generalize toks[i] = s at *
      have hS1 := Lib.hid (hS.out s hsl wr)
      rw [hsm] at hS1
      replace hxi := Lib.hid hxi
      replace hsm := Lib.hid hsm
      have hz0 : (0 : Int) ≤ i := by omega
      have hz1 : (i : Int) < toks.length := by omega
      replace hi := Lib.hid hi
      go_wp2_with (go_at_call 112; refine hS1.out.mono ?_; clear hS1; rintro e w2 ⟨rfl, rfl⟩)
      go_roundg (toks.length - (i + 1))
      case measure => have := hi.out; omega
      case rel => exact ⟨i + 1, rfl, by go_num, by have := hi.out; omega⟩
    · go_upto_region 7 with (fail)
      clear hin hi
      generalize wr = wE at *
      go_loopg [4, 5, 6, 7] rules.length (fun gk s4 s5 s6 s7 wr => ∃ i : Nat, wr = wE ∧ s4 = .int .i64 i ∧ i + gk = rules.length)
      case atStart => exact ⟨0, rfl, rfl, by omega⟩
      case round =>
        obtain ⟨i, rfl, rfl, hi⟩ := hrel
        by_cases hin : i < rules.length
        · have hxi : rules[i]? = some rules[i] := List.getElem?_eq_getElem hin
          have hrm : rules[i] ∈ rules := List.getElem_mem hin
          obtain ⟨b, off, UA, uc, hA, x0, x1, hU, hu1, hu2⟩ := hRl.ruleS hxi
          subst hA
          have hcp := hrc.out _ hrm
          have hla := Lib.hid (hl6.out _ hrm)
          have hna := Lib.hid (han.out _ hrm)
          have hzl := Lib.hid (hsz.out.2 _ hrm)
          have hn2 : rules[i].2.length ≤ 24 := by
            have h1 := nAlts_take rules i hin
            have h2 := nAlts_le rules (i + 1)
            have h3 := hn.out
            try dsimp only at h3
            omega
          generalize rules[i] = x at *
          have hC1 := Lib.hid (hC.out x.1 hzl.out.1 wr)
          rw [hcp] at hC1
          replace hxi := Lib.hid hxi
          replace hcp := Lib.hid hcp
          have hz0 : (0 : Int) ≤ i := by omega
          have hz1 : (i : Int) < rules.length := by omega
          replace hi := Lib.hid hi
          go_upto_region 12 with (go_at_call 113; refine hC1.out.mono ?_; clear hC1; rintro e w2 ⟨rfl, rfl⟩)
          generalize wr = wE at *
          go_loopg [5, 6, 7] x.2.length (fun gk s5 s6 s7 wr => ∃ j : Nat, wr = wE ∧ s5 = .int .i64 j ∧ j + gk = x.2.length)
          case atStart => exact ⟨0, rfl, rfl, by omega⟩
          case round =>
            obtain ⟨j, rfl, rfl, hj⟩ := hrel
            by_cases hjn : j < x.2.length
            · have hxj : x.2[j]? = some x.2[j] := List.getElem?_eq_getElem hjn
              have ham : x.2[j] ∈ x.2 := List.getElem_mem hjn
              obtain ⟨b2, off2, VA, vc, hA2, y0, hV, hv1, hv2⟩ := hU.altS hxj
              subst hA2
              have hl := hla.out _ ham
              have hnb := Lib.hid (hna.out _ ham)
              have hzb := Lib.hid (hzl.out.2 _ ham)
              generalize x.2[j] = a at *
              replace hxj := Lib.hid hxj
              have hz5 : (0 : Int) ≤ j := by omega
              have hz6 : (j : Int) < x.2.length := by omega
              replace hj := Lib.hid hj
              go_upto_region 15 with (fail)
              generalize wr = wE at *
              go_loopg [6, 7] a.length (fun gk s6 s7 wr => ∃ m : Nat, wr = wE ∧ s6 = .int .i64 m ∧ m + gk = a.length)
              case atStart => exact ⟨0, rfl, rfl, by omega⟩
              case round =>
                obtain ⟨m, rfl, rfl, hm⟩ := hrel
                by_cases hmn : m < a.length
                · have hxm : a[m]? = some a[m] := List.getElem?_eq_getElem hmn
                  obtain ⟨b3, off3, hA3, z0⟩ := hV.strS hxm
                  subst hA3
                  have hsm := hnb.out _ (List.getElem_mem hmn)
                  have hsl := hzb.out _ (List.getElem_mem hmn)
                  generalize a[m] = s at *
                  replace hxm := Lib.hid hxm
                  have hS1 := Lib.hid (hS.out s hsl wr)
                  have hC1 := Lib.hid (hC.out s hsl wr)
                  have hz7 : (0 : Int) ≤ m := by omega
                  have hz8 : (m : Int) < a.length := by omega
                  replace hm := Lib.hid hm
                  replace hsm := Lib.hid hsm
                  cases h1 : smallB s with
                  | true =>
                    rw [h1] at hS1
                    replace h1 := Lib.hid h1
                    clear hC1
                    go_wp2_with (go_at_call 112; refine hS1.out.mono ?_; clear hS1; rintro e w2 ⟨rfl, rfl⟩)
                    go_roundg (a.length - (m + 1))
                    case measure => have := hm.out; omega
                    case rel => exact ⟨m + 1, rfl, by go_num, by have := hm.out; omega⟩
                  | false =>
                    have h2 : capB s = true := by
                      rcases hsm.out with h | h
                      · rw [h1] at h; cases h
                      · exact h
                    rw [h1] at hS1
                    rw [h2] at hC1
                    replace h1 := Lib.hid h1
                    replace h2 := Lib.hid h2
                    go_wp2_with (first
                      | (go_at_call 112; refine hS1.out.mono ?_; clear hS1; rintro e w2 ⟨rfl, rfl⟩)
                      | (go_at_call 113; refine hC1.out.mono ?_; clear hC1; rintro e w2 ⟨rfl, rfl⟩))
                    go_roundg (a.length - (m + 1))
                    case measure => have := hm.out; omega
                    case rel => exact ⟨m + 1, rfl, by go_num, by have := hm.out; omega⟩
                · have hz8 : ¬ (m : Int) < a.length := by omega
                  go_wp2_with fail
                  go_roundg (x.2.length - (j + 1))
                  case measure => have := hj.out; omega
                  case rel => exact ⟨j + 1, rfl, by go_num, by have := hj.out; omega⟩
            · have hz8 : ¬ (j : Int) < x.2.length := by omega
              go_wp2_with fail
              go_roundg (rules.length - (i + 1))
              case measure => have := hi.out; omega
              case rel => exact ⟨i + 1, rfl, by go_num, by have := hi.out; omega⟩
        · have hz8 : ¬ (i : Int) < rules.length := by omega
          have hS1 := Lib.hid (hS.out sep hsz2.out.1 wr)
          have hC1 := Lib.hid (hC.out start hsz2.out.2 wr)
          rw [hss] at hS1
          rw [hsc] at hC1
          replace hss := Lib.hid hss
          replace hsc := Lib.hid hsc
          go_wp2_with (first
            | (go_at_call 112; refine hS1.out.mono ?_; clear hS1; rintro e w2 ⟨rfl, rfl⟩)
            | (go_at_call 113; refine hC1.out.mono ?_; clear hC1; rintro e w2 ⟨rfl, rfl⟩))
          go_ret
          exact ⟨rfl, hb0⟩
set_option maxRecDepth 100000 in
set_option maxHeartbeats 4000000 in
theorem uses_ok (h : SrcAt w S ⟨k, toks, sep, start, rules⟩ (.slice TA toks.length tc) (.slice RA rules.length rc)) (hx : SrcR ⟨k, toks, sep, start, rules⟩) :
    Calls Tryz.prog 135 #[.agg #[.int .i64 k, .slice TA toks.length tc, .string sep, .string start, .slice RA rules.length rc], .string sep] w fun e w' => e = .returned (.bool false) ∧ Below w.heap.size w w' := by
  obtain ⟨hT, hRl⟩ := h
  have hb0 : Below w.heap.size w (w.alloc (.cells #[.int .i64 k, .slice TA toks.length tc, .string sep, .string start, .slice RA rules.length rc] 80)) := bAlc (Below.refl _ _) _
  have q0 : Blk (w.alloc (.cells #[.int .i64 k, .slice TA toks.length tc, .string sep, .string start, .slice RA rules.length rc] 80)) w.heap.size 80 #[.int .i64 k, .slice TA toks.length tc, .string sep, .string start, .slice RA rules.length rc] := Blk.new _ _ _
  replace hT := hT.step hb0
  replace hRl := hRl.step hb0
  have c0 := q0.cell 0
  have c1 := q0.cell 1
  have c2 := q0.cell 2
  have c3 := q0.cell 3
  have c4 := q0.cell 4
  simp only [List.getElem?_toArray, List.getElem?_cons_zero, List.getElem?_cons_succ] at c0 c1 c2 c3 c4
  dsimp only at hT hRl
  have hr8b : rules.length ≤ 8 := hx.r8
  have hus := Lib.hid hx.us
  have hl6 := Lib.hid hx.l6
  have hn := Lib.hid hx.n24
  clear hx
  replace hT := Lib.hid hT
  go_enter Tryz.func135, Tryz.ntmps135
  go_upto_region 2 with (fail)
  generalize w.alloc (.cells #[.int .i64 k, .slice TA toks.length tc, .string sep, .string start, .slice RA rules.length rc] 80) = W1 at *
  go_loopg [5, 6] rules.length (fun gk s5 s6 wr => ∃ i : Nat, wr = W1 ∧ s5 = .int .i64 i ∧ i + gk = rules.length)
  case atStart => exact ⟨0, rfl, rfl, by omega⟩
  case round =>
    obtain ⟨i, rfl, rfl, hi⟩ := hrel
    by_cases hin : i < rules.length
    · have hn2 : rules[i].2.length ≤ 24 := by
        have h1 := nAlts_take rules i hin
        have h2 := nAlts_le rules (i + 1)
        have h3 := hn.out
        try dsimp only at h3
        omega
      replace hi := Lib.hid hi
      have hxi : rules[i]? = some rules[i] := List.getElem?_eq_getElem hin
      have hrm : rules[i] ∈ rules := List.getElem_mem hin
      obtain ⟨b, off, UA, uc, hA, x0, x1, hU, hu1, hu2⟩ := hRl.ruleS hxi
      subst hA
      have hla := Lib.hid (hl6.out _ hrm)
      have hua := Lib.hid (hus.out _ hrm)
      generalize rules[i] = x at *
      replace hxi := Lib.hid hxi
      have hz0 : (0 : Int) ≤ i := by omega
      have hz1 : (i : Int) < rules.length := by omega
      go_upto_region 5 with (fail)
      generalize wr = wE at *
      go_loopg [6] x.2.length (fun gk s6 wr => ∃ j : Nat, wr = wE ∧ s6 = .int .i64 j ∧ j + gk = x.2.length)
      case atStart => exact ⟨0, rfl, rfl, by omega⟩
      case round =>
        obtain ⟨j, rfl, rfl, hj⟩ := hrel
        by_cases hjn : j < x.2.length
        · have hxj : x.2[j]? = some x.2[j] := List.getElem?_eq_getElem hjn
          obtain ⟨b2, off2, VA, vc, hA2, y0, hV, hv1, hv2⟩ := hU.altS hxj
          subst hA2
          have hl := hla.out _ (List.getElem_mem hjn)
          have hh := hua.out _ (List.getElem_mem hjn)
          generalize x.2[j] = a at *
          have hH := Lib.hid (hasv_any hV sep (by omega))
          rw [hh] at hH
          replace hxj := Lib.hid hxj
          replace hh := Lib.hid hh
          replace hj := Lib.hid hj
          have hz5 : (0 : Int) ≤ j := by omega
          have hz6 : (j : Int) < x.2.length := by omega
          go_wp2_with (go_at_call 128; refine hH.out.mono ?_; clear hH; rintro e w2 ⟨rfl, rfl⟩)
          go_roundg (x.2.length - (j + 1))
          case measure => have := hj.out; omega
          case rel => exact ⟨j + 1, rfl, by go_num, by have := hj.out; omega⟩
        · have hz8 : ¬ (j : Int) < x.2.length := by omega
          go_wp2_with fail
          go_roundg (rules.length - (i + 1))
          case measure => have := hi.out; omega
          case rel => exact ⟨i + 1, rfl, by go_num, by have := hi.out; omega⟩
    · have hz8 : ¬ (i : Int) < rules.length := by omega
      go_wp2_with fail
      go_ret
      exact ⟨rfl, hb0⟩
set_option maxRecDepth 100000 in
set_option maxHeartbeats 4000000 in
theorem unknown_ok (h : SrcAt w S ⟨k, toks, sep, start, rules⟩ (.slice TA toks.length tc) (.slice RA rules.length rc)) (hx : SrcR ⟨k, toks, sep, start, rules⟩) :
    Calls Tryz.prog 136 #[.agg #[.int .i64 k, .slice TA toks.length tc, .string sep, .string start, .slice RA rules.length rc]] w fun e w' => e = .returned (.bool false) ∧ Below w.heap.size w w' := by
  obtain ⟨hT, hRl⟩ := h
  have hb0 : Below w.heap.size w (w.alloc (.cells #[.int .i64 k, .slice TA toks.length tc, .string sep, .string start, .slice RA rules.length rc] 80)) := bAlc (Below.refl _ _) _
  have q0 : Blk (w.alloc (.cells #[.int .i64 k, .slice TA toks.length tc, .string sep, .string start, .slice RA rules.length rc] 80)) w.heap.size 80 #[.int .i64 k, .slice TA toks.length tc, .string sep, .string start, .slice RA rules.length rc] := Blk.new _ _ _
  replace hT := hT.step hb0
  replace hRl := hRl.step hb0
  have c0 := q0.cell 0
  have c1 := q0.cell 1
  have c2 := q0.cell 2
  have c3 := q0.cell 3
  have c4 := q0.cell 4
  simp only [List.getElem?_toArray, List.getElem?_cons_zero, List.getElem?_cons_succ] at c0 c1 c2 c3 c4
  dsimp only at hT hRl
  have hr8b : rules.length ≤ 8 := hx.r8
  have ht8 : toks.length ≤ 8 := hx.t8
  have hkn := Lib.hid hx.kn
  have hst : hasN start (rules.map (·.1)) = true := hx.st
  have hl6 := Lib.hid hx.l6
  have hn := Lib.hid hx.n24
  clear hx
  go_enter Tryz.func136, Tryz.ntmps136
  go_upto_region 1 with (fail)
  generalize w.alloc (.cells #[.int .i64 k, .slice TA toks.length tc, .string sep, .string start, .slice RA rules.length rc] 80) = W1 at *
  have hRu2 := Lib.hid (rules_any (T := .slice TA toks.length tc) (k := k) (sep := sep) (st := start) hRl (by omega))
  go_upto_region 2 with (go_at_call 129; refine hRu2.out.mono ?_; clear hRu2; rintro e w3 ⟨vN, rfl, hoN, hb5⟩; obtain ⟨NA, nc, eN⟩ := own_sl hoN; rw [List.length_map] at eN; subst eN)
  have hRN := hoN.rdv
  have hw3 := bStep hb0 hb5
  replace hT := hT.step hb5
  replace hRl := hRl.step hb5
  replace q0 := q0.step hb5
  clear hoN hb5 hb0 c0 c1 c2 c3 c4
  have c1 := q0.cell 1
  have c3 := q0.cell 3
  have c4 := q0.cell 4
  simp only [List.getElem?_toArray, List.getElem?_cons_zero, List.getElem?_cons_succ] at c1 c3 c4
  have hnl : (rules.map (·.1)).length ≤ 1000000 := by simp; omega
  have hHs := Lib.hid (hasv_any hRN start hnl)
  rw [hst] at hHs
  clear hst
  go_upto_region 3 with (fail)
  go_loopg [4, 5, 6, 7] rules.length (fun gk s4 s5 s6 s7 wr => ∃ i : Nat, wr = w3 ∧ s4 = .int .i64 i ∧ i + gk = rules.length)
  case atStart => exact ⟨0, rfl, rfl, by omega⟩
  case round =>
    obtain ⟨i, rfl, rfl, hi⟩ := hrel
    by_cases hin : i < rules.length
    · have hn2 : rules[i].2.length ≤ 24 := by
        have h1 := nAlts_take rules i hin
        have h2 := nAlts_le rules (i + 1)
        have h3 := hn.out
        try dsimp only at h3
        omega
      replace hi := Lib.hid hi
      have hxi : rules[i]? = some rules[i] := List.getElem?_eq_getElem hin
      have hrm : rules[i] ∈ rules := List.getElem_mem hin
      obtain ⟨b, off, UA, uc, hA, x0, x1, hU, hu1, hu2⟩ := hRl.ruleS hxi
      subst hA
      have hla := Lib.hid (hl6.out _ hrm)
      have hka := Lib.hid (hkn.out _ hrm)
      generalize rules[i] = x at *
      replace hxi := Lib.hid hxi
      have hz0 : (0 : Int) ≤ i := by omega
      have hz1 : (i : Int) < rules.length := by omega
      go_upto_region 6 with (fail)
      generalize wr = wE at *
      go_loopg [5, 6, 7] x.2.length (fun gk s5 s6 s7 wr => ∃ j : Nat, wr = wE ∧ s5 = .int .i64 j ∧ j + gk = x.2.length)
      case atStart => exact ⟨0, rfl, rfl, by omega⟩
      case round =>
        obtain ⟨j, rfl, rfl, hj⟩ := hrel
        by_cases hjn : j < x.2.length
        · have hxj : x.2[j]? = some x.2[j] := List.getElem?_eq_getElem hjn
          obtain ⟨b2, off2, VA, vc, hA2, y0, hV, hv1, hv2⟩ := hU.altS hxj
          subst hA2
          have hl := hla.out _ (List.getElem_mem hjn)
          have hkb := Lib.hid (hka.out _ (List.getElem_mem hjn))
          generalize x.2[j] = a at *
          replace hxj := Lib.hid hxj
          replace hj := Lib.hid hj
          have hz5 : (0 : Int) ≤ j := by omega
          have hz6 : (j : Int) < x.2.length := by omega
          go_upto_region 9 with (fail)
          generalize wr = wE at *
          go_loopg [6, 7] a.length (fun gk s6 s7 wr => ∃ m : Nat, wr = wE ∧ s6 = .int .i64 m ∧ m + gk = a.length)
          case atStart => exact ⟨0, rfl, rfl, by omega⟩
          case round =>
            obtain ⟨m, rfl, rfl, hm⟩ := hrel
            by_cases hmn : m < a.length
            · have hxm : a[m]? = some a[m] := List.getElem?_eq_getElem hmn
              obtain ⟨b3, off3, hA3, z0⟩ := hV.strS hxm
              subst hA3
              have hsm := hkb.out _ (List.getElem_mem hmn)
              generalize a[m] = s at *
              replace hxm := Lib.hid hxm
              have hS1 := Lib.hid (hasv_any hRN s hnl)
              have hC1 := Lib.hid (hasv_any hT s (by omega))
              have hz7 : (0 : Int) ≤ m := by omega
              have hz8 : (m : Int) < a.length := by omega
              replace hm := Lib.hid hm
              cases h1 : hasN s (rules.map (·.1)) with
              | true =>
                rw [h1] at hS1
                replace h1 := Lib.hid h1
                replace hsm := Lib.hid hsm
                clear hC1
                go_wp2_with (go_at_call 128; refine hS1.out.mono ?_; clear hS1; rintro e w2 ⟨rfl, rfl⟩)
                go_roundg (a.length - (m + 1))
                case measure => have := hm.out; omega
                case rel => exact ⟨m + 1, rfl, by go_num, by have := hm.out; omega⟩
              | false =>
                have h2 : hasN s toks = true := by
                  rcases hsm with h | h
                  · rw [h1] at h; cases h
                  · exact h
                rw [h1] at hS1
                rw [h2] at hC1
                replace h1 := Lib.hid h1
                replace h2 := Lib.hid h2
                replace hsm := Lib.hid hsm
                go_wp2_with (first
                  | (go_at_call 128; refine hS1.out.mono ?_; clear hS1; rintro e w2 ⟨rfl, rfl⟩)
                  | (go_at_call 128; refine hC1.out.mono ?_; clear hC1; rintro e w2 ⟨rfl, rfl⟩))
                go_roundg (a.length - (m + 1))
                case measure => have := hm.out; omega
                case rel => exact ⟨m + 1, rfl, by go_num, by have := hm.out; omega⟩
            · have hz8 : ¬ (m : Int) < a.length := by omega
              go_wp2_with fail
              go_roundg (x.2.length - (j + 1))
              case measure => have := hj.out; omega
              case rel => exact ⟨j + 1, rfl, by go_num, by have := hj.out; omega⟩
        · have hz8 : ¬ (j : Int) < x.2.length := by omega
          go_wp2_with fail
          go_roundg (rules.length - (i + 1))
          case measure => have := hi.out; omega
          case rel => exact ⟨i + 1, rfl, by go_num, by have := hi.out; omega⟩
    · have hz8 : ¬ (i : Int) < rules.length := by omega
      go_wp2_with (go_at_call 128; refine hHs.out.mono ?_; clear hHs; rintro e w2 ⟨rfl, rfl⟩)
      go_ret
      exact ⟨rfl, hw3⟩
end
end Go.Proofs.YtnnkfgekiaaehaaGreat

/- Check of a source (layer 8's reference): twice; Check, where the source is right. -/
namespace Go.Proofs.YtnnkfgekiaaehaaGreat
open Go.ChangeShapes Go.WideShapes Go.ChangeAt Go.RowKit
set_option linter.unusedVariables false
theorem RdX.takeS {w : World} {S : Nat → Prop} {A : Option Addr} {n c : Nat} {l : List ByteArray} (h : RdX w S (.slice A n c) (strsV l)) (i : Nat) (hi : i ≤ l.length) : RdX w S (.slice A i c) (strsV (l.take i)) := by
  obtain ⟨A', c', e, hc1, hc2⟩ := h.strs
  injection e with e1 e2 e3
  subst e1 e2 e3
  cases i with
  | zero => exact .nil _ _ _ hc2
  | succ i =>
    have h0 : l[0]? = some l[0] := List.getElem?_eq_getElem (by omega)
    obtain ⟨b, off, c5, hv, hS, _⟩ := h.str h0
    injection hv with e1 e2 e3
    subst e1
    refine .sl b off _ c 1 _ (fun i j => .string (l.getD i ⟨#[]⟩)) hS (by simp; omega) (by omega) hc2 (fun r hr => by obtain ⟨s, _, rfl⟩ := List.mem_map.1 hr; rfl) ?_ ?_
    all_goals
      intro i' r j x hr hx
      rw [List.getElem?_map] at hr
      cases hq : (l.take (i + 1))[i']? with
      | none => rw [hq] at hr; cases hr
      | some s =>
        rw [hq] at hr
        simp at hr; subst hr
        have hj : j = 0 := by have := (List.getElem?_eq_some_iff.1 hx).1; simp at this; omega
        subst hj
        simp at hx; subst hx
        rw [List.getElem?_take] at hq
        split at hq
        · first
          | (obtain ⟨b2, off2, c2, hv2, _, hc⟩ := h.str hq
             injection hv2 with e1 e2 e3
             injection e1 with e1
             injection e1 with e4 e5 e6
             subst e4 e5
             rw [Nat.mul_one, Nat.add_zero, hc]
             simp [List.getD_eq_getElem?_getD, hq])
          | (simp only [List.getD_eq_getElem?_getD, hq, Option.getD_some]; exact .one _)
        · cases hq
theorem nodup_has {l : List ByteArray} (h : l.Nodup) {i : Nat} (hi : i < l.length) : hasN l[i] (l.take i) = false := by
  unfold hasN
  rw [List.any_eq_false]
  intro x hx hc
  have hc := of_decide_eq_true hc
  obtain ⟨j, hj, he⟩ := List.getElem_of_mem hx
  rw [List.getElem_take] at he
  have hjl : j < i := by simp at hj; omega
  have := (List.getElem_inj (h₀ := by omega) (h₁ := hi) h).1 (he.trans hc)
  omega
theorem twice_ok {w : World} {S : Nat → Prop} {v : Value} {l : List ByteArray} (h : RdX w S v (strsV l)) (hn : l.length ≤ 1000) (hd : l.Nodup) :
    Calls Tryz.prog 134 #[v] w fun e w' => e = .returned (.bool false) ∧ Below w.heap.size w w' := by
  obtain ⟨A, c, rfl, hc1, hc2⟩ := h.strs
  go_enter Tryz.func134, Tryz.ntmps134
  go_wp2_with fail
  go_loopg [3] l.length (fun gk s3 wr => ∃ i : Nat, Below w.heap.size w wr ∧ s3 = .int .i64 i ∧ i + gk = l.length)
  case atStart => exact ⟨0, Below.refl _ _, rfl, by omega⟩
  case round =>
    obtain ⟨i, hb, rfl, hi⟩ := hrel
    by_cases hin : i < l.length
    · have hr := h.step hb
      have hxi : l[i]? = some l[i] := List.getElem?_eq_getElem hin
      obtain ⟨b, off, hA, x0⟩ := hr.strS hxi
      have hnd := nodup_has hd hin
      have htl : (l.take i).length ≤ 1000000 := by simp; omega
      have htk := hr.takeS i (by omega)
      subst hA
      generalize l[i] = s at *
      replace hxi := Lib.hid hxi
      have hA := Lib.hid (fun (p : KeptBy wr) => hasv_any (htk.step p.kept) s htl)
      rw [hnd] at hA
      have k0 := cell_kept x0
      have hz0 : (0 : Int) ≤ i := by omega
      have hz1 : (i : Int) < l.length := by omega
      have hz2 : (i : Int) ≤ c := by omega
      have hz3 : (i : Int) ≤ 1000 := by omega
      clear x0 hr htk hnd
      replace hi := Lib.hid hi
      replace h := Lib.hid h
      go_upto_region 4 with (fail)
      refine wp_region_kept (by kernel_rfl) (by kernel_rfl) ?_
      repeat (go_big_quiet_step ((go_at_call 128; exact Calls.kept_same (hA.out _))))
      refine wpQuiet_nil ?_
      rintro _ ⟨p, rfl⟩
      have hpk := p.kept
      clear k0 hA
      generalize p.world = W2 at *
      go_wp2_with fail
      go_roundg (l.length - (i + 1))
      case measure => have := hi.out; omega
      case rel => exact ⟨i + 1, bStep hb hpk, by go_num, by have := hi.out; omega⟩
    · have hz8 : ¬ (i : Int) < l.length := by omega
      go_wp2_with fail
      go_ret
      exact ⟨rfl, hb⟩
end Go.Proofs.YtnnkfgekiaaehaaGreat

/- Check of a source (layer 8's reference), where the source is right. -/
namespace Go.Proofs.YtnnkfgekiaaehaaGreat
open Go.ChangeShapes Go.WideShapes Go.ChangeAt Go.RowKit
set_option linter.unusedVariables false
theorem rd1_of {w : World} {S : Nat → Prop} {A : Option Addr} {n c B : Nat} {l : List ByteArray} (h : RdX w S (.slice A n c) (strsV l)) (hS : ∀ b, S b → b < B) : Rd1 w B A n (strs l) := by
  obtain ⟨A', c', e, hc1, hc2⟩ := h.strs
  injection e with e1 e2 e3
  refine ⟨by simp [strs, e2], ?_⟩
  by_cases h0 : n = 0
  · exact .inl h0
  · right
    have hl0 : l[0]? = some l[0] := List.getElem?_eq_getElem (by omega)
    obtain ⟨b, off, c5, hv, hs, _⟩ := h.str hl0
    injection hv with e4 e5 e6
    refine ⟨b, off, e4, hS b hs, fun i v hv => ?_⟩
    cases hi : l[i]? with
    | none => simp [strs, hi] at hv
    | some s =>
      obtain ⟨b2, off2, c2, hv2, _, hc⟩ := h.str hi
      injection hv2 with e7 e8 e9
      rw [e4] at e7
      injection e7 with e7
      injection e7 with e10 e11 e12
      subst e10 e11
      rw [hc]
      simp [strs, hi] at hv
      rw [hv]
section
variable {w : World} {k : Int} {toks : List ByteArray} {sep start : ByteArray} {rules : List Rule} {TA RA : Option Addr} {tc rc : Nat}
set_option maxRecDepth 100000 in
set_option maxHeartbeats 4000000 in
theorem srcCheck_ok (h : SrcAt w (fun b => b < w.heap.size) ⟨k, toks, sep, start, rules⟩ (.slice TA toks.length tc) (.slice RA rules.length rc)) (hx : SrcR ⟨k, toks, sep, start, rules⟩) :
    Calls Tryz.prog 92 #[.agg #[.int .i64 k, .slice TA toks.length tc, .string sep, .string start, .slice RA rules.length rc]] w fun e w' => e = .returned (.int .i64 0) ∧ Below w.heap.size w w' := by
  obtain ⟨hT, hRl⟩ := h
  have hb0 : Below w.heap.size w (w.alloc (.cells #[.int .i64 k, .slice TA toks.length tc, .string sep, .string start, .slice RA rules.length rc] 80)) := bAlc (Below.refl _ _) _
  have q0 : Blk (w.alloc (.cells #[.int .i64 k, .slice TA toks.length tc, .string sep, .string start, .slice RA rules.length rc] 80)) w.heap.size 80 #[.int .i64 k, .slice TA toks.length tc, .string sep, .string start, .slice RA rules.length rc] := Blk.new _ _ _
  replace hT := hT.step hb0
  replace hRl := hRl.step hb0
  have hWs : (w.alloc (.cells #[.int .i64 k, .slice TA toks.length tc, .string sep, .string start, .slice RA rules.length rc] 80)).heap.size = w.heap.size + 1 := by simp
  dsimp only at hT hRl
  have hk1 : ¬ k < 1 := by have := hx.k1; dsimp only at this; omega
  have hk4 : ¬ (4 : Int) < k := by have := hx.k4; dsimp only at this; omega
  have hk1b : decide (k < 1) = false := decide_eq_false hk1
  have hk4b : decide ((4 : Int) < k) = false := decide_eq_false hk4
  go_enter Tryz.func92, Tryz.ntmps92
  go_upto_region 1 with (fail)
  generalize w.alloc (.cells #[.int .i64 k, .slice TA toks.length tc, .string sep, .string start, .slice RA rules.length rc] 80) = W1 at *
  have hC : Hid (∀ X, Below W1.heap.size W1 X → X.cell? ⟨w.heap.size, 0, none⟩ = some (.int .i64 k) ∧ X.cell? ⟨w.heap.size, 1, none⟩ = some (.slice TA toks.length tc) ∧ X.cell? ⟨w.heap.size, 2, none⟩ = some (.string sep) ∧ X.cell? ⟨w.heap.size, 3, none⟩ = some (.string start) ∧ X.cell? ⟨w.heap.size, 4, none⟩ = some (.slice RA rules.length rc)) := Lib.hid fun X hX => by
    have q := q0.step hX
    exact ⟨q.cell 0, q.cell 1, q.cell 2, q.cell 3, q.cell 4⟩
  have hSA : Hid (∀ X, Below W1.heap.size W1 X → SrcAt X (fun b => b < X.heap.size) ⟨k, toks, sep, start, rules⟩ (.slice TA toks.length tc) (.slice RA rules.length rc)) := Lib.hid fun X hX => by
    have hs := hX.size
    exact ⟨(hT.step hX).mono fun b hb => by omega, (hRl.step hX).mono fun b hb => by omega⟩
  have hx' := Lib.hid hx
  clear hx hk1 hk4
  obtain ⟨c0, c1, c2, c3, c4⟩ := hC.out W1 (Below.refl _ _)
  go_upto_region 3 with (fail)
  have hsh := Lib.hid (short_ok (hSA.out W1 (Below.refl _ _)) hx'.out)
  go_upto_region 5 with (go_at_call 131; refine hsh.out.mono ?_; clear hsh; rintro e w3 ⟨rfl, hb3⟩)
  clear c0 c1 c2 c3 c4
  obtain ⟨c0, c1, c2, c3, c4⟩ := hC.out _ hb3
  have hsh := Lib.hid (full_ok (hSA.out _ hb3) hx'.out)
  go_upto_region 7 with (go_at_call 132; refine hsh.out.mono ?_; clear hsh; rintro e w5 ⟨rfl, hb5⟩)
  replace hb5 := bStep hb3 hb5
  clear c0 c1 c2 c3 c4 hb3
  obtain ⟨c0, c1, c2, c3, c4⟩ := hC.out _ hb5
  have hsh := Lib.hid (misnamed_ok (hSA.out _ hb5) hx'.out)
  go_upto_region 9 with (go_at_call 133; refine hsh.out.mono ?_; clear hsh; rintro e w7 ⟨rfl, hb7⟩)
  replace hb7 := bStep hb5 hb7
  clear c0 c1 c2 c3 c4 hb5
  go_cut [21] (fun s21 wx => s21 = .bool false ∧ Below W1.heap.size W1 wx)
  case first =>
    have e1 : Own1 (w7.alloc (.cells #[] 9)).drew W1.heap.size 9 (.slice (some ⟨w7.heap.size, 0, none⟩) 0 0) [] := Own1.emptyAt w7 _ 9 _ rfl hb7.size
    have e2 : Own1 ((w7.alloc (.cells #[] 9)).alloc (.cells #[.string sep] 9)).drew W1.heap.size 9 (.slice (some ⟨w7.heap.size, 0, none⟩) 0 0) [] := (Own1.emptyAt w7 W1.heap.size 9 _ rfl hb7.size).alloc _
    have e3 : Own1 ((w7.alloc (.cells #[.string sep] 9)).alloc (.cells #[] 9)).drew W1.heap.size 9 (.slice (some ⟨w7.heap.size + 1, 0, none⟩) 0 0) [] := Own1.emptyAt (w7.alloc _) _ 9 _ (by simp) (by have := hb7.size; simp; omega)
    have n1 : Below W1.heap.size W1 (w7.alloc (.cells #[] 9)).drew := bDrw (bAlc hb7 _)
    have n2 : Below W1.heap.size W1 ((w7.alloc (.cells #[] 9)).alloc (.cells #[.string sep] 9)).drew := bDrw (bAlc (bAlc hb7 _) _)
    have n3 : Below W1.heap.size W1 ((w7.alloc (.cells #[.string sep] 9)).alloc (.cells #[] 9)).drew := bDrw (bAlc (bAlc hb7 _) _)
    have d2 : Blk ((w7.alloc (.cells #[] 9)).alloc (.cells #[.string sep] 9)).drew (w7.heap.size + 1) 9 #[.string sep] := Blk.newAt (w7.alloc _) _ _ _ (by simp)
    have d3 : Blk ((w7.alloc (.cells #[.string sep] 9)).alloc (.cells #[] 9)).drew w7.heap.size 9 #[.string sep] := (Blk.new w7 9 _).alloc _
    have ne2 : some (w7.heap.size + 1) ≠ some w7.heap.size := by simp
    have ne3 : some w7.heap.size ≠ some (w7.heap.size + 1) := by simp
    have hTd : Hid (∀ X, Below W1.heap.size W1 X → Rd1 X W1.heap.size TA toks.length (strs toks)) := Lib.hid fun X hX => rd1_of (hT.step hX) (fun b hb => by omega)
    have hRu : Hid (∀ X, Below W1.heap.size W1 X → Calls Tryz.prog 129 #[.agg #[.int .i64 k, .slice TA toks.length tc, .string sep, .string start, .slice RA rules.length rc]] X (RetSs X (rules.map (·.1)))) := Lib.hid fun X hX => rules_any (hRl.step hX) (by have := hx'.out.r8; dsimp only at this; omega)
    have ht8 : toks.length ≤ 8 := hx'.out.t8
    have hr8 : rules.length ≤ 8 := hx'.out.r8
    have htw1 : Hid (∀ (X : World) (v : Value), Own1 X W1.heap.size 9 v (strs (toks ++ [sep])) → Calls Tryz.prog 134 #[v] X fun e w' => e = .returned (.bool false) ∧ Below X.heap.size X w') := Lib.hid fun X v h => twice_ok h.rdv (by simp; omega) hx'.out.d1
    have htw2 : Hid (∀ (X Y : World) (v : Value), Own1 X Y.heap.size 9 v (strs (rules.map (·.1))) → Calls Tryz.prog 134 #[v] X fun e w' => e = .returned (.bool false) ∧ Below X.heap.size X w') := Lib.hid fun X Y v h => twice_ok h.rdv (by simp; omega) hx'.out.d2
    have h7s := hb7.size
    have hAll : Hid (∀ X, Below W1.heap.size W1 X → X.cell? ⟨w.heap.size, 0, none⟩ = some (.int .i64 k) ∧ X.cell? ⟨w.heap.size, 1, none⟩ = some (.slice TA toks.length tc) ∧ X.cell? ⟨w.heap.size, 2, none⟩ = some (.string sep) ∧ X.cell? ⟨w.heap.size, 3, none⟩ = some (.string start) ∧ X.cell? ⟨w.heap.size, 4, none⟩ = some (.slice RA rules.length rc) ∧ Below W1.heap.size W1 X) := Lib.hid fun X hX => by
      obtain ⟨c0, c1, c2, c3, c4⟩ := hC.out X hX
      exact ⟨c0, c1, c2, c3, c4, hX⟩
    clear q0 hb0 hT hRl
    go_region_held3 (fun X => X.cell? ⟨w.heap.size, 0, none⟩ = some (.int .i64 k) ∧ X.cell? ⟨w.heap.size, 1, none⟩ = some (.slice TA toks.length tc) ∧ X.cell? ⟨w.heap.size, 2, none⟩ = some (.string sep) ∧ X.cell? ⟨w.heap.size, 3, none⟩ = some (.string start) ∧ X.cell? ⟨w.heap.size, 4, none⟩ = some (.slice RA rules.length rc) ∧ Below W1.heap.size W1 X)
      ((refine hAll.out _ ?_; repeat (first | assumption | (with_reducible refine bAlc ?_ _) | (with_reducible refine bDrw ?_))))
      (first
        | (go_at_call 129; refine (hRu.out _ (by repeat (first | assumption | (with_reducible refine bAlc ?_ _) | (with_reducible refine bDrw ?_)))).mono ?_; rintro e w4 ⟨v4, rfl, ho4, hb4⟩; have hs4 : Below W1.heap.size W1 w4 := bStep (by repeat (first | assumption | (with_reducible refine bAlc ?_ _) | (with_reducible refine bDrw ?_))) hb4)
        | (go_at_call 134; refine (htw2.out _ _ _ ho4).mono ?_; rintro e w5 ⟨rfl, hb5⟩; have hs5 : Below W1.heap.size W1 w5 := bStep hs4 hb5)
        | (go_at_call 134; refine (htw1.out _ _ (by first | exact hown2 | exact hown2.drew)).mono ?_; rintro e w3 ⟨rfl, hb3⟩; have hs3 : Below W1.heap.size W1 w3 := bStep (by first | exact hs2 | exact bDrw hs2) hb3)
        | (refine step_of_wp _ (by rfl) (wp_join1 _ _ _ 22 (by rfl) W1.heap.size 9 _ 16 under23 info9 (by rfl) v1 (strs toks) (by rfl) (by first | exact hown1 | exact hown1.alloc _) _ _ 1 1 [.string sep] (by rfl) (by first | exact rd_blk (Blk.new _ _ _) | exact rd_blk (d2.grown hg1 ne2) | exact rd_blk (d3.grown hg1 ne3)) (by simp [Value.oneCell']) (by simp [strs]; omega) (by simp) (by have := hs1.size; simp; omega) ?_); intro v2 w2 hown2 hg2 hat2 hb2; rw [strs_snoc] at hown2
           have hs2 : Below W1.heap.size W1 w2 := hb2 W1 (by repeat (first | assumption | (with_reducible refine bAlc ?_ _) | (with_reducible refine bDrw ?_))))
        | (refine step_of_wp _ (by rfl) (wp_join1 _ _ _ 22 (by rfl) W1.heap.size 9 _ 16 under23 info9 (by rfl) _ [] (by rfl) (by first | exact e1 | exact e2 | exact e3) W1.heap.size TA toks.length tc (strs toks) (by rfl) (hTd.out _ (by first | exact n1 | exact n2 | exact n3)) strs_one (by simp; omega) (by simp) (by simp; omega) ?_); intro v1 w1 hown1 hg1 hat1 hb1; simp only [List.nil_append] at hown1
           have hs1 : Below W1.heap.size W1 w1 := hb1 W1 (by first | exact n1 | exact n2 | exact n3)))
    all_goals
      go_wp2_with fail
      go_meet
      exact ⟨rfl, hs5⟩
  case rest =>
    obtain ⟨rfl, hb9⟩ := hcut
    obtain ⟨c0, c1, c2, c3, c4⟩ := hC.out _ hb9
    have hsh := Lib.hid (uses_ok (hSA.out _ hb9) hx'.out)
    go_upto_region 13 with (go_at_call 135; refine hsh.out.mono ?_; clear hsh; rintro e w11 ⟨rfl, hb11⟩)
    replace hb11 := bStep hb9 hb11
    clear c0 c1 c2 c3 c4 hb9
    obtain ⟨c0, c1, c2, c3, c4⟩ := hC.out _ hb11
    have hsh := Lib.hid (unknown_ok (hSA.out _ hb11) hx'.out)
    go_wp2_with (go_at_call 136; refine hsh.out.mono ?_; clear hsh; rintro e w13 ⟨rfl, hb13⟩)
    replace hb13 := bStep hb11 hb13
    go_ret
    exact ⟨rfl, hb0.trans (hb13.mono (by omega))⟩
end
end Go.Proofs.YtnnkfgekiaaehaaGreat

/- Productions of the call's own. -/
namespace Go.Proofs.YtnnkfgekiaaehaaGreat
open Go.ChangeShapes Go.WideShapes Go.ChangeAt Go.RowKit
set_option linter.unusedVariables false
def RtAt (W : World) (base : Nat) (RA : Option Addr) (c : Nat) (l : List Int) : Prop :=
  l.length ≤ c ∧ c ≤ maxLen ∧ (l = [] ∨ ∃ b off cs, RA = some ⟨b, off, none⟩ ∧ base ≤ b ∧ Blk W b 3 cs ∧ ∀ (i : Nat) (v : Value), (ints l)[i]? = some v → cs[off + i]? = some v)
theorem RtAt.of {W : World} {base : Nat} {v : Value} {l : List Int} (h : Own1 W base 3 v (ints l)) : ∃ RA c, v = .slice RA l.length c ∧ RtAt W base RA c l := by
  have hl : (ints l).length = l.length := by simp [ints]
  rcases h.2 with ⟨rfl, h0⟩ | ⟨g, cap, cur, rfl, hb, hg, hnc, hcm, hcs, ht⟩
  · have : l = [] := List.eq_nil_of_length_eq_zero (by omega)
    subst this
    exact ⟨none, 0, rfl, Nat.le_refl _, by simp [maxLen], .inl rfl⟩
  · rw [hl] at hnc ⊢
    refine ⟨some ⟨g, 0, none⟩, cap, rfl, hnc, hcm, .inr ⟨g, 0, cur, rfl, hb, hg, fun i x hx => ?_⟩⟩
    have hlt := (List.getElem?_eq_some_iff.1 hx).1
    rw [← ht, List.getElem?_take, if_pos (by omega)] at hx
    rw [Nat.zero_add]
    simpa using hx
theorem RtAt.step {W W' : World} {base : Nat} {RA : Option Addr} {c : Nat} {l : List Int} (h : RtAt W base RA c l) (hb : Below W.heap.size W W') : RtAt W' base RA c l := by
  obtain ⟨h1, h2, h3⟩ := h
  refine ⟨h1, h2, h3.imp id ?_⟩
  rintro ⟨b, off, cs, e, e1, e2, e3⟩
  exact ⟨b, off, cs, e, e1, e2.step hb, e3⟩
theorem RtAt.grown {W W' : World} {base : Nat} {RA : Option Addr} {c : Nat} {l : List Int} {row : Option Nat} (h : RtAt W base RA c l) (hg : W.grownBy W' row) (hne : ∀ g cs, row = some g → ¬ Blk W g 3 cs) : RtAt W' base RA c l := by
  obtain ⟨h1, h2, h3⟩ := h
  refine ⟨h1, h2, h3.imp id ?_⟩
  rintro ⟨b, off, cs, e, e1, e2, e3⟩
  exact ⟨b, off, cs, e, e1, e2.grown hg (fun e' => hne b cs e'.symm e2), e3⟩
theorem RtAt.reads {W : World} {base : Nat} {RA : Option Addr} {c : Nat} {l : List Int} (h : RtAt W base RA c l) : Rd1 W W.heap.size RA l.length (ints l) := by
  refine ⟨by simp [ints], ?_⟩
  rcases h.2.2 with rfl | ⟨b, off, cs, rfl, e1, e2, e3⟩
  · exact .inl rfl
  · exact .inr ⟨b, off, rfl, e2.lt, fun i v hv => by rw [e2.cell]; exact e3 i v hv⟩
def cellsP : List Pr → List (Option Addr × Nat) → List Value
  | p :: ps, r :: rs => .int .i64 p.left :: .slice r.1 p.right.length r.2 :: cellsP ps rs
  | _, _ => []
theorem cellsP_get : ∀ (ps : List Pr) (rs : List (Option Addr × Nat)) (i : Nat) (p : Pr) (r : Option Addr × Nat), ps[i]? = some p → rs[i]? = some r → (cellsP ps rs)[i * 2]? = some (.int .i64 p.left) ∧ (cellsP ps rs)[i * 2 + 1]? = some (.slice r.1 p.right.length r.2)
  | [], _, i, p, r, h, _ => by simp at h
  | _ :: _, [], i, p, r, _, h => by simp at h
  | p0 :: ps, r0 :: rs, 0, p, r, h, h' => by simp at h h'; subst h; subst h'; exact ⟨rfl, rfl⟩
  | p0 :: ps, r0 :: rs, i + 1, p, r, h, h' => by
    have := cellsP_get ps rs i p r (by simpa using h) (by simpa using h')
    rw [show (i + 1) * 2 = i * 2 + 1 + 1 by omega]
    exact this
theorem cellsP_app : ∀ (ps : List Pr) (rs : List (Option Addr × Nat)) (p : Pr) (r : Option Addr × Nat), ps.length = rs.length → cellsP (ps ++ [p]) (rs ++ [r]) = cellsP ps rs ++ [.int .i64 p.left, .slice r.1 p.right.length r.2]
  | [], [], p, r, _ => rfl
  | [], _ :: _, _, _, h => by simp at h
  | _ :: _, [], _, _, h => by simp at h
  | p0 :: ps, r0 :: rs, p, r, h => by
    have := cellsP_app ps rs p r (by simpa using h)
    simp only [List.cons_append, cellsP, this]
def PsR (W : World) (base : Nat) (v : Value) (ps : List Pr) (rs : List (Option Addr × Nat)) : Prop :=
  ps.length = rs.length ∧ W.ownsRow base 47 2 v ps.length (cellsP ps rs) ∧ ∀ (i : Nat) (p : Pr) (r : Option Addr × Nat), ps[i]? = some p → rs[i]? = some r → RtAt W base r.1 r.2 p.right
def PsO (W : World) (base : Nat) (v : Value) (ps : List Pr) : Prop := ∃ rs, PsR W base v ps rs
theorem PsO.nil (W : World) (base : Nat) : PsO W base (.slice none 0 0) [] := ⟨[], rfl, World.ownsRow_nil W base 47 2, by simp⟩
theorem row_step {W W' : World} {base : Nat} {e : TypeId} {size : Nat} {v : Value} {n : Nat} {xs : List Value} (h : W.ownsRow base e size v n xs) (hb : Below W.heap.size W W') : W'.ownsRow base e size v n xs := by
  refine ⟨h.1, ?_⟩
  rcases h.2 with hn | ⟨g, cap, cur, rfl, hg0, hg, rest⟩
  · exact .inl hn
  · exact .inr ⟨g, cap, cur, rfl, hg0, (hb.block g (Array.getElem?_eq_some_iff.1 hg).1).trans hg, rest⟩
theorem row_grown {W W' : World} {base : Nat} {e : TypeId} {size : Nat} {v : Value} {n : Nat} {xs : List Value} {row : Option Nat} (h : W.ownsRow base e size v n xs) (hg : W.grownBy W' row) (hne : ∀ g cs, row = some g → ¬ Blk W g e cs) : W'.ownsRow base e size v n xs := by
  refine ⟨h.1, ?_⟩
  rcases h.2 with hn | ⟨g, cap, cur, rfl, hg0, hg', rest⟩
  · exact .inl hn
  · exact .inr ⟨g, cap, cur, rfl, hg0, (hg.block g (Array.getElem?_eq_some_iff.1 hg').1 (fun e' => hne g cur e'.symm hg')).trans hg', rest⟩
theorem PsO.step {W W' : World} {base : Nat} {v : Value} {ps : List Pr} (h : PsO W base v ps) (hb : Below W.heap.size W W') : PsO W' base v ps := by
  obtain ⟨rs, h1, h2, h3⟩ := h
  exact ⟨rs, h1, row_step h2 hb, fun i p r a b => (h3 i p r a b).step hb⟩
theorem PsO.grown {W W' : World} {base : Nat} {v : Value} {ps : List Pr} {row : Option Nat} (h : PsO W base v ps) (hg : W.grownBy W' row) (h3' : ∀ g cs, row = some g → ¬ Blk W g 3 cs) (h59 : ∀ g cs, row = some g → ¬ Blk W g 47 cs) : PsO W' base v ps := by
  obtain ⟨rs, h1, h2, h3⟩ := h
  exact ⟨rs, h1, row_grown h2 hg h59, fun i p r a b => (h3 i p r a b).grown hg h3'⟩
theorem PsO.mono {W : World} {base b' : Nat} {v : Value} {ps : List Pr} (h : PsO W base v ps) (hb : b' ≤ base) : PsO W b' v ps := by
  obtain ⟨rs, h1, h2, h3⟩ := h
  refine ⟨rs, h1, ⟨h2.1, ?_⟩, fun i p r a b => ?_⟩
  · rcases h2.2 with hn | ⟨g, cap, cur, rfl, hg0, rest⟩
    · exact .inl hn
    · exact .inr ⟨g, cap, cur, rfl, by omega, rest⟩
  · obtain ⟨c1, c2, c3⟩ := h3 i p r a b
    refine ⟨c1, c2, c3.imp id ?_⟩
    rintro ⟨b, off, cs, e, e1, e2, e3⟩
    exact ⟨b, off, cs, e, by omega, e2, e3⟩
theorem own_blk {W : World} {base : Nat} {e : TypeId} {size : Nat} {v : Value} {n : Nat} {xs : List Value} (h : W.ownsRow base e size v n xs) {g : Nat} (hg : v.ownBlock = some g) : ∃ cs, Blk W g e cs := by
  rcases h.2 with ⟨rfl, _⟩ | ⟨g', cap, cur, rfl, _, hb, _⟩
  · simp [Value.ownBlock] at hg
  · simp [Value.ownBlock] at hg; subst hg; exact ⟨cur, hb⟩
theorem blk_type {W : World} {g : Nat} {t t' : TypeId} {cs cs' : Array Value} (h : Blk W g t cs) (h' : Blk W g t' cs') : t = t' := by
  unfold Blk at h h'; rw [h] at h'; injection h' with h'; injection h'
theorem PsO.pushed {W W' : World} {base : Nat} {v v' : Value} {ps : List Pr} {rs : List (Option Addr × Nat)} {p : Pr} {RA : Option Addr} {c : Nat} (h : PsR W base v ps rs) (hr : RtAt W base RA c p.right)
    (h1 : W'.ownsRow base 47 2 v' (ps.length + 1) (cellsP ps rs ++ [.int .i64 p.left, .slice RA p.right.length c])) (h2 : W.grownBy W' v.ownBlock) : PsO W' base v' (ps ++ [p]) := by
  obtain ⟨g1, g2, g3⟩ := h
  have hne : ∀ g cs, v.ownBlock = some g → ¬ Blk W g 3 cs := fun g cs e hb => by
    obtain ⟨cs', hb'⟩ := own_blk g2 e
    have := blk_type hb hb'
    cases this
  refine ⟨rs ++ [(RA, c)], by simp [g1], ?_, ?_⟩
  · rw [cellsP_app ps rs p (RA, c) g1, List.length_append]; exact h1
  · intro i q r hq hr'
    by_cases hi : i < ps.length
    · rw [List.getElem?_append_left hi] at hq
      rw [List.getElem?_append_left (by omega)] at hr'
      exact (g3 i q r hq hr').grown h2 hne
    · have hie : i = ps.length := by have := (List.getElem?_eq_some_iff.1 hq).1; simp at this; omega
      subst hie
      simp at hq
      rw [g1] at hr'
      simp at hr'
      subst hq; subst hr'
      exact hr.grown h2 hne
theorem PsO.reads {W : World} {base : Nat} {v : Value} {ps : List Pr} (h : PsO W base v ps) : ∃ A c, v = .slice A ps.length c ∧ RdP W W.heap.size A ps.length ps ∧ ps.length ≤ c ∧ c ≤ maxLen := by
  obtain ⟨rs, h1, h2, h3⟩ := h
  rcases h2.2 with ⟨rfl, h0⟩ | ⟨g, cap, cur, rfl, hb, hg, hnc, hcm, hcs, ht⟩
  · exact ⟨none, 0, by rw [h0], ⟨rfl, .inl h0⟩, by omega, by simp [maxLen]⟩
  · refine ⟨some ⟨g, 0, none⟩, cap, rfl, ⟨rfl, .inr ⟨g, 0, rfl, (Array.getElem?_eq_some_iff.1 hg).1, fun i p hp => ?_⟩⟩, hnc, hcm⟩
    have hi := (List.getElem?_eq_some_iff.1 hp).1
    have hri : rs[i]? = some rs[i] := List.getElem?_eq_getElem (by omega)
    obtain ⟨d1, d2⟩ := cellsP_get ps rs i p _ hp hri
    rw [← ht, List.getElem?_take, if_pos (by omega)] at d1 d2
    have hr := h3 i p _ hp hri
    refine ⟨?_, _, _, ?_, hr.reads, hr.1, hr.2.1⟩
    · rw [cell_of_row W g _ cur 47 (0, 0) hg, Nat.zero_add]; simpa using d1
    · rw [cell_of_row W g _ cur 47 (0, 0) hg, Nat.zero_add]; simpa using d2
theorem info59 : (Tryz.prog.info? 47).map (fun i => (i.zero, i.size, i.bytes)) = some (some (.agg #[.int .i64 0, .slice none 0 0]), 2, 32) := by kernel_rfl
theorem under24 : Tryz.prog.underlying 23 = some (.slice 47) := by kernel_rfl
end Go.Proofs.YtnnkfgekiaaehaaGreat
