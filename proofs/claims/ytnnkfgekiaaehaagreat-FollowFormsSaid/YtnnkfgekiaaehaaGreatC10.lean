/- Walks and plain laws, part 10 of 10: Of (layer 9's reference), where the source is right: the grammar's first half; The kit's rules; Each of the kit's texts is parsed and right, part 1 of 4; Each of the kit's texts is parsed and right, part 2 of 4; Each of the kit's texts is parsed and right, part 3 of 4; Each of the kit's texts is parsed and right, part 4 of 4; The kit's Grammar; FollowForms, walked at the grammar of a number. Conditions: none beyond those that each theorem states. -/
import Derived.Test.YtnnkfgekiaaehaaGreatC9
import Derived.Laws.IdiomStrings
/- Of (layer 9's reference), where the source is right: the grammar's first half. -/
namespace Go.Proofs.YtnnkfgekiaaehaaGreat
open Go.ChangeShapes Go.WideShapes Go.ChangeAt Go.RowKit
set_option linter.unusedVariables false
def GOwn (g : Gr) (a : GA) (B : Nat) (w' : World) : Prop := Own1 w' B 9 (.slice a.ta g.toks.length a.tc) (strs g.toks) ∧ Own1 w' B 9 (.slice a.na g.names.length a.nc) (strs g.names) ∧ PsO w' B (.slice a.pa g.prods.length a.pc) g.prods
def RetGr (g : Gr) (w : World) (e : Ending) (w' : World) : Prop := ∃ a, e = .returned (.tuple #[gval g a, .int .i64 0]) ∧ GrAt w' w'.heap.size g a ∧ GOwn g a w.heap.size w' ∧ Below w.heap.size w w'
theorem own_eq {w : World} {base : Nat} {e : TypeId} {v v' : Value} {l : List Value} (h : Own1 w base e v l) (hv : v = v') : Own1 w base e v' l := hv ▸ h
theorem own1_rdx {w : World} {base : Nat} {A : Option Addr} {n c : Nat} {l : List ByteArray} (h : Own1 w base 9 (.slice A n c) (strs l)) (hn : n = l.length) : RdX w (fun b => b < w.heap.size) (.slice A l.length c) (strsV l) := by
  subst hn
  exact h.rdv.mono fun b hb => hb.2
theorem results_of {fn : Func} {p q : Tmp} (h : fn.results = #[.cell p 25, .tmp q]) (tmps : Array Value) (w : World) (g : Nat) (cs : Array Value) (v : Value)
    (hp : tmps.getD p undef = .pointer (some ⟨g, 0, none⟩)) (hq : tmps.getD q undef = v) (h1 : Blk w g 25 cs) (s1 : cs.size = 6) :
    (results fn tmps).run Tryz.prog w = .ok (.tuple #[.agg cs, v]) w := by
  have hp' : tmps[p]?.getD undef = .pointer (some ⟨g, 0, none⟩) := by simpa using hp
  have hq' : tmps[q]?.getD undef = v := by simpa using hq
  simp [results, h, hp', hq', asAddr, run_loadVar_row w g 25 25 cs (0, 0) _ h1 under26' rfl (by rw [size26', s1])]
section
variable {w : World} {k : Int} {toks : List ByteArray} {sep start : ByteArray} {rules : List Rule} {TA RA : Option Addr} {tc rc : Nat}
set_option maxRecDepth 100000 in
set_option maxHeartbeats 4000000 in
theorem of_ok (h : SrcAt w (fun b => b < w.heap.size) ⟨k, toks, sep, start, rules⟩ (.slice TA toks.length tc) (.slice RA rules.length rc)) (hx : SrcR ⟨k, toks, sep, start, rules⟩) :
    Calls Tryz.prog 46 #[.agg #[.int .i64 k, .slice TA toks.length tc, .string sep, .string start, .slice RA rules.length rc]] w (RetGr (gOf ⟨k, toks, sep, start, rules⟩) w) := by
  have hR := Lib.hid (fun (a : GA) (w' : World) (h1 : GrAt w' w'.heap.size (gOf ⟨k, toks, sep, start, rules⟩) a) (h3 : GOwn (gOf ⟨k, toks, sep, start, rules⟩) a w.heap.size w') (h2 : Below w.heap.size w w') => (show RetGr (gOf ⟨k, toks, sep, start, rules⟩) w (.returned (.tuple #[gval (gOf ⟨k, toks, sep, start, rules⟩) a, .int .i64 0])) w' from ⟨a, rfl, h1, h3, h2⟩))
  generalize RetGr (gOf ⟨k, toks, sep, start, rules⟩) w = RR at *
  have hb0 : Below w.heap.size w ((w.alloc (.cells #[.int .i64 k, .slice TA toks.length tc, .string sep, .string start, .slice RA rules.length rc] 80)).alloc (.cells #[.int .i64 0, .slice none 0 0, .string ⟨#[]⟩, .slice none 0 0, .int .i64 0, .slice none 0 0] 25)) := bAlc (bAlc (Below.refl _ _) _) _
  have q0 : Blk ((w.alloc (.cells #[.int .i64 k, .slice TA toks.length tc, .string sep, .string start, .slice RA rules.length rc] 80)).alloc (.cells #[.int .i64 0, .slice none 0 0, .string ⟨#[]⟩, .slice none 0 0, .int .i64 0, .slice none 0 0] 25)) w.heap.size 80 #[.int .i64 k, .slice TA toks.length tc, .string sep, .string start, .slice RA rules.length rc] := (Blk.new _ _ _).alloc _
  have z0 : Blk ((w.alloc (.cells #[.int .i64 k, .slice TA toks.length tc, .string sep, .string start, .slice RA rules.length rc] 80)).alloc (.cells #[.int .i64 0, .slice none 0 0, .string ⟨#[]⟩, .slice none 0 0, .int .i64 0, .slice none 0 0] 25)) (w.heap.size + 1) 25 #[.int .i64 0, .slice none 0 0, .string ⟨#[]⟩, .slice none 0 0, .int .i64 0, .slice none 0 0] := Blk.newAt _ _ _ _ (by simp)
  have hWs : ((w.alloc (.cells #[.int .i64 k, .slice TA toks.length tc, .string sep, .string start, .slice RA rules.length rc] 80)).alloc (.cells #[.int .i64 0, .slice none 0 0, .string ⟨#[]⟩, .slice none 0 0, .int .i64 0, .slice none 0 0] 25)).heap.size = w.heap.size + 2 := by simp
  have h0 : SrcAt ((w.alloc (.cells #[.int .i64 k, .slice TA toks.length tc, .string sep, .string start, .slice RA rules.length rc] 80)).alloc (.cells #[.int .i64 0, .slice none 0 0, .string ⟨#[]⟩, .slice none 0 0, .int .i64 0, .slice none 0 0] 25)) (fun b => b < w.heap.size) ⟨k, toks, sep, start, rules⟩ (.slice TA toks.length tc) (.slice RA rules.length rc) := ⟨h.1.step hb0, h.2.step hb0⟩
  clear h
  go_enter Tryz.func46, Tryz.ntmps46
  go_upto_region 1 with (fail)
  generalize (w.alloc (.cells #[.int .i64 k, .slice TA toks.length tc, .string sep, .string start, .slice RA rules.length rc] 80)).alloc (.cells #[.int .i64 0, .slice none 0 0, .string ⟨#[]⟩, .slice none 0 0, .int .i64 0, .slice none 0 0] 25) = W0 at *
  obtain ⟨hT, hRl⟩ := h0
  dsimp only at hT hRl
  have hC : Hid (∀ X, Below W0.heap.size W0 X → X.cell? ⟨w.heap.size, 0, none⟩ = some (.int .i64 k) ∧ X.cell? ⟨w.heap.size, 1, none⟩ = some (.slice TA toks.length tc) ∧ X.cell? ⟨w.heap.size, 2, none⟩ = some (.string sep) ∧ X.cell? ⟨w.heap.size, 3, none⟩ = some (.string start) ∧ X.cell? ⟨w.heap.size, 4, none⟩ = some (.slice RA rules.length rc)) := Lib.hid fun X hX => by
    have q := q0.step hX
    exact ⟨q.cell 0, q.cell 1, q.cell 2, q.cell 3, q.cell 4⟩
  have hck := Lib.hid (srcCheck_ok (w := W0) ⟨hT.mono fun b hb => by omega, hRl.mono fun b hb => by omega⟩ hx)
  obtain ⟨c0, c1, c2, c3, c4⟩ := hC.out W0 (Below.refl _ _)
  go_upto_region 4 with (go_at_call 92; refine hck.out.mono ?_; clear hck; rintro e w1 ⟨rfl, hb1⟩)
  clear c0 c1 c2 c3 c4
  have ht8 : toks.length ≤ 8 := hx.t8
  have hr8 : rules.length ≤ 8 := hx.r8
  have h1s := hb1.size
  go_cut [5] (fun s5 wx => ∃ g5 TA2 tc2, s5 = .pointer (some ⟨g5, 0, none⟩) ∧ OS g5 k sep (.slice TA2 toks.length tc2) (.slice none 0 0) (.slice none 0 0) 0 toks [] [] W0 wx)
  case first =>
    have e1 : Own1 (w1.alloc (.cells #[] 9)).drew W0.heap.size 9 (.slice (some ⟨w1.heap.size, 0, none⟩) 0 0) [] := Own1.emptyAt w1 _ 9 _ rfl h1s
    have e2 : Own1 ((w1.alloc (.cells #[] 9)).alloc (.cells #[.int .i64 0, .slice none 0 0, .string ⟨#[]⟩, .slice none 0 0, .int .i64 0, .slice none 0 0] 25)).drew W0.heap.size 9 (.slice (some ⟨w1.heap.size, 0, none⟩) 0 0) [] := (Own1.emptyAt w1 W0.heap.size 9 _ rfl h1s).alloc _
    have e3 : Own1 ((w1.alloc (.cells #[.int .i64 0, .slice none 0 0, .string ⟨#[]⟩, .slice none 0 0, .int .i64 0, .slice none 0 0] 25)).alloc (.cells #[] 9)).drew W0.heap.size 9 (.slice (some ⟨w1.heap.size + 1, 0, none⟩) 0 0) [] := Own1.emptyAt (w1.alloc _) _ 9 _ (by simp) (by simp; omega)
    have n1 : Below W0.heap.size W0 (w1.alloc (.cells #[] 9)).drew := bDrw (bAlc hb1 _)
    have n2 : Below W0.heap.size W0 ((w1.alloc (.cells #[] 9)).alloc (.cells #[.int .i64 0, .slice none 0 0, .string ⟨#[]⟩, .slice none 0 0, .int .i64 0, .slice none 0 0] 25)).drew := bDrw (bAlc (bAlc hb1 _) _)
    have n3 : Below W0.heap.size W0 ((w1.alloc (.cells #[.int .i64 0, .slice none 0 0, .string ⟨#[]⟩, .slice none 0 0, .int .i64 0, .slice none 0 0] 25)).alloc (.cells #[] 9)).drew := bDrw (bAlc (bAlc hb1 _) _)
    have d2 : Blk ((w1.alloc (.cells #[] 9)).alloc (.cells #[.int .i64 0, .slice none 0 0, .string ⟨#[]⟩, .slice none 0 0, .int .i64 0, .slice none 0 0] 25)).drew (w1.heap.size + 1) 25 #[.int .i64 0, .slice none 0 0, .string ⟨#[]⟩, .slice none 0 0, .int .i64 0, .slice none 0 0] := Blk.newAt (w1.alloc _) _ _ _ (by simp)
    have d3 : Blk ((w1.alloc (.cells #[.int .i64 0, .slice none 0 0, .string ⟨#[]⟩, .slice none 0 0, .int .i64 0, .slice none 0 0] 25)).alloc (.cells #[] 9)).drew w1.heap.size 25 #[.int .i64 0, .slice none 0 0, .string ⟨#[]⟩, .slice none 0 0, .int .i64 0, .slice none 0 0] := (Blk.new w1 25 _).alloc _
    have ne2 : some (w1.heap.size + 1) ≠ (Value.slice (some ⟨w1.heap.size, 0, none⟩) 0 0).ownBlock := by simp [Value.ownBlock]
    have ne3 : some w1.heap.size ≠ (Value.slice (some ⟨w1.heap.size + 1, 0, none⟩) 0 0).ownBlock := by simp [Value.ownBlock]
    have hd2 : Hid (∀ X w2 row, X.grownBy w2 row → X = ((w1.alloc (.cells #[] 9)).alloc (.cells #[.int .i64 0, .slice none 0 0, .string ⟨#[]⟩, .slice none 0 0, .int .i64 0, .slice none 0 0] 25)).drew → row = some w1.heap.size → Blk w2 (w1.heap.size + 1) 25 #[.int .i64 0, .slice none 0 0, .string ⟨#[]⟩, .slice none 0 0, .int .i64 0, .slice none 0 0]) := Lib.hid fun X w2 row hg e1 e2 => by
      subst e1 e2; exact d2.grown hg (by simp)
    have hd3 : Hid (∀ X w2 row, X.grownBy w2 row → X = ((w1.alloc (.cells #[.int .i64 0, .slice none 0 0, .string ⟨#[]⟩, .slice none 0 0, .int .i64 0, .slice none 0 0] 25)).alloc (.cells #[] 9)).drew → row = some (w1.heap.size + 1) → Blk w2 w1.heap.size 25 #[.int .i64 0, .slice none 0 0, .string ⟨#[]⟩, .slice none 0 0, .int .i64 0, .slice none 0 0]) := Lib.hid fun X w2 row hg e1 e2 => by
      subst e1 e2; exact d3.grown hg (by simp)
    have hcl : Hid (∀ X g, Blk X g 25 #[.int .i64 0, .slice none 0 0, .string ⟨#[]⟩, .slice none 0 0, .int .i64 0, .slice none 0 0] → X.cell? ⟨g, 0, none⟩ = some (.int .i64 0) ∧ X.cell? ⟨g, 1, none⟩ = some (.slice none 0 0) ∧ X.cell? ⟨g, 2, none⟩ = some (.string ⟨#[]⟩) ∧ X.cell? ⟨g, 3, none⟩ = some (.slice none 0 0) ∧ X.cell? ⟨g, 4, none⟩ = some (.int .i64 0) ∧ X.cell? ⟨g, 5, none⟩ = some (.slice none 0 0)) := Lib.hid fun X g q => ⟨q.cell 0, q.cell 1, q.cell 2, q.cell 3, q.cell 4, q.cell 5⟩
    have hfz : Hid (∀ X g, Blk X g 25 #[.int .i64 0, .slice none 0 0, .string ⟨#[]⟩, .slice none 0 0, .int .i64 0, .slice none 0 0] → X.frozen? ⟨g, 0, none⟩ = false ∧ X.frozen? ⟨g, 1, none⟩ = false ∧ X.frozen? ⟨g, 2, none⟩ = false ∧ X.frozen? ⟨g, 3, none⟩ = false ∧ X.frozen? ⟨g, 4, none⟩ = false ∧ X.frozen? ⟨g, 5, none⟩ = false) := Lib.hid fun X g q => ⟨q.frozen 0, q.frozen 1, q.frozen 2, q.frozen 3, q.frozen 4, q.frozen 5⟩
    have hTd : Hid (∀ X, Below W0.heap.size W0 X → Rd1 X W0.heap.size TA toks.length (strs toks)) := Lib.hid fun X hX => rd1_of (hT.step hX) (fun b hb => by omega)
    have hAll : Hid (∀ X, Below W0.heap.size W0 X → X.cell? ⟨w.heap.size, 0, none⟩ = some (.int .i64 k) ∧ X.cell? ⟨w.heap.size, 1, none⟩ = some (.slice TA toks.length tc) ∧ X.cell? ⟨w.heap.size, 2, none⟩ = some (.string sep) ∧ Below W0.heap.size W0 X) := Lib.hid fun X hX => by
      obtain ⟨c0, c1, c2, c3, c4⟩ := hC.out X hX
      exact ⟨c0, c1, c2, hX⟩
    clear q0 z0 hb0 hT hRl
    first | go_region_held3 (fun X => X.cell? ⟨w.heap.size, 0, none⟩ = some (.int .i64 k) ∧ X.cell? ⟨w.heap.size, 1, none⟩ = some (.slice TA toks.length tc) ∧ X.cell? ⟨w.heap.size, 2, none⟩ = some (.string sep) ∧ Below W0.heap.size W0 X)
      ((refine hAll.out _ ?_; repeat (first | (with_reducible assumption) | (with_reducible refine bAlc ?_ _) | (with_reducible refine bDrw ?_) | (with_reducible refine bSet ?_ _ _ ?_) | (simp only []; omega))))
      (first
        | (refine step_of_wp _ (by rfl) (wp_join1 _ _ _ 22 (by rfl) W0.heap.size 9 _ 16 under23 info9 (by rfl) _ [] (by rfl) (by first | exact e1 | exact e2 | exact e3) W0.heap.size TA toks.length tc (strs toks) (by rfl) (hTd.out _ (by first | exact n1 | exact n2 | exact n3)) strs_one (by simp; omega) (by simp) (by simp; omega) ?_); intro v2 w2 hown2 hg2 hat2 hb2; simp only [List.nil_append] at hown2; obtain ⟨TA2, tc2, ev2⟩ := own_sl hown2; subst ev2
           have hs2 : Below W0.heap.size W0 w2 := hb2 W0 (by first | exact n1 | exact n2 | exact n3)
           first
             | (have dq := hd2.out _ _ _ hg2 (by with_reducible rfl) (by rfl); obtain ⟨gb0, gb1, gb2, gb3, gb4, gb5⟩ := hcl.out _ _ dq; obtain ⟨gf0, gf1, gf2, gf3, gf4, gf5⟩ := hfz.out _ _ dq)
             | (have dq := hd3.out _ _ _ hg2 (by with_reducible rfl) (by rfl); obtain ⟨gb0, gb1, gb2, gb3, gb4, gb5⟩ := hcl.out _ _ dq; obtain ⟨gf0, gf1, gf2, gf3, gf4, gf5⟩ := hfz.out _ _ dq)
             | skip))
    all_goals
      go_wp2_with fail
      go_meet
    · exact ⟨w2.heap.size, TA2, tc2, rfl, bAlc hs2 _, Blk.new _ _ _, hown2.alloc _, Own1.nil _ _ _, PsO.nil _ _, hs2.size, by simp [Value.ownBlock]⟩
    · exact ⟨_, TA2, tc2, rfl, bSet6 hs2 (by omega) _ _ _ _ _ _, put6 dq _ _ _ _ _ _, row_grown hown2 (far6 dq _ _ _ _ _ _) (fun b cs e hq => by injection e with e; subst e; cases blk_type hq dq), Own1.nil _ _ _, PsO.nil _ _, by omega, by simp [Value.ownBlock]⟩
    · exact ⟨_, TA2, tc2, rfl, bSet6 hs2 (by omega) _ _ _ _ _ _, put6 dq _ _ _ _ _ _, row_grown hown2 (far6 dq _ _ _ _ _ _) (fun b cs e hq => by injection e with e; subst e; cases blk_type hq dq), Own1.nil _ _ _, PsO.nil _ _, by omega, by simp [Value.ownBlock]⟩
  case rest =>
    obtain ⟨g5, TA2, tc2, rfl, hOS⟩ := hcut
    have hcx : Hid (∀ (tv nv pv : Value) (st : Int) (ns : List ByteArray) (ps : List Pr) (X : World), OS g5 k sep tv nv pv st toks ns ps W0 X → X.cell? ⟨g5, 0, none⟩ = some (.int .i64 k) ∧ X.cell? ⟨g5, 1, none⟩ = some tv ∧ X.cell? ⟨g5, 2, none⟩ = some (.string sep) ∧ X.cell? ⟨g5, 3, none⟩ = some nv ∧ X.cell? ⟨g5, 4, none⟩ = some (.int .i64 st) ∧ X.cell? ⟨g5, 5, none⟩ = some pv) := Lib.hid fun tv nv pv st ns ps X h => ⟨h.2.1.cell 0, h.2.1.cell 1, h.2.1.cell 2, h.2.1.cell 3, h.2.1.cell 4, h.2.1.cell 5⟩
    go_upto_region 6 with (fail)
    go_loopg [6] rules.length (fun gk s6 wr => ∃ (i : Nat) (NA : Option Addr) (nc : Nat), s6 = .int .i64 i ∧ i + gk = rules.length ∧ OS g5 k sep (.slice TA2 toks.length tc2) (.slice NA i nc) (.slice none 0 0) 0 toks ((rules.take i).map (·.1)) [] W0 wr)
    case atStart => exact ⟨0, none, 0, rfl, by omega, hOS⟩
    case round =>
      clear hOS
      obtain ⟨i, NA, nc, rfl, hi, hO⟩ := hrel
      obtain ⟨c0, c1, c2, c3, c4⟩ := hC.out _ hO.1
      clear c0 c1 c2 c3
      by_cases hin : i < rules.length
      · have hxi : rules[i]? = some rules[i] := List.getElem?_eq_getElem hin
        obtain ⟨b, off, UA, uc, hA, x0, x1, hU, hu1, hu2⟩ := (hRl.step hO.1).ruleS hxi
        subst hA
        have hts : (rules.take (i + 1)).map (·.1) = (rules.take i).map (·.1) ++ [rules[i].1] := by rw [List.take_succ_eq_append_getElem hin, List.map_append]; rfl
        have hdl : (strs ((rules.take i).map (·.1))).length ≤ 100 := by simp [strs]; omega
        have hnl : ((rules.take i).map (·.1)).length = i := by simp; omega
        generalize rules[i] = x at *
        generalize ((rules.take i).map (·.1)) = d at *
        replace hxi := Lib.hid hxi
        replace hts := Lib.hid hts
        replace hi := Lib.hid hi
        replace hnl := Lib.hid hnl
        have hz0 : (0 : Int) ≤ i := by omega
        have hz1 : (i : Int) < rules.length := by omega
        obtain ⟨y0, y1, y2, y3, y4, y5⟩ := hcx.out _ _ _ _ _ _ _ hO
        have hO2 := hO.step (bAlc (Below.refl _ _) (.cells #[.string x.1] 9))
        obtain ⟨k0, k1, k2, k3, k4, k5⟩ := hcx.out _ _ _ _ _ _ _ hO2
        clear y0 y1 y2 y4 y5 k0 k1 k2 k4 k5 x1
        have hN : Hid (∀ (X w2 : World) (v2 : Value), OS g5 k sep (.slice TA2 toks.length tc2) (.slice NA i nc) (.slice none 0 0) 0 toks d [] W0 X → X.grownBy w2 (Value.slice NA i nc).ownBlock → Own1 w2 W0.heap.size 9 v2 (strs (d ++ [x.1])) → (v2.ownBlock = (Value.slice NA i nc).ownBlock ∨ v2.ownBlock = some X.heap.size) →
            w2.cell? ⟨g5, 3, none⟩ = some (.slice NA i nc) ∧ w2.frozen? ⟨g5, 3, none⟩ = false ∧ OS g5 k sep (.slice TA2 toks.length tc2) v2 (.slice none 0 0) 0 toks (d ++ [x.1]) [] W0 (w2.setCell ⟨g5, 3, none⟩ v2)) := Lib.hid fun X w2 v2 h hg ho hv => by
          have q := h.2.1.grown hg (fun e => own_ty h.2.2.2.1 25 (by decide) _ _ e.symm h.2.1)
          exact ⟨q.cell 3, q.frozen 3, h.putN hg ho hv⟩
        go_upto_block 1 with (fail)
        go_cut [34, 35, 36, 37, 38, 39, 40, 41, 42, 43, 44] (fun s34 s35 s36 s37 s38 s39 s40 s41 s42 s43 s44 wx => ∃ NA2 nc2, OS g5 k sep (.slice TA2 toks.length tc2) (.slice NA2 (i + 1) nc2) (.slice none 0 0) 0 toks (d ++ [x.1]) [] W0 wx)
        case first =>
          go_upto_region 8 with (fail)
          go_region_law ((refine step_of_wp _ (by rfl) (wp_join1 _ _ _ 22 (by rfl) W0.heap.size 9 _ 16 under23 info9 (by rfl) _ (strs d) (by rfl) (by first | exact hO2.2.2.2.1 | exact hO2.2.2.2.1.drew) _ _ 1 1 [.string x.1] (by rfl) (rd_blk (Blk.new _ _ _)) (by simp [Value.oneCell']) (by omega) (by omega) (by have := hO2.1.size; simp at this; simp; omega) ?_); intro v2 w2 hown2 hg2 hat2 hb2; rw [strs_snoc] at hown2; obtain ⟨NA2, nc2, ev2⟩ := own_sl hown2; rw [List.length_append, List.length_singleton, hnl.out] at ev2; subst ev2; obtain ⟨gc3, gz3, hfin⟩ := hN.out _ _ _ (by first | exact hO2 | exact hO2.step (bDrw (Below.refl _ _))) hg2 hown2 hat2))
          all_goals
            go_wp2_with fail
            go_meet
            exact ⟨NA2, nc2, hfin⟩
        case rest =>
          obtain ⟨NA2, nc2, hO3⟩ := hcut
          rw [← hts.out] at hO3
          clear c4 x0 y3 k3 hO hO2 hN
          go_wp2_with fail
          go_roundg (rules.length - (i + 1))
          case measure => have := hi.out; omega
          case rel => exact ⟨i + 1, NA2, nc2, by go_num, by have := hi.out; omega, hO3⟩
      · have hie : i = rules.length := by omega
        subst hie
        rw [List.take_of_length_le (Nat.le_refl _)] at hO
        have hSy : Hid (∀ (X : World) (st : Int) (PA : Option Addr) (pn pc : Nat) (ps : List Pr) (s : ByteArray), OS g5 k sep (.slice TA2 toks.length tc2) (.slice NA rules.length nc) (.slice PA pn pc) st toks (rules.map (·.1)) ps W0 X →
            Calls Tryz.prog 93 #[.agg #[.int .i64 k, .slice TA2 toks.length tc2, .string sep, .slice NA rules.length nc, .int .i64 st, .slice PA pn pc], .string s] X fun e w' => e = .returned (.int .i64 (symN (rules.map (·.1)) toks s)) ∧ Below X.heap.size X w') := Lib.hid fun X st PA pn pc ps s h => by
          have hN := own1_rdx h.2.2.2.1 (by simp)
          have hT := own1_rdx h.2.2.1 rfl
          have := symbol_any (k := k) (st := st) (sep := sep) (PA := PA) (pn := pn) (pc := pc) hT hN s (by simp; omega) (by omega)
          rw [List.length_map] at this
          exact this
        obtain ⟨c0, c1, c2, c3, c4'⟩ := hC.out _ hO.1
        clear c0 c1 c2 c4'
        obtain ⟨y0, y1, y2, y3, y4, y5⟩ := hcx.out _ _ _ _ _ _ _ hO
        have hS1 := Lib.hid (hSy.out _ _ _ _ _ _ start hO)
        generalize hst : symN (rules.map (·.1)) toks start = st at *
        replace hst := Lib.hid hst
        have hzx : Hid (∀ (tv nv pv : Value) (st : Int) (ns : List ByteArray) (ps : List Pr) (X : World), OS g5 k sep tv nv pv st toks ns ps W0 X → X.frozen? ⟨g5, 4, none⟩ = false ∧ X.frozen? ⟨g5, 5, none⟩ = false) := Lib.hid fun tv nv pv st ns ps X h => ⟨h.2.1.frozen 4, h.2.1.frozen 5⟩
        go_upto_region 10 with (go_at_call 93; refine hS1.out.mono ?_; clear hS1; rintro e w3 ⟨rfl, hb3⟩; have hO3 := hO.step hb3; obtain ⟨k0, k1, k2, k3, k4, k5⟩ := hcx.out _ _ _ _ _ _ _ hO3; obtain ⟨z4, z5⟩ := hzx.out _ _ _ _ _ _ _ hO3)
        have hO4 := hO3.putS st
        clear hO hO3 hb3 y0 y1 y2 y3 y4 y5 k0 k1 k2 k3 k4 k5 c3 c4 z4 z5
        generalize w3.setCell ⟨g5, 4, none⟩ (.int .i64 st) = W4 at *
        have hn24 : nAlts rules ≤ 24 := hx.n24
        have hl6 := Lib.hid hx.l6
        have hnml : (rules.map (·.1)).length = rules.length := by simp
        obtain ⟨names, hnm⟩ : ∃ names, names = rules.map (·.1) := ⟨_, rfl⟩
        rw [← hnm] at hSy hst hO4 hnml
        have hRf := Lib.hid (fun (a : GA) (w' : World) (ps : List Pr) (h0 : ps = (prodsN names toks 0 rules).map toPr) (h1 : GrAt w' w'.heap.size ⟨k, toks, sep, names, st, ps⟩ a) (h3 : GOwn ⟨k, toks, sep, names, st, ps⟩ a w.heap.size w') (h2 : Below w.heap.size w w') => (show RR (.returned (.tuple #[gval ⟨k, toks, sep, names, st, ps⟩ a, .int .i64 0])) w' by
          have hg : (⟨k, toks, sep, names, st, ps⟩ : Gr) = gOf ⟨k, toks, sep, start, rules⟩ := by
            unfold gOf
            dsimp only
            rw [← hnm, hst.out, h0]
          rw [hg] at h1 h3 ⊢
          exact hR.out a w' h1 h3 h2))
        replace hnm := Lib.hid hnm
        replace hnml := Lib.hid hnml
        clear hR
        go_upto_region 11 with (fail)
        go_loopg [7, 8, 9, 10, 11] rules.length (fun gk s7 s8 s9 s10 s11 wr => ∃ (i : Nat) (PA : Option Addr) (pc : Nat) (ps : List Pr), s7 = .int .i64 i ∧ i + gk = rules.length ∧ Hid (ps = (prodsN names toks 0 (rules.take i)).map toPr) ∧ OS g5 k sep (.slice TA2 toks.length tc2) (.slice NA rules.length nc) (.slice PA ps.length pc) st toks names ps W0 wr)
        case atStart => exact ⟨0, none, 0, [], rfl, by omega, Lib.hid rfl, hO4⟩
        case round =>
          clear hO4
          obtain ⟨i, PA, pc, ps, rfl, hi, hps, hO⟩ := hrel
          obtain ⟨c0, c1, c2, c3, c4⟩ := hC.out _ hO.1
          clear c0 c1 c2 c3
          by_cases hin : i < rules.length
          · have hxi : rules[i]? = some rules[i] := List.getElem?_eq_getElem hin
            obtain ⟨b, off, UA, uc, hA, x0, x1, hU, hu1, hu2⟩ := (hRl.step hO.1).ruleS hxi
            have hla := Lib.hid (hl6.out _ (List.getElem_mem hin))
            have hn2 : rules[i].2.length ≤ 24 := by
              have h1 := nAlts_take rules i hin
              have h2 := nAlts_le rules (i + 1)
              omega
            have hpl : ps.length + rules[i].2.length ≤ 24 := by
              have h1 := nAlts_take rules i hin
              have h2 := nAlts_le rules (i + 1)
              have h3 : ps.length = nAlts (rules.take i) := by rw [hps.out, List.length_map, prodsN_len]
              omega
            have htk : rules.take (i + 1) = rules.take i ++ [rules[i]] := List.take_succ_eq_append_getElem hin
            have hnx : Hid ((prodsN names toks 0 (rules.take (i + 1))).map toPr = ps ++ rules[i].2.map (fun a => (⟨16 + (i : Int), a.map (symN names toks)⟩ : Pr))) := Lib.hid (by
              rw [htk, prodsN_snoc, List.map_append, ← hps.out, List.map_map, List.length_take, Nat.min_eq_left (by omega)]
              rfl)
            clear htk
            have hUE := Lib.hid hU
            clear hU x0
            subst hA
            generalize rules[i] = x at *
            replace hxi := Lib.hid hxi
            replace hi := Lib.hid hi
            have hz0 : (0 : Int) ≤ i := by omega
            have hz1 : (i : Int) < rules.length := by omega
            go_upto_region 14 with (fail)
            generalize wr = wE at *
            go_loopg [8, 9, 10, 11] x.2.length (fun gk s8 s9 s10 s11 wr => ∃ (j : Nat) (PA : Option Addr) (pc : Nat) (qs : List Pr), s8 = .int .i64 j ∧ j + gk = x.2.length ∧ Hid (qs = ps ++ (x.2.take j).map (fun a => (⟨16 + (i : Int), a.map (symN names toks)⟩ : Pr))) ∧ OS g5 k sep (.slice TA2 toks.length tc2) (.slice NA rules.length nc) (.slice PA qs.length pc) st toks names qs W0 wr)
            case atStart => exact ⟨0, PA, pc, ps, rfl, by omega, Lib.hid (by simp), hO⟩
            case round =>
              clear hO
              obtain ⟨j, PA, pc, qs, rfl, hj, hqs, hO⟩ := hrel
              obtain ⟨c0, c1, c2, c3, c4⟩ := hC.out _ hO.1
              clear c0 c1 c2 c3
              obtain ⟨b2, off2, UA2, uc2, hA3, v0, v1, hU, hu3, hu4⟩ := (hRl.step hO.1).ruleS hxi.out
              injection hA3 with hA4
              injection hA4 with e1 e2 e3
              subst e1 e2
              clear v0 e3
              by_cases hjn : j < x.2.length
              · have hxj : x.2[j]? = some x.2[j] := List.getElem?_eq_getElem hjn
                obtain ⟨b3, off3, VA, vc, hA2, y0, hV, hv1, hv2⟩ := hU.altS hxj
                subst hA2
                have hl := hla.out _ (List.getElem_mem hjn)
                have hqx : Hid (ps ++ (x.2.take (j + 1)).map (fun a => (⟨16 + (i : Int), a.map (symN names toks)⟩ : Pr)) = qs ++ [⟨16 + (i : Int), (x.2[j]).map (symN names toks)⟩]) := Lib.hid (by
                  rw [hqs.out, List.take_succ_eq_append_getElem hjn, List.map_append, List.append_assoc]
                  rfl)
                have hql : qs.length ≤ 24 := by
                  have := congrArg List.length hqs.out
                  simp at this
                  omega
                generalize x.2[j] = a at *
                replace hxj := Lib.hid hxj
                replace hj := Lib.hid hj
                have hz5 : (0 : Int) ≤ j := by omega
                have hz6 : (j : Int) < x.2.length := by omega
                have hz7 : (i : Int) ≤ 8 := by omega
                clear hU
                go_upto_region 17 with (fail)
                have q9 : Blk (wr.alloc (.cells #[.int .i64 (16 + (i : Int)), .slice none 0 0] 47)) wr.heap.size 47 #[.int .i64 (16 + (i : Int)), .slice none 0 0] := Blk.new _ _ _
                have hb16 : Below wr.heap.size wr (wr.alloc (.cells #[.int .i64 (16 + (i : Int)), .slice none 0 0] 47)) := bAlc (Below.refl _ _) _
                obtain ⟨d0, d1, d2, d3, d4⟩ := hC.out _ (hO.step hb16).1
                have v2 := cell_later hb16 v1
                have y1 := cell_later hb16 y0
                have hVw := hV
                have hs16 : (wr.alloc (.cells #[.int .i64 (16 + (i : Int)), .slice none 0 0] 47)).heap.size = wr.heap.size + 1 := by simp
                clear d0 d1 d2 d3 c4 v1 y0 hV
                generalize wr.alloc (.cells #[.int .i64 (16 + (i : Int)), .slice none 0 0] 47) = W16 at *
                go_upto_region 19 with (fail)
                clear d4 v2 y1
                replace hVw := Lib.hid hVw
                generalize wr = wE at *
                go_loopg [11] a.length (fun gk s11 wr => ∃ (m : Nat) (RA2 : Option Addr) (rk : Nat), s11 = .int .i64 m ∧ m + gk = a.length ∧ Own1 wr (wE.heap.size + 1) 3 (.slice RA2 m rk) (ints ((a.take m).map (symN names toks))) ∧ Blk wr wE.heap.size 47 #[.int .i64 (16 + (i : Int)), .slice RA2 m rk] ∧ Below wE.heap.size wE wr)
                case atStart => exact ⟨0, none, 0, rfl, by omega, Own1.nil _ _ _, q9, hb16⟩
                case round =>
                  clear q9 hb16
                  obtain ⟨m, RA2, rk, rfl, hm, hrt, q9, hbE⟩ := hrel
                  have hg9 := q9.lt
                  by_cases hmn : m < a.length
                  · have hxm : a[m]? = some a[m] := List.getElem?_eq_getElem hmn
                    obtain ⟨b4, off4, hA5, w0⟩ := (hVw.out.step hbE).strS hxm
                    subst hA5
                    have hin2 : Hid (ints ((a.take (m + 1)).map (symN names toks)) = ints ((a.take m).map (symN names toks)) ++ [.int .i64 (symN names toks a[m])]) := Lib.hid (by rw [List.take_succ_eq_append_getElem hmn]; simp only [ints, List.map_append, List.map_cons, List.map_nil])
                    have hil : (ints ((a.take m).map (symN names toks))).length = m := by simp [ints]; omega
                    have hOE := hO.step hbE
                    obtain ⟨k0, k1, k2, k3, k4, k5⟩ := hcx.out _ _ _ _ _ _ _ hOE
                    generalize a[m] = s at *
                    generalize ints ((a.take m).map (symN names toks)) = is at *
                    replace hxm := Lib.hid hxm
                    replace hm := Lib.hid hm
                    replace hil := Lib.hid hil
                    have hSx := Lib.hid (fun X (hX : Below wr.heap.size wr X) => hSy.out _ _ _ _ _ _ s (hOE.step hX))
                    generalize symN names toks s = sv at *
                    have hz10 : (0 : Int) ≤ m := by omega
                    have hz11 : (m : Int) < a.length := by omega
                    have p1 : wr.cell? ⟨wE.heap.size, 1, none⟩ = some (.slice RA2 m rk) := q9.cell 1
                    have hq9 : Hid (∀ X, Below wr.heap.size wr X → X.cell? ⟨wE.heap.size, 1, none⟩ = some (.slice RA2 m rk)) := Lib.hid fun X hX => (q9.step hX).cell 1
                    have hEnd : Hid (∀ (X w2 : World) (v2 : Value), Below wr.heap.size wr X → X.grownBy w2 (Value.slice RA2 m rk).ownBlock → Own1 w2 (wE.heap.size + 1) 3 v2 (is ++ [.int .i64 sv]) → (∀ V, Below (wE.heap.size + 1) V X → Below (wE.heap.size + 1) V w2) →
                        w2.cell? ⟨wE.heap.size, 1, none⟩ = some (.slice RA2 m rk) ∧ w2.frozen? ⟨wE.heap.size, 1, none⟩ = false ∧ Own1 (w2.setCell ⟨wE.heap.size, 1, none⟩ v2) (wE.heap.size + 1) 3 v2 (is ++ [.int .i64 sv]) ∧ Blk (w2.setCell ⟨wE.heap.size, 1, none⟩ v2) wE.heap.size 47 #[.int .i64 (16 + (i : Int)), v2] ∧ Below wE.heap.size wE (w2.setCell ⟨wE.heap.size, 1, none⟩ v2)) := Lib.hid fun X w2 v2 hX hg ho hb => by
                      have hB : Below (wE.heap.size + 1) wr w2 := hb wr (hX.mono (by omega))
                      have q := q9.below hB (Nat.lt_succ_self _)
                      exact ⟨q.cell 1, q.frozen 1, ho.far (by show wE.heap.size < wE.heap.size + 1; omega) _, q.put 1 _, bSet (hbE.trans (hB.mono (Nat.le_succ _))) _ _ (Nat.le_refl _)⟩
                    have hown : Hid (∀ X, Below wr.heap.size wr X → Own1 X (wE.heap.size + 1) 3 (.slice RA2 m rk) is) := Lib.hid fun X hX => hrt.step hX
                    have hilb : is.length ≤ 100 := by have := hil.out; omega
                    go_upto_block 7 with (fail)
                    go_cut [86, 87, 88, 89, 90, 91, 92, 93, 94, 95, 96] (fun s86 s87 s88 s89 s90 s91 s92 s93 s94 s95 s96 wx => ∃ RA3 rk3, Own1 wx (wE.heap.size + 1) 3 (.slice RA3 (m + 1) rk3) (is ++ [.int .i64 sv]) ∧ Blk wx wE.heap.size 47 #[.int .i64 (16 + (i : Int)), .slice RA3 (m + 1) rk3] ∧ Below wE.heap.size wE wx)
                    case first =>
                      go_upto_region 21 with (fail)
                      go_region_law (first
                        | (go_simp; go_at_call 93; refine (hSx.out _ (by repeat (first | assumption | exact Below.refl _ _ | (with_reducible refine bAlc ?_ _) | (with_reducible refine bDrw ?_)))).mono ?_; rintro e w3 ⟨rfl, hb3⟩; have hb4 : Below wr.heap.size wr w3 := bStep (by repeat (first | assumption | exact Below.refl _ _ | (with_reducible refine bAlc ?_ _) | (with_reducible refine bDrw ?_))) hb3; have r1 := hq9.out _ hb4; have r2 := hq9.out _ (bAlc hb4 (.cells #[.int .i64 sv] 3)))
                        | (refine step_of_wp _ (by rfl) (wp_join1 _ _ _ 34 (by rfl) (wE.heap.size + 1) 3 _ 8 under22 info3 (by rfl) _ is (by rfl) (hown.out _ (by first | exact bAlc hb4 _ | exact bDrw (bAlc hb4 _))) _ _ 1 1 [.int .i64 sv] (by rfl) (rd_blk (Blk.new _ _ _)) (by simp [Value.oneCell']) (by omega) (by omega) (by have := hb4.size; simp; omega) ?_); intro v2 w2 hown2 hg2 hat2 hb2; obtain ⟨RA3, rk3, ev2, _, _, _, _⟩ := hown2.reads; rw [List.length_append, List.length_singleton, hil.out] at ev2; subst ev2; obtain ⟨t1, t2, hfin⟩ := hEnd.out _ _ _ (by first | exact bAlc hb4 _ | exact bDrw (bAlc hb4 _)) hg2 hown2 hb2))
                      all_goals
                        go_wp2_with fail
                        go_meet
                        exact ⟨RA3, rk3, hfin⟩
                    case rest =>
                      obtain ⟨RA3, rk3, hr3, q93, hb93⟩ := hcut
                      rw [← hin2.out] at hr3
                      clear k0 k1 k2 k3 k4 k5 w0 p1 q9 hbE hrt hOE
                      go_wp2_with fail
                      go_roundg (a.length - (m + 1))
                      case measure => have := hm.out; omega
                      case rel => exact ⟨m + 1, RA3, rk3, by go_num, by have := hm.out; omega, hr3, q93, hb93⟩
                  · have hme : m = a.length := by omega
                    subst hme
                    rw [List.take_of_length_le (Nat.le_refl _)] at hrt
                    obtain ⟨L, hL⟩ : ∃ L, L = a.map (symN names toks) := ⟨_, rfl⟩
                    have hLl : L.length = a.length := by rw [hL, List.length_map]
                    rw [← hL] at hrt hqx
                    have hOE := hO.step hbE
                    obtain ⟨k0, k1, k2, k3, k4, k5⟩ := hcx.out _ _ _ _ _ _ _ hOE
                    obtain ⟨RA', c', e', hrt2⟩ := RtAt.of (hrt.mono (b' := W0.heap.size) (by have := hO.1.size; omega))
                    injection e' with e1 e2 e3
                    subst e1 e3
                    rw [← hLl] at q9
                    have p0 : wr.cell? ⟨wE.heap.size, 0, none⟩ = some (.int .i64 (16 + (i : Int))) := q9.cell 0
                    have p1 : wr.cell? ⟨wE.heap.size, 1, none⟩ = some (.slice RA2 L.length rk) := q9.cell 1
                    have k5' : (wr.alloc (.cells #[.int .i64 (16 + (i : Int)), .slice RA2 L.length rk] 47)).cell? ⟨g5, 5, none⟩ = some (.slice PA qs.length pc) := (hcx.out _ _ _ _ _ _ _ (hOE.step (bAlc (Below.refl _ _) _))).2.2.2.2.2
                    have hPs : Hid (∀ X, Below wr.heap.size wr X → PsO X W0.heap.size (.slice PA qs.length pc) qs) := Lib.hid fun X hX => (hOE.step hX).2.2.2.2.1
                    have hRt : Hid (∀ X, Below wr.heap.size wr X → RtAt X W0.heap.size RA2 rk (⟨16 + (i : Int), L⟩ : Pr).right) := Lib.hid fun X hX => hrt2.step hX
                    have hbs : Hid (∀ X, Below wr.heap.size wr X → W0.heap.size ≤ X.heap.size) := Lib.hid fun X hX => Nat.le_trans hOE.1.size hX.size
                    have hEnd : Hid (∀ (X w2 : World) (v2 : Value), Below wr.heap.size wr X → X.grownBy w2 (Value.slice PA qs.length pc).ownBlock → PsO w2 W0.heap.size v2 (qs ++ [⟨16 + (i : Int), L⟩]) →
                        w2.cell? ⟨g5, 5, none⟩ = some (.slice PA qs.length pc) ∧ w2.frozen? ⟨g5, 5, none⟩ = false ∧ OS g5 k sep (.slice TA2 toks.length tc2) (.slice NA rules.length nc) v2 st toks names (qs ++ [⟨16 + (i : Int), L⟩]) W0 (w2.setCell ⟨g5, 5, none⟩ v2)) := Lib.hid fun X w2 v2 hX hg ho => by
                      have h := hOE.step hX
                      obtain ⟨rs, hpr⟩ := h.2.2.2.2.1
                      have q := h.2.1.grown hg (fun e => own_ty hpr.2.1 25 (by decide) _ _ e.symm h.2.1)
                      exact ⟨q.cell 5, q.frozen 5, h.putP hg ho⟩
                    have hqb : qs.length < 1000000 := by omega
                    replace hL := Lib.hid hL
                    replace hLl := Lib.hid hLl
                    clear k0 k1 k2 k3 k4 hrt hrt2 e2
                    go_upto_region 22 with (fail)
                    go_wp2_with (at_builtin; refine wpList_plain rfl fun K hK => ?_; refine wp_pushP _ _ _ rfl W0.heap.size _ qs _ rfl (hPs.out _ (bAlc (Below.refl _ _) _)).choose_spec _ ⟨16 + (i : Int), L⟩ RA2 rk rfl (Blk.new _ _ _) (hRt.out _ (bAlc (Below.refl _ _) _)) hqb (hbs.out _ (bAlc (Below.refl _ _) _)) ?_; intro v2 w2 hps2 hg2; refine hK _ _ ?_; clear hK; obtain ⟨PA2, pc2, ev2, _, _, _⟩ := hps2.reads; rw [List.length_append, List.length_singleton] at ev2; subst ev2; obtain ⟨t1, t2, hfin⟩ := hEnd.out _ _ _ (bAlc (Below.refl _ _) _) hg2 hps2)
                    go_roundg (x.2.length - (j + 1))
                    all_goals first
                      | (have := hj.out; omega)
                      | exact ⟨j + 1, PA2, pc2, qs ++ [⟨16 + (i : Int), L⟩], by go_num, by have := hj.out; omega, Lib.hid hqx.out.symm, by rw [List.length_append, List.length_singleton]; exact hfin⟩
              · have hje : j = x.2.length := by omega
                subst hje
                rw [List.take_of_length_le (Nat.le_refl _)] at hqs
                have hz8 : ¬ (x.2.length : Int) < x.2.length := by omega
                go_wp2_with fail
                go_roundg (rules.length - (i + 1))
                case measure => have := hi.out; omega
                case rel => exact ⟨i + 1, PA, pc, qs, by go_num, by have := hi.out; omega, Lib.hid (by rw [hnx.out, hqs.out]), hO⟩
          · have hie : i = rules.length := by omega
            subst hie
            rw [List.take_of_length_le (Nat.le_refl _)] at hps
            obtain ⟨k0, k1, k2, k3, k4, k5⟩ := hcx.out _ _ _ _ _ _ _ hO
            have zq := z0.step hO.1
            have m0 : wr.cell? ⟨w.heap.size + 1, 0, none⟩ = some (.int .i64 0) := zq.cell 0
            have m1 : wr.cell? ⟨w.heap.size + 1, 1, none⟩ = some (.slice none 0 0) := zq.cell 1
            have m2 : wr.cell? ⟨w.heap.size + 1, 2, none⟩ = some (.string ⟨#[]⟩) := zq.cell 2
            have m3 : wr.cell? ⟨w.heap.size + 1, 3, none⟩ = some (.slice none 0 0) := zq.cell 3
            have m4 : wr.cell? ⟨w.heap.size + 1, 4, none⟩ = some (.int .i64 0) := zq.cell 4
            have m5 : wr.cell? ⟨w.heap.size + 1, 5, none⟩ = some (.slice none 0 0) := zq.cell 5
            have n0 := zq.frozen 0
            have n1 := zq.frozen 1
            have n2 := zq.frozen 2
            have n3 := zq.frozen 3
            have n4 := zq.frozen 4
            have n5 := zq.frozen 5
            have hgE := far6 zq (.int .i64 k) (.slice TA2 toks.length tc2) (.string sep) (.slice NA rules.length nc) (.int .i64 st) (.slice PA ps.length pc)
            have hPE := put6 zq (.int .i64 k) (.slice TA2 toks.length tc2) (.string sep) (.slice NA rules.length nc) (.int .i64 st) (.slice PA ps.length pc)
            have hBE : Below w.heap.size w wr := hb0.trans (hO.1.mono (by omega))
            have hBE2 := bSet6 (g := w.heap.size + 1) hBE (by omega) (.int .i64 k) (.slice TA2 toks.length tc2) (.string sep) (.slice NA rules.length nc) (.int .i64 st) (.slice PA ps.length pc)
            have hne : ∀ (e : TypeId), e ≠ 25 → ∀ (b : Nat) (cs : Array Value), some (w.heap.size + 1) = some b → ¬ Blk wr b e cs := fun e he b cs e1 hq => by injection e1 with e1; subst e1; exact he (blk_type hq zq)
            have o1 := row_grown hO.2.2.1 hgE (hne 9 (by decide))
            have o2 := row_grown hO.2.2.2.1 hgE (hne 9 (by decide))
            have o3 := hO.2.2.2.2.1.grown hgE (hne 3 (by decide)) (hne 47 (by decide))
            have hfin : Hid (RR (.returned (.tuple #[gval ⟨k, toks, sep, names, st, ps⟩ ⟨TA2, tc2, NA, nc, PA, pc⟩, .int .i64 0])) ((((((wr.setCell ⟨w.heap.size + 1, 0, none⟩ (.int .i64 k)).setCell ⟨w.heap.size + 1, 1, none⟩ (.slice TA2 toks.length tc2)).setCell ⟨w.heap.size + 1, 2, none⟩ (.string sep)).setCell ⟨w.heap.size + 1, 3, none⟩ (.slice NA rules.length nc)).setCell ⟨w.heap.size + 1, 4, none⟩ (.int .i64 st)).setCell ⟨w.heap.size + 1, 5, none⟩ (.slice PA ps.length pc))) := Lib.hid (by
              obtain ⟨A1, c1', e1, r1, l1, l1', _⟩ := Own1.reads o1
              obtain ⟨A2, c2', e2, r2, l2, l2', _⟩ := Own1.reads o2
              obtain ⟨A3, c3', e3, r3, l3, l3'⟩ := o3.reads
              have hs1 : (strs toks).length = toks.length := by simp [strs]
              have hs2 : (strs names).length = names.length := by simp [strs]
              rw [hs1] at e1 r1 l1
              rw [hs2] at e2 r2 l2
              injection e1 with e11 e12 e13
              injection e2 with e21 e22 e23
              injection e3 with e31 e32 e33
              subst e11 e13 e21 e23 e31 e33
              have hlw : w.heap.size ≤ W0.heap.size := by omega
              have ow1 := Own1.mono o1 hlw
              have ow2 := own_eq (v' := .slice NA names.length nc) (Own1.mono o2 hlw) (by rw [hnml.out])
              have ow3 := o3.mono hlw
              refine hRf.out ⟨TA2, tc2, NA, nc, PA, pc⟩ _ ps hps.out ⟨r1, l1, l1', r2, l2, l2', r3, l3, l3', ?_, ?_, ?_⟩ ⟨ow1, ow2, ow3⟩ hBE2
              · exact hx.sizes.2.1
              · exact hx.sizes.1.1
              · intro s hs
                rw [hnm.out] at hs
                obtain ⟨r, hr, rfl⟩ := List.mem_map.1 hs
                exact (hx.sizes.1.2 r hr).1)
            clear hgE hne o1 o2 o3 hO
            go_wp2_with fail
            refine bodyPost_ret (results_of rfl _ _ (w.heap.size + 1) #[.int .i64 k, .slice TA2 toks.length tc2, .string sep, .slice NA rules.length nc, .int .i64 st, .slice PA ps.length pc] _ rfl rfl hPE rfl) rfl ?_
            have hh := hfin.out
            unfold gval gcells at hh
            dsimp only at hh
            rw [hnml.out] at hh
            exact hh
end
end Go.Proofs.YtnnkfgekiaaehaaGreat

/- The kit's rules. -/
namespace Go.Proofs.YtnnkfgekiaaehaaGreat
open Go.ChangeShapes Go.WideShapes Go.ChangeAt Go.RowKit
set_option linter.unusedVariables false
def rawT : List ByteArray := [
  ⟨#[49, 32, 49, 32, 83, 32, 61, 32, 97, 32, 83, 32, 124, 32, 59]⟩,
  ⟨#[49, 32, 50, 32, 83, 32, 61, 32, 97, 32, 84, 32, 124, 32, 59, 32, 84, 32, 61, 32, 98, 32, 83, 32, 59]⟩,
  ⟨#[50, 32, 50, 32, 83, 32, 61, 32, 97, 32, 84, 32, 124, 32, 59, 32, 84, 32, 61, 32, 98, 32, 83, 32, 59]⟩,
  ⟨#[50, 32, 50, 32, 83, 32, 61, 32, 97, 32, 124, 32, 97, 32, 98, 32, 59]⟩,
  ⟨#[49, 32, 51, 32, 83, 32, 61, 32, 97, 32, 83, 32, 98, 32, 124, 32, 99, 32, 59]⟩,
  ⟨#[49, 32, 51, 32, 83, 32, 61, 32, 84, 32, 85, 32, 59, 32, 84, 32, 61, 32, 97, 32, 84, 32, 124, 32, 59, 32, 85, 32, 61, 32, 98, 32, 85, 32, 124, 32, 99, 32, 59]⟩,
  ⟨#[50, 32, 51, 32, 83, 32, 61, 32, 97, 32, 97, 32, 83, 32, 124, 32, 97, 32, 98, 32, 124, 32, 99, 32, 59]⟩,
  ⟨#[49, 32, 51, 32, 83, 32, 61, 32, 97, 32, 84, 32, 99, 32, 59, 32, 84, 32, 61, 32, 98, 32, 84, 32, 124, 32, 85, 32, 59, 32, 85, 32, 61, 32, 59]⟩,
  ⟨#[50, 32, 51, 32, 83, 32, 61, 32, 84, 32, 99, 32, 124, 32, 98, 32, 83, 32, 59, 32, 84, 32, 61, 32, 98, 32, 97, 32, 124, 32, 59]⟩,
  ⟨#[49, 32, 50, 32, 83, 32, 61, 32, 97, 32, 83, 32, 83, 32, 124, 32, 98, 32, 59]⟩,
  ⟨#[51, 32, 50, 32, 83, 32, 61, 32, 97, 32, 97, 32, 97, 32, 124, 32, 97, 32, 97, 32, 98, 32, 83, 32, 124, 32, 98, 32, 59]⟩,
  ⟨#[49, 32, 52, 32, 83, 32, 61, 32, 97, 32, 76, 32, 98, 32, 59, 32, 76, 32, 61, 32, 69, 32, 77, 32, 59, 32, 77, 32, 61, 32, 99, 32, 69, 32, 77, 32, 124, 32, 59, 32, 69, 32, 61, 32, 100, 32, 124, 32, 83, 32, 59]⟩,
  ⟨#[50, 32, 50, 32, 83, 32, 61, 32, 84, 32, 84, 32, 59, 32, 84, 32, 61, 32, 97, 32, 98, 32, 124, 32, 98, 32, 97, 32, 59]⟩,
  ⟨#[49, 32, 49, 32, 83, 32, 61, 32, 97, 32, 59]⟩,
  ⟨#[50, 32, 51, 32, 83, 32, 61, 32, 97, 32, 84, 32, 124, 32, 97, 32, 98, 32, 99, 32, 59, 32, 84, 32, 61, 32, 97, 32, 124, 32, 99, 32, 83, 32, 59]⟩,
  ⟨#[49, 32, 50, 32, 83, 32, 61, 32, 84, 32, 85, 32, 84, 32, 59, 32, 84, 32, 61, 32, 59, 32, 85, 32, 61, 32, 97, 32, 85, 32, 98, 32, 124, 32, 59]⟩]
def rawA : Array Value := #[.string ⟨#[49, 32, 49, 32, 83, 32, 61, 32, 97, 32, 83, 32, 124, 32, 59]⟩, .string ⟨#[49, 32, 50, 32, 83, 32, 61, 32, 97, 32, 84, 32, 124, 32, 59, 32, 84, 32, 61, 32, 98, 32, 83, 32, 59]⟩, .string ⟨#[50, 32, 50, 32, 83, 32, 61, 32, 97, 32, 84, 32, 124, 32, 59, 32, 84, 32, 61, 32, 98, 32, 83, 32, 59]⟩, .string ⟨#[50, 32, 50, 32, 83, 32, 61, 32, 97, 32, 124, 32, 97, 32, 98, 32, 59]⟩, .string ⟨#[49, 32, 51, 32, 83, 32, 61, 32, 97, 32, 83, 32, 98, 32, 124, 32, 99, 32, 59]⟩, .string ⟨#[49, 32, 51, 32, 83, 32, 61, 32, 84, 32, 85, 32, 59, 32, 84, 32, 61, 32, 97, 32, 84, 32, 124, 32, 59, 32, 85, 32, 61, 32, 98, 32, 85, 32, 124, 32, 99, 32, 59]⟩, .string ⟨#[50, 32, 51, 32, 83, 32, 61, 32, 97, 32, 97, 32, 83, 32, 124, 32, 97, 32, 98, 32, 124, 32, 99, 32, 59]⟩, .string ⟨#[49, 32, 51, 32, 83, 32, 61, 32, 97, 32, 84, 32, 99, 32, 59, 32, 84, 32, 61, 32, 98, 32, 84, 32, 124, 32, 85, 32, 59, 32, 85, 32, 61, 32, 59]⟩, .string ⟨#[50, 32, 51, 32, 83, 32, 61, 32, 84, 32, 99, 32, 124, 32, 98, 32, 83, 32, 59, 32, 84, 32, 61, 32, 98, 32, 97, 32, 124, 32, 59]⟩, .string ⟨#[49, 32, 50, 32, 83, 32, 61, 32, 97, 32, 83, 32, 83, 32, 124, 32, 98, 32, 59]⟩, .string ⟨#[51, 32, 50, 32, 83, 32, 61, 32, 97, 32, 97, 32, 97, 32, 124, 32, 97, 32, 97, 32, 98, 32, 83, 32, 124, 32, 98, 32, 59]⟩, .string ⟨#[49, 32, 52, 32, 83, 32, 61, 32, 97, 32, 76, 32, 98, 32, 59, 32, 76, 32, 61, 32, 69, 32, 77, 32, 59, 32, 77, 32, 61, 32, 99, 32, 69, 32, 77, 32, 124, 32, 59, 32, 69, 32, 61, 32, 100, 32, 124, 32, 83, 32, 59]⟩, .string ⟨#[50, 32, 50, 32, 83, 32, 61, 32, 84, 32, 84, 32, 59, 32, 84, 32, 61, 32, 97, 32, 98, 32, 124, 32, 98, 32, 97, 32, 59]⟩, .string ⟨#[49, 32, 49, 32, 83, 32, 61, 32, 97, 32, 59]⟩, .string ⟨#[50, 32, 51, 32, 83, 32, 61, 32, 97, 32, 84, 32, 124, 32, 97, 32, 98, 32, 99, 32, 59, 32, 84, 32, 61, 32, 97, 32, 124, 32, 99, 32, 83, 32, 59]⟩, .string ⟨#[49, 32, 50, 32, 83, 32, 61, 32, 84, 32, 85, 32, 84, 32, 59, 32, 84, 32, 61, 32, 59, 32, 85, 32, 61, 32, 97, 32, 85, 32, 98, 32, 124, 32, 59]⟩]
theorem rawA_get (r : Nat) (h : r < 16) : rawA[r]? = some (.string (rawT.getD r ⟨#[]⟩)) := by
  rcases (show r = 0 ∨ r = 1 ∨ r = 2 ∨ r = 3 ∨ r = 4 ∨ r = 5 ∨ r = 6 ∨ r = 7 ∨ r = 8 ∨ r = 9 ∨ r = 10 ∨ r = 11 ∨ r = 12 ∨ r = 13 ∨ r = 14 ∨ r = 15 by omega) with rfl | rfl | rfl | rfl | rfl | rfl | rfl | rfl | rfl | rfl | rfl | rfl | rfl | rfl | rfl | rfl <;> rfl
set_option maxRecDepth 100000 in
theorem raw_facts : ∀ r, r < 16 → 4 ≤ (rawT.getD r ⟨#[]⟩).size ∧ (rawT.getD r ⟨#[]⟩).size ≤ 100 ∧ byteAt (rawT.getD r ⟨#[]⟩) 0 = 48 + ((ruleText.getD r (0, 0, ⟨#[]⟩)).1 : Int) ∧ byteAt (rawT.getD r ⟨#[]⟩) 2 = 48 + ((ruleText.getD r (0, 0, ⟨#[]⟩)).2.1 : Int) ∧ (rawT.getD r ⟨#[]⟩).extract 4 (rawT.getD r ⟨#[]⟩).size = (ruleText.getD r (0, 0, ⟨#[]⟩)).2.2 ∧ (ruleText.getD r (0, 0, ⟨#[]⟩)).1 ≤ 3 ∧ 1 ≤ (ruleText.getD r (0, 0, ⟨#[]⟩)).1 ∧ (ruleText.getD r (0, 0, ⟨#[]⟩)).2.1 ≤ 4 ∧ 1 ≤ (ruleText.getD r (0, 0, ⟨#[]⟩)).2.1 := by decide +kernel
set_option maxRecDepth 100000 in
set_option maxHeartbeats 4000000 in
theorem kitrules_any (n : Int) (r : Nat) (w : World) (wn : (Lit.int .i64 n).wf = true) (hr : n % 16 = r) (hr16 : r < 16) :
    Calls Tryz.prog 91 #[.int .i64 n] w fun e w' => e = .returned (.tuple #[.int .i64 ((ruleText.getD r (0, 0, ⟨#[]⟩)).1 : Nat), .int .i64 ((ruleText.getD r (0, 0, ⟨#[]⟩)).2.1 : Nat), .string (ruleText.getD r (0, 0, ⟨#[]⟩)).2.2]) ∧ Below w.heap.size w w' := by
  obtain ⟨h4, h100, hk, ht, hx, k3, k1, t4, t1⟩ := raw_facts r hr16
  have hM := Lib.hid (fun W => mod_any n 16 W wn (by omega) (by omega))
  rw [hr] at hM
  have hcell := rawA_get r hr16
  have q : Blk (w.alloc (.cells rawA 9)) w.heap.size 9 rawA := Blk.new _ _ _
  have hb : Below w.heap.size w (w.alloc (.cells rawA 9)) := bAlc (Below.refl _ _) _
  have hc := q.cell r
  rw [hcell] at hc
  generalize rawT.getD r ⟨#[]⟩ = s at *
  generalize ruleText.getD r (0, 0, ⟨#[]⟩) = t at *
  obtain ⟨tk, tt, tx⟩ := t
  dsimp only at hk ht hx k3 k1 t4 t1 ⊢
  unfold rawA at q hb hc
  go_enter Tryz.func91, Tryz.ntmps91
  go_upto_region 2 with (fail)
  generalize w.alloc (.cells #[.string ⟨#[49, 32, 49, 32, 83, 32, 61, 32, 97, 32, 83, 32, 124, 32, 59]⟩, .string ⟨#[49, 32, 50, 32, 83, 32, 61, 32, 97, 32, 84, 32, 124, 32, 59, 32, 84, 32, 61, 32, 98, 32, 83, 32, 59]⟩, .string ⟨#[50, 32, 50, 32, 83, 32, 61, 32, 97, 32, 84, 32, 124, 32, 59, 32, 84, 32, 61, 32, 98, 32, 83, 32, 59]⟩, .string ⟨#[50, 32, 50, 32, 83, 32, 61, 32, 97, 32, 124, 32, 97, 32, 98, 32, 59]⟩, .string ⟨#[49, 32, 51, 32, 83, 32, 61, 32, 97, 32, 83, 32, 98, 32, 124, 32, 99, 32, 59]⟩, .string ⟨#[49, 32, 51, 32, 83, 32, 61, 32, 84, 32, 85, 32, 59, 32, 84, 32, 61, 32, 97, 32, 84, 32, 124, 32, 59, 32, 85, 32, 61, 32, 98, 32, 85, 32, 124, 32, 99, 32, 59]⟩, .string ⟨#[50, 32, 51, 32, 83, 32, 61, 32, 97, 32, 97, 32, 83, 32, 124, 32, 97, 32, 98, 32, 124, 32, 99, 32, 59]⟩, .string ⟨#[49, 32, 51, 32, 83, 32, 61, 32, 97, 32, 84, 32, 99, 32, 59, 32, 84, 32, 61, 32, 98, 32, 84, 32, 124, 32, 85, 32, 59, 32, 85, 32, 61, 32, 59]⟩, .string ⟨#[50, 32, 51, 32, 83, 32, 61, 32, 84, 32, 99, 32, 124, 32, 98, 32, 83, 32, 59, 32, 84, 32, 61, 32, 98, 32, 97, 32, 124, 32, 59]⟩, .string ⟨#[49, 32, 50, 32, 83, 32, 61, 32, 97, 32, 83, 32, 83, 32, 124, 32, 98, 32, 59]⟩, .string ⟨#[51, 32, 50, 32, 83, 32, 61, 32, 97, 32, 97, 32, 97, 32, 124, 32, 97, 32, 97, 32, 98, 32, 83, 32, 124, 32, 98, 32, 59]⟩, .string ⟨#[49, 32, 52, 32, 83, 32, 61, 32, 97, 32, 76, 32, 98, 32, 59, 32, 76, 32, 61, 32, 69, 32, 77, 32, 59, 32, 77, 32, 61, 32, 99, 32, 69, 32, 77, 32, 124, 32, 59, 32, 69, 32, 61, 32, 100, 32, 124, 32, 83, 32, 59]⟩, .string ⟨#[50, 32, 50, 32, 83, 32, 61, 32, 84, 32, 84, 32, 59, 32, 84, 32, 61, 32, 97, 32, 98, 32, 124, 32, 98, 32, 97, 32, 59]⟩, .string ⟨#[49, 32, 49, 32, 83, 32, 61, 32, 97, 32, 59]⟩, .string ⟨#[50, 32, 51, 32, 83, 32, 61, 32, 97, 32, 84, 32, 124, 32, 97, 32, 98, 32, 99, 32, 59, 32, 84, 32, 61, 32, 97, 32, 124, 32, 99, 32, 83, 32, 59]⟩, .string ⟨#[49, 32, 50, 32, 83, 32, 61, 32, 84, 32, 85, 32, 84, 32, 59, 32, 84, 32, 61, 32, 59, 32, 85, 32, 61, 32, 97, 32, 85, 32, 98, 32, 124, 32, 59]⟩] 9) = W1 at *
  clear q
  have hz0 : (0 : Int) ≤ r := by omega
  have hz1 : (r : Int) < 16 := by omega
  go_upto_region 3 with (go_at_call 15; refine (hM.out _).mono ?_; clear hM; rintro e w2 ⟨rfl, rfl⟩)
  clear hc hcell
  have hb0 := (byteAt_get s 0 (by omega)).symm
  have hb2 := (byteAt_get s 2 (by omega)).symm
  rw [hk] at hb0
  rw [ht] at hb2
  replace hk := Lib.hid hk
  replace ht := Lib.hid ht
  have hz4 : (4 : Int) ≤ s.size := by omega
  have hz5 : (s.size : Int) ≤ 100 := by omega
  have hz6 : (1 : Int) ≤ tk := by omega
  have hz7 : (tk : Int) ≤ 3 := by omega
  have hz8 : (1 : Int) ≤ tt := by omega
  have hz9 : (tt : Int) ≤ 4 := by omega
  have e1 : (48 + (tk : Int) - 48) = tk := by omega
  have e2 : (48 + (tt : Int) - 48) = tt := by omega
  go_region
  go_wp2_with fail
  go_ret3
  exact ⟨rfl, bDrw hb⟩
theorem conv1x (W : World) (b : UInt8) (nb : Int) (hb : nb = (b.toNat : Int)) : (convert 129 9 (.slice (some ⟨W.heap.size, 0, none⟩) 1 1)).run Tryz.prog (W.alloc (.cells #[.int .u8 nb] 5)) = .ok (.string ⟨#[b]⟩) (W.alloc (.cells #[.int .u8 nb] 5)) := by
  subst hb
  refine run_convert_bytes_back (W.alloc (.cells #[.int .u8 (b.toNat : Int)] 5)) 129 9 5 ⟨W.heap.size, 0, none⟩ 1 [b] (by kernel_rfl) (by kernel_rfl) (by kernel_rfl) ?_
  intro i hi
  have : i = 0 := by simp at hi; omega
  subst this
  have e : (⟨W.heap.size, 0, none⟩ : Addr).add 0 = ⟨W.heap.size, 0, none⟩ := by simp [Addr.add]
  rw [e, (Blk.new W 5 #[.int .u8 (b.toNat : Int)]).cell 0]
  rfl
def txR (n : Int) : Nat := (n % 16).toNat
def txM (n : Int) : Int := n % 1099511627776 / 16
def txA (n : Int) : Bool := decide (txM n % 3 = 2)
def txB (n : Int) : Bool := decide (txM n / 3 % 4 = 3)
theorem terms_assoc (X : ByteArray) (n : Nat) : X ++ termsB (n + 1) = X ++ termsB n ++ ⟨#[44, 32]⟩ ++ ⟨#[UInt8.ofNat (98 + n)]⟩ := by
  show X ++ (termsB n ++ ⟨#[44, 32]⟩ ++ ⟨#[UInt8.ofNat (98 + n)]⟩) = _
  rw [← ByteArray.append_assoc, ← ByteArray.append_assoc]
set_option maxRecDepth 100000 in
set_option maxHeartbeats 4000000 in
theorem text_any (n : Int) (w : World) (wn : (Lit.int .i64 n).wf = true) :
    Calls Tryz.prog 45 #[.int .i64 n] w fun e w' => e = .returned (.string (textB (txR n) (txA n) (txB n))) ∧ Below w.heap.size w w' := by
  have hr16 : txR n < 16 := by unfold txR; omega
  have hr : n % 16 = (txR n : Int) := by unfold txR; omega
  obtain ⟨h4, h100, hk, ht, hx, k3, k1, t4, t1⟩ := raw_facts (txR n) hr16
  have hT := Lib.hid (fun W => kitrules_any n (txR n) W wn hr hr16)
  have hM := Lib.hid (fun W => mod_any n 1099511627776 W wn (by omega) (by omega))
  obtain ⟨K, hK⟩ : ∃ K : Nat, K = textK (txR n) (txA n) := ⟨_, rfl⟩
  obtain ⟨T, hTT⟩ : ∃ T : Nat, T = textT (txR n) (txB n) := ⟨_, rfl⟩
  have hR : textB (txR n) (txA n) (txB n) = ⟨#[108, 111, 111, 107, 97, 104, 101, 97, 100, 32]⟩ ++ ⟨#[UInt8.ofNat (48 + K)]⟩ ++ ⟨#[59, 32, 116, 111, 107, 101, 110, 32, 97]⟩ ++ termsB (T - 1) ++ ⟨#[59, 32, 115, 101, 112, 97, 114, 97, 116, 111, 114, 32, 122, 59, 32, 115, 116, 97, 114, 116, 32, 83, 59, 32]⟩ ++ (ruleText.getD (txR n) (0, 0, ⟨#[]⟩)).2.2 := by
    rw [hK, hTT]; rfl
  unfold textK at hK
  unfold textT at hTT
  have hmb : 0 ≤ n % 1099511627776 ∧ n % 1099511627776 < 1099511627776 := by omega
  have hM0 : txM n = n % 1099511627776 / 16 := rfl
  have hA : txA n = decide (txM n % 3 = 2) := rfl
  have hB : txB n = decide (txM n / 3 % 4 = 3) := rfl
  generalize txA n = a at *
  generalize txB n = b at *
  generalize txR n = r at *
  generalize ruleText.getD r (0, 0, ⟨#[]⟩) = t at *
  generalize textB r a b = R at *
  obtain ⟨tk, tt, tx⟩ := t
  dsimp only at hR hT hK hTT k3 k1 t4 t1
  have htx : tx.size ≤ 100 := by
    have hx2 : (rawT.getD r ⟨#[]⟩).extract 4 (rawT.getD r ⟨#[]⟩).size = tx := hx
    rw [← hx2, ByteArray.size_extract]; omega
  clear h4 h100 hk ht hx hr hr16
  replace hR := Lib.hid hR
  have hz6 : (1 : Int) ≤ tk := by omega
  have hz7 : (tk : Int) ≤ 3 := by omega
  have hz8 : (1 : Int) ≤ tt := by omega
  have hz9 : (tt : Int) ≤ 4 := by omega
  go_enter Tryz.func45, Tryz.ntmps45
  go_upto_region 3 with (first
    | (go_at_call 91; refine (hT.out _).mono ?_; clear hT; rintro e w1 ⟨rfl, hb1⟩)
    | (go_at_call 15; refine (hM.out _).mono ?_; clear hM; rintro e w2 ⟨rfl, rfl⟩))
  have hmm : 0 ≤ txM n := by rw [hM0]; omega
  have hmb2 : txM n ≤ 1099511627776 := by rw [hM0]; omega
  rw [← hM0]
  generalize txM n = m at *
  replace hM0 := Lib.hid hM0
  clear hmb
  have hm3 : 0 ≤ m % 3 := by omega
  have hmd : 0 ≤ m / 3 ∧ m / 3 ≤ 1099511627776 := by omega
  go_cut [24] (fun s24 wx => s24 = .bool (a && decide (tk < 2)) ∧ wx = w1)
  case first =>
    have hd : Hid ((m % 3 == 2) = a) := Lib.hid (by rw [hA]; rfl)
    by_cases h2 : tk < 2
    · have h2i : decide ((tk : Int) < 2) = true := decide_eq_true (by omega)
      have h2n : decide (tk < 2) = true := decide_eq_true h2
      have hdo := hd.out
      replace hA := Lib.hid hA
      cases a
      · go_wp2_with fail
        go_meet
        exact ⟨by simp, rfl⟩
      · go_wp2_with fail
        go_meet
        exact ⟨by simp [h2], rfl⟩
    · have h2i : decide ((tk : Int) < 2) = false := decide_eq_false (by omega)
      have h2n : decide (tk < 2) = false := decide_eq_false h2
      have hdo := hd.out
      replace hA := Lib.hid hA
      cases a
      · go_wp2_with fail
        go_meet
        exact ⟨by simp, rfl⟩
      · go_wp2_with fail
        go_meet
        exact ⟨by simp [h2], rfl⟩
  case rest =>
    obtain ⟨rfl, rfl⟩ := hcut
    have hKa : K = tk + (if (a && decide (tk < 2)) = true then 1 else 0) := by rw [hK]; simp
    generalize (a && decide (tk < 2)) = ka at *
    replace hK := Lib.hid hK
    go_upto_if 24 with (fail)
    go_cut [3] (fun s3 wx => s3 = .int .i64 (K : Nat) ∧ wx = wc)
    case first =>
      have hKo := Lib.hid hKa
      clear hKa
      cases ka
      · go_wp2_with fail
        go_meet
        exact ⟨by rw [hKo.out]; simp, rfl⟩
      · go_wp2_with fail
        go_meet
        exact ⟨by rw [hKo.out]; simp, rfl⟩
    case rest =>
      obtain ⟨rfl, rfl⟩ := hcut
      have hK4 : K ≤ 4 := by rw [hKa]; split <;> omega
      replace hKa := Lib.hid hKa
      go_upto_region 5 with (fail)
      go_cut [34] (fun s34 wx => s34 = .bool (b && decide (tt < 4)) ∧ wx = wc)
      case first =>
        have hd : Hid ((m / 3 % 4 == 3) = b) := Lib.hid (by rw [hB]; rfl)
        by_cases h2 : tt < 4
        · have h2i : decide ((tt : Int) < 4) = true := decide_eq_true (by omega)
          have h2n : decide (tt < 4) = true := decide_eq_true h2
          have hdo := hd.out
          replace hB := Lib.hid hB
          cases b
          · go_wp2_with fail
            go_meet
            exact ⟨by simp, rfl⟩
          · go_wp2_with fail
            go_meet
            exact ⟨by simp [h2], rfl⟩
        · have h2i : decide ((tt : Int) < 4) = false := decide_eq_false (by omega)
          have h2n : decide (tt < 4) = false := decide_eq_false h2
          have hdo := hd.out
          replace hB := Lib.hid hB
          cases b
          · go_wp2_with fail
            go_meet
            exact ⟨by simp, rfl⟩
          · go_wp2_with fail
            go_meet
            exact ⟨by simp [h2], rfl⟩
      case rest =>
        obtain ⟨rfl, rfl⟩ := hcut
        have hTb : T = tt + (if (b && decide (tt < 4)) = true then 1 else 0) := by rw [hTT]; simp
        generalize (b && decide (tt < 4)) = kb at *
        replace hTT := Lib.hid hTT
        go_upto_if 34 with (fail)
        go_cut [4] (fun s4 wx => s4 = .int .i64 (T : Nat) ∧ wx = wc)
        case first =>
          have hKo := Lib.hid hTb
          clear hTb
          cases kb
          · go_wp2_with fail
            go_meet
            exact ⟨by rw [hKo.out]; simp, rfl⟩
          · go_wp2_with fail
            go_meet
            exact ⟨by rw [hKo.out]; simp, rfl⟩
        case rest =>
          obtain ⟨rfl, rfl⟩ := hcut
          have hT5 : 1 ≤ T ∧ T ≤ 5 := by rw [hTb]; split <;> omega
          replace hTb := Lib.hid hTb
          obtain ⟨bk, hbk⟩ : ∃ bk, bk = UInt8.ofNat (48 + K) := ⟨_, rfl⟩
          have hcv := conv1x wc bk (48 + (K : Int)) (by rw [hbk, show (UInt8.ofNat (48 + K)).toNat = 48 + K by simp; omega]; omega)
          have hKz : (K : Int) ≤ 4 := by omega
          have hRo := hR.out
          rw [← hbk] at hRo
          replace hRo := Lib.hid hRo
          replace hbk := Lib.hid hbk
          clear hR
          go_upto_region 8 with (fail)
          obtain ⟨P, hP⟩ : ∃ P : ByteArray, P = ⟨#[108, 111, 111, 107, 97, 104, 101, 97, 100, 32]⟩ ++ ⟨#[bk]⟩ ++ ⟨#[59, 32, 116, 111, 107, 101, 110, 32, 97]⟩ := ⟨_, rfl⟩
          rw [← hP] at hRo
          rw [← hP]
          replace hP := Lib.hid hP
          have hb2 : Below w.heap.size w (wc.alloc (.cells #[.int .u8 (48 + (K : Int))] 5)) := bAlc hb1 _
          clear hcv hb1
          generalize wc.alloc (.cells #[.int .u8 (48 + (K : Int))] 5) = W2 at *
          go_upto_region 9 with (fail)
          go_loopg [7, 8] (T - 1) (fun gk s7 s8 wr => ∃ (i : Nat) (X : ByteArray), s7 = .string X ∧ s8 = .int .i64 i ∧ i + gk = T ∧ 1 ≤ i ∧ Hid (X = P ++ termsB (i - 1)) ∧ Below w.heap.size w wr ∧ X.size ≤ 20 + 3 * i)
          case atStart => exact ⟨1, P, rfl, rfl, by omega, by omega, Lib.hid (by show P = P ++ ⟨#[]⟩; exact (ByteArray.append_empty).symm), hb2, by rw [hP.out, ByteArray.size_append, ByteArray.size_append]; show (10 + 1 + 9 : Nat) ≤ _; omega⟩
          case round =>
            clear hb2
            obtain ⟨i, X, rfl, rfl, hi, h1, hX, hb, hXs⟩ := hrel
            have hXs1 : X.size ≤ 100 := by omega
            have hXs2 : (X ++ ⟨#[44, 32]⟩).size ≤ 102 := by rw [ByteArray.size_append]; show X.size + 2 ≤ 102; omega
            have hXs3 : (X ++ ⟨#[59, 32, 115, 101, 112, 97, 114, 97, 116, 111, 114, 32, 122, 59, 32, 115, 116, 97, 114, 116, 32, 83, 59, 32]⟩).size ≤ 124 := by rw [ByteArray.size_append]; show X.size + 24 ≤ 124; omega
            by_cases hin : i < T
            · obtain ⟨bi, hbi⟩ : ∃ bi, bi = UInt8.ofNat (98 + (i - 1)) := ⟨_, rfl⟩
              have hcv := conv1x wr bi (97 + (i : Int)) (by rw [hbi, show (UInt8.ofNat (98 + (i - 1))).toNat = 98 + (i - 1) by simp; omega]; omega)
              have hX2 : Hid (X ++ ⟨#[44, 32]⟩ ++ ⟨#[bi]⟩ = P ++ termsB (i + 1 - 1)) := Lib.hid (by
                rw [hX.out, hbi, show i + 1 - 1 = (i - 1) + 1 by omega, terms_assoc])
              have hz1 : (1 : Int) ≤ i := by omega
              have hz2 : (i : Int) < T := by omega
              have hz3 : (i : Int) ≤ 5 := by omega
              replace hbi := Lib.hid hbi
              replace hi := Lib.hid hi
              go_wp2_with fail
              go_roundg (T - (i + 1))
              case measure => have := hi.out; omega
              case rel => exact ⟨i + 1, _, rfl, by go_num, by have := hi.out; omega, by omega, hX2, bAlc hb _, by rw [ByteArray.size_append, ByteArray.size_append]; show X.size + 2 + 1 ≤ _; have := hi.out; omega⟩
            · have hie : i = T := by omega
              subst hie
              have hfin : Hid (X ++ ⟨#[59, 32, 115, 101, 112, 97, 114, 97, 116, 111, 114, 32, 122, 59, 32, 115, 116, 97, 114, 116, 32, 83, 59, 32]⟩ ++ tx = R) := Lib.hid (by rw [hRo.out, hX.out])
              have hz2 : ¬ (i : Int) < i := by omega
              go_wp2_with fail
              go_ret
              exact ⟨congrArg (fun z => Ending.returned (Value.string z)) hfin.out, hb⟩
end Go.Proofs.YtnnkfgekiaaehaaGreat

/- Each of the kit's texts is parsed and right, part 1 of 4. -/
namespace Go.Proofs.YtnnkfgekiaaehaaGreat
set_option maxRecDepth 100000 in
set_option maxHeartbeats 0 in
theorem okT_0 : ∀ a b, okT 0 a b = true := by decide +kernel
set_option maxRecDepth 100000 in
set_option maxHeartbeats 0 in
theorem okT_1 : ∀ a b, okT 1 a b = true := by decide +kernel
set_option maxRecDepth 100000 in
set_option maxHeartbeats 0 in
theorem okT_2 : ∀ a b, okT 2 a b = true := by decide +kernel
set_option maxRecDepth 100000 in
set_option maxHeartbeats 0 in
theorem okT_3 : ∀ a b, okT 3 a b = true := by decide +kernel
end Go.Proofs.YtnnkfgekiaaehaaGreat

/- Each of the kit's texts is parsed and right, part 2 of 4. -/
namespace Go.Proofs.YtnnkfgekiaaehaaGreat
set_option maxRecDepth 100000 in
set_option maxHeartbeats 0 in
theorem okT_4 : ∀ a b, okT 4 a b = true := by decide +kernel
set_option maxRecDepth 100000 in
set_option maxHeartbeats 0 in
theorem okT_5 : ∀ a b, okT 5 a b = true := by decide +kernel
set_option maxRecDepth 100000 in
set_option maxHeartbeats 0 in
theorem okT_6 : ∀ a b, okT 6 a b = true := by decide +kernel
set_option maxRecDepth 100000 in
set_option maxHeartbeats 0 in
theorem okT_7 : ∀ a b, okT 7 a b = true := by decide +kernel
end Go.Proofs.YtnnkfgekiaaehaaGreat

/- Each of the kit's texts is parsed and right, part 3 of 4. -/
namespace Go.Proofs.YtnnkfgekiaaehaaGreat
set_option maxRecDepth 100000 in
set_option maxHeartbeats 0 in
theorem okT_8 : ∀ a b, okT 8 a b = true := by decide +kernel
set_option maxRecDepth 100000 in
set_option maxHeartbeats 0 in
theorem okT_9 : ∀ a b, okT 9 a b = true := by decide +kernel
set_option maxRecDepth 100000 in
set_option maxHeartbeats 0 in
theorem okT_10 : ∀ a b, okT 10 a b = true := by decide +kernel
set_option maxRecDepth 100000 in
set_option maxHeartbeats 0 in
theorem okT_11 : ∀ a b, okT 11 a b = true := by decide +kernel
end Go.Proofs.YtnnkfgekiaaehaaGreat

/- Each of the kit's texts is parsed and right, part 4 of 4. -/
namespace Go.Proofs.YtnnkfgekiaaehaaGreat
set_option maxRecDepth 100000 in
set_option maxHeartbeats 0 in
theorem okT_12 : ∀ a b, okT 12 a b = true := by decide +kernel
set_option maxRecDepth 100000 in
set_option maxHeartbeats 0 in
theorem okT_13 : ∀ a b, okT 13 a b = true := by decide +kernel
set_option maxRecDepth 100000 in
set_option maxHeartbeats 0 in
theorem okT_14 : ∀ a b, okT 14 a b = true := by decide +kernel
set_option maxRecDepth 100000 in
set_option maxHeartbeats 0 in
theorem okT_15 : ∀ a b, okT 15 a b = true := by decide +kernel
end Go.Proofs.YtnnkfgekiaaehaaGreat

/- The kit's Grammar. -/
namespace Go.Proofs.YtnnkfgekiaaehaaGreat
open Go.ChangeShapes Go.WideShapes Go.ChangeAt Go.RowKit
set_option linter.unusedVariables false
theorem okT_all (r : Nat) (h : r < 16) (a b : Bool) : okT r a b = true := by
  rcases (show r = 0 ∨ r = 1 ∨ r = 2 ∨ r = 3 ∨ r = 4 ∨ r = 5 ∨ r = 6 ∨ r = 7 ∨ r = 8 ∨ r = 9 ∨ r = 10 ∨ r = 11 ∨ r = 12 ∨ r = 13 ∨ r = 14 ∨ r = 15 by omega) with rfl | rfl | rfl | rfl | rfl | rfl | rfl | rfl | rfl | rfl | rfl | rfl | rfl | rfl | rfl | rfl
  · exact okT_0 a b
  · exact okT_1 a b
  · exact okT_2 a b
  · exact okT_3 a b
  · exact okT_4 a b
  · exact okT_5 a b
  · exact okT_6 a b
  · exact okT_7 a b
  · exact okT_8 a b
  · exact okT_9 a b
  · exact okT_10 a b
  · exact okT_11 a b
  · exact okT_12 a b
  · exact okT_13 a b
  · exact okT_14 a b
  · exact okT_15 a b
theorem gr_own {w W : World} {B base : Nat} {g : Gr} {a : GA} (h : GrAt w B g a) (ho : GOwn g a base W) : GrAt W W.heap.size g a := by
  obtain ⟨o1, o2, o3⟩ := ho
  obtain ⟨A1, c1', e1, r1, l1, l1', _⟩ := Own1.reads o1
  obtain ⟨A2, c2', e2, r2, l2, l2', _⟩ := Own1.reads o2
  obtain ⟨A3, c3', e3, r3, l3, l3'⟩ := o3.reads
  rw [show (strs g.toks).length = g.toks.length by simp [strs]] at e1 r1 l1
  rw [show (strs g.names).length = g.names.length by simp [strs]] at e2 r2 l2
  injection e1 with e11 e12 e13
  injection e2 with e21 e22 e23
  injection e3 with e31 e32 e33
  subst e11 e13 e21 e23 e31 e33
  exact ⟨r1, l1, l1', r2, l2, l2', r3, l3, l3', h.sep, h.ts, h.ns⟩
theorem results_gr {fn : Func} {p : Tmp} (h : fn.results = #[.cell p 25]) (tmps : Array Value) (w : World) (g : Nat) (cs : Array Value)
    (hp : tmps.getD p undef = .pointer (some ⟨g, 0, none⟩)) (h1 : Blk w g 25 cs) (s1 : cs.size = 6) :
    (results fn tmps).run Tryz.prog w = .ok (.agg cs) w :=
  results_cell_row h tmps w g 25 cs (0, 0) _ hp h1 under26' rfl (by rw [size26', s1])
def RetGK (g : Gr) (w : World) (e : Ending) (w' : World) : Prop := ∃ a, e = .returned (gval g a) ∧ GrAt w' w'.heap.size g a ∧ Below w.heap.size w w'
def gNum (n : Int) : Gr := gT (txR n) (txA n) (txB n)
set_option maxRecDepth 100000 in
set_option maxHeartbeats 4000000 in
theorem gram_any (n : Int) (w : World) (wn : (Lit.int .i64 n).wf = true) : Calls Tryz.prog 11 #[.int .i64 n] w (RetGK (gNum n) w) := by
  have hr16 : txR n < 16 := by unfold txR; omega
  obtain ⟨x, hx1, hx2, hx3⟩ := okT_some (okT_all (txR n) hr16 (txA n) (txB n))
  have hR := Lib.hid (fun (a : GA) (w' : World) (h1 : GrAt w' w'.heap.size (gNum n) a) (h2 : Below w.heap.size w w') => (show RetGK (gNum n) w (.returned (gval (gNum n) a)) w' from ⟨a, rfl, h1, h2⟩))
  generalize RetGK (gNum n) w = RR at *
  have hg : gNum n = gOf x := hx3.symm
  generalize gNum n = g at *
  have hT := Lib.hid (fun W => text_any n W wn)
  have hP := Lib.hid (fun W => parse_any _ x W hx1)
  have hS := srcR hx2
  generalize textB (txR n) (txA n) (txB n) = s at *
  clear hx1 hx2 hx3
  obtain ⟨k, toks, sep, start, rules⟩ := x
  have hO := Lib.hid (fun (W : World) (TA RA : Option Addr) (tc rc : Nat) (h : SrcAt W (fun b => b < W.heap.size) ⟨k, toks, sep, start, rules⟩ (.slice TA toks.length tc) (.slice RA rules.length rc)) => of_ok h hS)
  rw [← hg] at hO
  replace hg := Lib.hid hg
  clear hS
  have hb0 : Below w.heap.size w (w.alloc (.cells #[.int .i64 0, .slice none 0 0, .string ⟨#[]⟩, .slice none 0 0, .int .i64 0, .slice none 0 0] 25)) := bAlc (Below.refl _ _) _
  have z0 : Blk (w.alloc (.cells #[.int .i64 0, .slice none 0 0, .string ⟨#[]⟩, .slice none 0 0, .int .i64 0, .slice none 0 0] 25)) w.heap.size 25 #[.int .i64 0, .slice none 0 0, .string ⟨#[]⟩, .slice none 0 0, .int .i64 0, .slice none 0 0] := Blk.new _ _ _
  go_enter Tryz.func11, Tryz.ntmps11
  go_upto_region 1 with (fail)
  generalize w.alloc (.cells #[.int .i64 0, .slice none 0 0, .string ⟨#[]⟩, .slice none 0 0, .int .i64 0, .slice none 0 0] 25) = W1 at *
  go_upto_region 2 with (first
    | (go_at_call 45; refine (hT.out _).mono ?_; clear hT; rintro e w2 ⟨rfl, hb2⟩)
    | (go_at_call 44; refine (hP.out _).mono ?_; clear hP; rintro e w3 ⟨T, R, he3, hS3, hb3⟩; obtain ⟨TA, tc, eT, _, _⟩ := hS3.1.strs; obtain ⟨RA, rc, eR, _, _⟩ := hS3.2.len; dsimp only at eT eR; subst eT; subst eR; unfold srcV at he3; dsimp only at he3; subst he3))
  have hb4 : Below W1.heap.size W1 w3 := bStep hb2 hb3
  have q3 : Blk ((w3.alloc (.cells #[.int .i64 k, .slice TA toks.length tc, .string sep, .string start, .slice RA rules.length rc] 80)).alloc (.cells #[.int .i64 0, .int .i64 0] 82)) w3.heap.size 80 #[.int .i64 k, .slice TA toks.length tc, .string sep, .string start, .slice RA rules.length rc] := (Blk.new _ _ _).alloc _
  have hb5 : Below w3.heap.size w3 ((w3.alloc (.cells #[.int .i64 k, .slice TA toks.length tc, .string sep, .string start, .slice RA rules.length rc] 80)).alloc (.cells #[.int .i64 0, .int .i64 0] 82)) := bAlc (bAlc (Below.refl _ _) _) _
  have hS5 : SrcAt ((w3.alloc (.cells #[.int .i64 k, .slice TA toks.length tc, .string sep, .string start, .slice RA rules.length rc] 80)).alloc (.cells #[.int .i64 0, .int .i64 0] 82)) (fun b => b < ((w3.alloc (.cells #[.int .i64 k, .slice TA toks.length tc, .string sep, .string start, .slice RA rules.length rc] 80)).alloc (.cells #[.int .i64 0, .int .i64 0] 82)).heap.size) ⟨k, toks, sep, start, rules⟩ (.slice TA toks.length tc) (.slice RA rules.length rc) :=
    ⟨(hS3.1.step hb5).mono fun b hb => Nat.lt_of_lt_of_le hb hb5.size, (hS3.2.step hb5).mono fun b hb => Nat.lt_of_lt_of_le hb hb5.size⟩
  have hO5 := Lib.hid (hO.out _ _ _ _ _ hS5)
  have hb6 := bStep hb4 hb5
  clear hO hS5 hS3 hb3 hb4 hb5 hb2
  generalize (w3.alloc (.cells #[.int .i64 k, .slice TA toks.length tc, .string sep, .string start, .slice RA rules.length rc] 80)).alloc (.cells #[.int .i64 0, .int .i64 0] 82) = W4 at *
  generalize w3.heap.size = gs at *
  have d0 : W4.cell? ⟨gs, 0, none⟩ = some (.int .i64 k) := q3.cell 0
  have d1 : W4.cell? ⟨gs, 1, none⟩ = some (.slice TA toks.length tc) := q3.cell 1
  have d2 : W4.cell? ⟨gs, 2, none⟩ = some (.string sep) := q3.cell 2
  have d3 : W4.cell? ⟨gs, 3, none⟩ = some (.string start) := q3.cell 3
  have d4 : W4.cell? ⟨gs, 4, none⟩ = some (.slice RA rules.length rc) := q3.cell 4
  go_upto_region 3 with (go_at_call 46; refine hO5.out.mono ?_; clear hO5; rintro e w5 ⟨⟨ta, tc5, na, nc5, pa, pc5⟩, he5, hG5, hGO, hb5⟩; unfold gval gcells at he5; dsimp only at he5; subst he5)
  clear d0 d1 d2 d3 d4 q3
  have hb7 := bStep hb6 hb5
  have zq := z0.step hb7
  have hb8 := bAlc hb7 (.cells #[.int .i64 g.k, .slice ta g.toks.length tc5, .string g.sep, .slice na g.names.length nc5, .int .i64 g.start, .slice pa g.prods.length pc5] 25)
  have q5 : Blk (w5.alloc (.cells #[.int .i64 g.k, .slice ta g.toks.length tc5, .string g.sep, .slice na g.names.length nc5, .int .i64 g.start, .slice pa g.prods.length pc5] 25)) w5.heap.size 25 #[.int .i64 g.k, .slice ta g.toks.length tc5, .string g.sep, .slice na g.names.length nc5, .int .i64 g.start, .slice pa g.prods.length pc5] := Blk.new _ _ _
  have hb9 := hb0.trans (hb8.mono hb0.size)
  obtain ⟨g1, g2, g3⟩ := hGO
  replace g1 := g1.alloc (.cells #[.int .i64 g.k, .slice ta g.toks.length tc5, .string g.sep, .slice na g.names.length nc5, .int .i64 g.start, .slice pa g.prods.length pc5] 25)
  replace g2 := g2.alloc (.cells #[.int .i64 g.k, .slice ta g.toks.length tc5, .string g.sep, .slice na g.names.length nc5, .int .i64 g.start, .slice pa g.prods.length pc5] 25)
  replace g3 := g3.step (bAlc (Below.refl _ _) (.cells #[.int .i64 g.k, .slice ta g.toks.length tc5, .string g.sep, .slice na g.names.length nc5, .int .i64 g.start, .slice pa g.prods.length pc5] 25))
  replace zq := zq.alloc (.cells #[.int .i64 g.k, .slice ta g.toks.length tc5, .string g.sep, .slice na g.names.length nc5, .int .i64 g.start, .slice pa g.prods.length pc5] 25)
  have hsz := Lib.hid hG5
  clear hG5 hb8 hb7 hb5 hb6 hb0 z0
  generalize w5.alloc (.cells #[.int .i64 g.k, .slice ta g.toks.length tc5, .string g.sep, .slice na g.names.length nc5, .int .i64 g.start, .slice pa g.prods.length pc5] 25) = W5 at *
  generalize w5.heap.size = gb at *
  have d0 := q5.cell 0
  have d1 := q5.cell 1
  have d2 := q5.cell 2
  have d3 := q5.cell 3
  have d4 := q5.cell 4
  have d5 := q5.cell 5
  have n0 := zq.frozen 0
  have n1 := zq.frozen 1
  have n2 := zq.frozen 2
  have n3 := zq.frozen 3
  have n4 := zq.frozen 4
  have n5 := zq.frozen 5
  have m0 := zq.cell 0
  have m1 := zq.cell 1
  have m2 := zq.cell 2
  have m3 := zq.cell 3
  have m4 := zq.cell 4
  have m5 := zq.cell 5
  simp only [List.getElem?_toArray, List.getElem?_cons_zero, List.getElem?_cons_succ] at d0 d1 d2 d3 d4 d5 m0 m1 m2 m3 m4 m5
  have hgE := far6 zq (.int .i64 g.k) (.slice ta g.toks.length tc5) (.string g.sep) (.slice na g.names.length nc5) (.int .i64 g.start) (.slice pa g.prods.length pc5)
  have hPE := put6 zq (.int .i64 g.k) (.slice ta g.toks.length tc5) (.string g.sep) (.slice na g.names.length nc5) (.int .i64 g.start) (.slice pa g.prods.length pc5)
  have hne : ∀ (e : TypeId), e ≠ 25 → ∀ (b : Nat) (cs : Array Value), some w.heap.size = some b → ¬ Blk W5 b e cs := fun e he b cs e1 hq => by injection e1 with e1; subst e1; exact he (blk_type hq zq)
  have hBE2 := bSet6 (g := w.heap.size) hb9 (Nat.le_refl _) (.int .i64 g.k) (.slice ta g.toks.length tc5) (.string g.sep) (.slice na g.names.length nc5) (.int .i64 g.start) (.slice pa g.prods.length pc5)
  have o1 := row_grown g1 hgE (hne 9 (by decide))
  have o2 := row_grown g2 hgE (hne 9 (by decide))
  have o3 := g3.grown hgE (hne 3 (by decide)) (hne 47 (by decide))
  have hfin := Lib.hid (hR.out ⟨ta, tc5, na, nc5, pa, pc5⟩ _ (gr_own hsz.out ⟨o1, o2, o3⟩) hBE2)
  clear hgE hne o1 o2 o3 g1 g2 g3
  unfold gval gcells at hfin
  dsimp only at hfin
  go_wp2_with fail
  refine bodyPost_ret (results_gr rfl _ _ w.heap.size #[.int .i64 g.k, .slice ta g.toks.length tc5, .string g.sep, .slice na g.names.length nc5, .int .i64 g.start, .slice pa g.prods.length pc5] rfl hPE rfl) rfl ?_
  exact hfin.out
end Go.Proofs.YtnnkfgekiaaehaaGreat

/- FollowForms, walked at the grammar of a number. -/
namespace Go.Proofs.YtnnkfgekiaaehaaGreat
open Go.ChangeShapes Go.WideShapes Go.ChangeAt Go.RowKit
set_option linter.unusedVariables false
theorem followForms_walk (n : Int) (A : Option Addr) (len cap : Nat) (zs : List Int) (w : World) (wn : (Lit.int .i64 n).wf = true) (h : IsInts w A len cap zs) :
    Calls Tryz.prog 4 #[.int .i64 n, .slice A len cap] w fun e w' => e = .returned (.bool true) ∧ Below w.heap.size w w' := by
  have hr : txR n < 16 := by unfold txR; omega
  obtain ⟨h1, h2, h3⟩ := ints_reads h
  exact forms_walk (gNum n) (gT_ok hr _ _).1 (fun l hl L hn hL => gT_few hr _ _ (fun s hs h16 => by rcases hl s hs with h | h; exact h; omega) hn hL) n
    (fun W => gram_any n W wn) A len cap (zs.take len) w h1 h2 h3
end Go.Proofs.YtnnkfgekiaaehaaGreat
