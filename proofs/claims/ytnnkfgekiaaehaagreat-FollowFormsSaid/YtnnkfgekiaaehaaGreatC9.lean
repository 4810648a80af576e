/- Walks and plain laws, part 9 of 10: The kit's OwnGrammar; The grammar of a source (layer 9's reference): find, symbol; the grammar under way; The grammars that the kit makes of numbers; What stands behind a nonterminal in a leftmost form, plainly; FOLLOW of a given grammar, reckoned; the chapter's example; The statements' own helpers: look, example, awake; The statements' own helper awake: the chapter's example holds; The kit's Any; Small grammars: few looks; the laws of FOLLOW on sets; The grammars that the kit makes of numbers are right and small; look.Check; follow.Has and follow.Ends; The walk of FollowForms. Conditions: none beyond those that each theorem states. -/
import Derived.Test.YtnnkfgekiaaehaaGreatC8
import Derived.Deep.RegionHeld3
import Derived.Deep.LoopGhost
import Derived.Laws.IdiomStrings
import Derived.Laws.CopyOwn
import Derived.Deep.DeepCutAuto
/- The kit's OwnGrammar. -/
namespace Go.Proofs.YtnnkfgekiaaehaaGreat
open Go.ChangeShapes Go.WideShapes Go.ChangeAt Go.RowKit
set_option linter.unusedVariables false
section
variable (w : World) {ops : Array Oper} {rest : List Oper} {o : Oper} {a : Act} {K : Act → World → Prop} {Q : Exit → Act → World → Prop}
theorem wp_pushP (s x : Operand) (ho : o.op = .call { callee := .builtin .append, args := #[s, x], argTypes := #[23, 23] })
    (base : Nat) (v : Value) (ps : List Pr) (rs : List (Option Addr × Nat)) (hs : a.eval s = v) (hown : PsR w base v ps rs) (g : Nat) (p : Pr) (RA : Option Addr) (c : Nat) (hx : a.eval x = .slice (some ⟨g, 0, none⟩) 1 1) (hb : Blk w g 47 #[.int .i64 p.left, .slice RA p.right.length c])
    (hr : RtAt w base RA c p.right) (hn : ps.length < 1000000) (hbase : base ≤ w.heap.size)
    (h : ∀ v' w', PsO w' base v' (ps ++ [p]) → w.grownBy w' v.ownBlock → K (a.put o.dst v') w') : Oper.wp Tryz.prog o a w K Q := by
  obtain ⟨i0, hi0, hz0, hz1, hz2⟩ := info_parts info59
  have hnews : ∀ j u, [Value.int .i64 p.left, .slice RA p.right.length c][j]? = some u → w.cell? ((⟨g, 0, none⟩ : Addr).add j) = some u := by
    intro j u hu
    have : (⟨g, 0, none⟩ : Addr).add j = ⟨g, j, none⟩ := by unfold Addr.add; split <;> simp_all
    rw [this, hb.cell]
    simpa using hu
  obtain ⟨v', w', hrun, h2, h3, h4, h5⟩ := run_append_own_at (P := Tryz.prog) w base 23 o.type 47 i0 _ 2 32 under24 hi0 hz0 hz1 hz2 rfl (by omega) v ps.length _ hown.2.1 ⟨g, 0, none⟩ 1 1 [.int .i64 p.left, .slice RA p.right.length c] rfl hnews (by simp [Value.oneCell']) (by unfold maxLen; omega) (by omega) hbase
  unfold Oper.wp execOp
  simp only [ho, resolve, invoke, builtin, Sem.run_bind, Sem.run_pure, Result.andThen_ok, List.map_toArray, List.map_cons, List.map_nil, hs, hx, hrun]
  exact h v' w' (PsO.pushed hown hr h2 h3) h3
end
theorem grownBy_setC' (w : World) (b i : Nat) (v : Value) : w.grownBy (w.setCell ⟨b, i, none⟩ v) (some b) :=
  ⟨rfl, rfl, rfl, by simp, fun k hk hne => Below.heap_setCell w ⟨b, i, none⟩ v k (fun e => hne (by rw [e]))⟩
def ogc (g : Gr) (tv nv pv : Value) : Array Value := #[.int .i64 g.k, tv, .string g.sep, nv, .int .i64 g.start, pv]
def OG (w : World) (g : Gr) (a : GA) (tv nv pv : Value) (W : World) : Prop :=
  GrAt W w.heap.size g a ∧ Blk W w.heap.size 25 (ogc g tv nv pv) ∧ Blk W (w.heap.size + 1) 25 #[.int .i64 0, .slice none 0 0, .string ByteArray.empty, .slice none 0 0, .int .i64 0, .slice none 0 0] ∧ Own1 W (w.heap.size + 2) 9 tv (strs g.toks) ∧ Own1 W (w.heap.size + 2) 9 nv (strs g.names) ∧ Below w.heap.size w W
theorem OG.step {w : World} {g : Gr} {a : GA} {tv nv pv : Value} {W W' : World} (h : OG w g a tv nv pv W) (hb : Below W.heap.size W W') : OG w g a tv nv pv W' := by
  obtain ⟨h1, h2, h3, h4, h5, h6⟩ := h
  exact ⟨h1.below (hb.mono h6.size), h2.step hb, h3.step hb, h4.step hb, h5.step hb, bStep h6 hb⟩
theorem OG.grown {w : World} {g : Gr} {a : GA} {tv nv pv : Value} {W W' : World} {row : Option Nat} (h : OG w g a tv nv pv W) (hg : W.grownBy W' row) (hr : ∀ r, row = some r → w.heap.size + 2 ≤ r ∧ ∃ cs, Blk W r 47 cs) : OG w g a tv nv pv W' := by
  obtain ⟨h1, h2, h3, h4, h5, h6⟩ := h
  have hb : Below w.heap.size W W' := ⟨hg.os, hg.tape, hg.output, hg.size, fun k hk => hg.block k (by have := h6.size; omega) (fun e => by have := (hr k e.symm).1; omega)⟩
  have h9 : ∀ b cs, row = some b → ¬ Blk W b 9 cs := fun b cs e hq => by obtain ⟨_, cs', hq'⟩ := hr b e; cases blk_type hq hq'
  exact ⟨h1.below hb, h2.grown hg (fun e => by have := (hr _ e.symm).1; omega), h3.grown hg (fun e => by have := (hr _ e.symm).1; omega), row_grown h4 hg h9, row_grown h5 hg h9, h6.trans hb⟩
theorem OG.own {w : World} {g : Gr} {a : GA} {tv nv pv : Value} {W W' : World} (h : OG w g a tv nv pv W) {v : Value} {n : Nat} {xs : List Value} (hr : W.ownsRow (w.heap.size + 2) 47 2 v n xs) (hg : W.grownBy W' v.ownBlock) : OG w g a tv nv pv W' :=
  h.grown hg fun r e => ⟨(own_in hr r e).1, own_blk hr e⟩
theorem RtAt.mono {W : World} {base b' : Nat} {RA : Option Addr} {c : Nat} {l : List Int} (h : RtAt W base RA c l) (hb : b' ≤ base) : RtAt W b' RA c l := by
  obtain ⟨c1, c2, c3⟩ := h
  refine ⟨c1, c2, c3.imp id ?_⟩
  rintro ⟨b, off, cs, e, e1, e2, e3⟩
  exact ⟨b, off, cs, e, by omega, e2, e3⟩
theorem put6 {w : World} {g : Nat} {x0 x1 x2 x3 x4 x5 : Value} (h : Blk w g 25 #[x0, x1, x2, x3, x4, x5]) (a b c d e f : Value) :
    Blk ((((((w.setCell ⟨g, 0, none⟩ a).setCell ⟨g, 1, none⟩ b).setCell ⟨g, 2, none⟩ c).setCell ⟨g, 3, none⟩ d).setCell ⟨g, 4, none⟩ e).setCell ⟨g, 5, none⟩ f) g 25 #[a, b, c, d, e, f] :=
  (((((h.put 0 a).put 1 b).put 2 c).put 3 d).put 4 e).put 5 f
theorem bSet6 {W0 W : World} {g : Nat} (h : Below W0.heap.size W0 W) (hg : W0.heap.size ≤ g) (a b c d e f : Value) :
    Below W0.heap.size W0 ((((((W.setCell ⟨g, 0, none⟩ a).setCell ⟨g, 1, none⟩ b).setCell ⟨g, 2, none⟩ c).setCell ⟨g, 3, none⟩ d).setCell ⟨g, 4, none⟩ e).setCell ⟨g, 5, none⟩ f) :=
  bSet (bSet (bSet (bSet (bSet (bSet h _ _ hg) _ _ hg) _ _ hg) _ _ hg) _ _ hg) _ _ hg
theorem far6 {w : World} {g : Nat} {x0 x1 x2 x3 x4 x5 : Value} (h : Blk w g 25 #[x0, x1, x2, x3, x4, x5]) (a b c d e f : Value) :
    w.grownBy ((((((w.setCell ⟨g, 0, none⟩ a).setCell ⟨g, 1, none⟩ b).setCell ⟨g, 2, none⟩ c).setCell ⟨g, 3, none⟩ d).setCell ⟨g, 4, none⟩ e).setCell ⟨g, 5, none⟩ f) (some g) := by
  have key : ∀ {X Y : World} (i : Nat) (v : Value), X.grownBy Y (some g) → X.grownBy (Y.setCell ⟨g, i, none⟩ v) (some g) := fun i v hg => World.grownBy.andThen hg (grownBy_setC' _ g i v) (fun j hj => .inr hj)
  exact key 5 f (key 4 e (key 3 d (key 2 c (key 1 b (grownBy_setC' w g 0 a)))))
theorem under26' : Tryz.prog.underlying 25 = some (.struct (Tryz.prog.fieldsOf 25)) := by kernel_rfl
theorem size26' : (Tryz.prog.info? 25).map (·.size) = some 6 := by kernel_rfl
end Go.Proofs.YtnnkfgekiaaehaaGreat

/- The grammar of a source (layer 9's reference): find, symbol; the grammar under way. -/
namespace Go.Proofs.YtnnkfgekiaaehaaGreat
open Go.ChangeShapes Go.WideShapes Go.ChangeAt Go.RowKit
set_option linter.unusedVariables false
theorem findN_ge (s : ByteArray) : ∀ (l : List ByteArray) (i : Nat), findN s l i = -1 ∨ (i : Int) ≤ findN s l i ∧ findN s l i < i + l.length
  | [], i => .inl rfl
  | x :: l, i => by
    unfold findN
    split
    · right; simp; omega
    · rcases findN_ge s l (i + 1) with h | h
      · exact .inl h
      · right; simp; omega
theorem find_any {w : World} {S : Nat → Prop} {v : Value} {l : List ByteArray} (h : RdX w S v (strsV l)) (s : ByteArray) (hn : l.length ≤ 1000000) :
    Calls Tryz.prog 137 #[v, .string s] w fun e w' => e = .returned (.int .i64 (findN s l 0)) ∧ w = w' := by
  obtain ⟨A, c, rfl, hc1, hc2⟩ := h.strs
  replace h := Lib.hid h
  clear hc1 hc2
  go_enter Tryz.func137, Tryz.ntmps137
  go_wp2_with fail
  go_loopg [5] l.length (fun k i wr => ∃ pos : Nat, wr = w ∧ i = .int .i64 pos ∧ pos + k = l.length ∧ findN s (l.drop pos) pos = findN s l 0)
  case atStart => exact ⟨0, rfl, rfl, by omega, rfl⟩
  case round =>
    obtain ⟨pos, rfl, rfl, hk, hg⟩ := hrel
    by_cases hp : pos < l.length
    · have hxi : l[pos]? = some l[pos] := List.getElem?_eq_getElem hp
      obtain ⟨b, off, hA, hcell⟩ := h.out.strS hxi
      subst hA
      rw [List.drop_eq_getElem_cons hp] at hg
      generalize l[pos] = x at *
      have hpz : 0 ≤ (pos : Int) := by omega
      replace hxi := Lib.hid hxi
      by_cases hx : x = s
      · have hxb := eqT x s hx
        have hG := Lib.hid (hg.symm.trans (by simp [findN, hx]) : findN s l 0 = pos)
        clear hg hx h
        go_wp2_with fail
        go_ret
        exact ⟨ret_int hG.out.symm, rfl⟩
      · have hxb := eqF x s hx
        have hG := Lib.hid ((show findN s (x :: List.drop (pos + 1) l) pos = findN s (List.drop (pos + 1) l) (pos + 1) by simp [findN, hx]).symm.trans hg)
        clear hg hx h
        go_wp2_with fail
        go_roundg (l.length - (pos + 1))
        case measure => omega
        case rel => exact ⟨pos + 1, rfl, by go_num, by omega, hG.out⟩
    · have hF : Hid (findN s l 0 = -1) := Lib.hid (by rw [← hg, List.drop_of_length_le (by omega)]; rfl)
      have hps : pos = l.length := by omega
      clear hg hk h
      subst hps
      go_wp2_with fail
      go_ret
      exact ⟨ret_int hF.out.symm, rfl⟩
theorem symbol_any {w : World} {S S' : Nat → Prop} {TA NA PA : Option Addr} {tc nc pn pc : Nat} {k st : Int} {sep : ByteArray} {toks names : List ByteArray} (hT : RdX w S (.slice TA toks.length tc) (strsV toks)) (hN : RdX w S' (.slice NA names.length nc) (strsV names)) (s : ByteArray) (hn : names.length ≤ 1000) (ht : toks.length ≤ 1000) :
    Calls Tryz.prog 93 #[.agg #[.int .i64 k, .slice TA toks.length tc, .string sep, .slice NA names.length nc, .int .i64 st, .slice PA pn pc], .string s] w fun e w' => e = .returned (.int .i64 (symN names toks s)) ∧ Below w.heap.size w w' := by
  obtain ⟨R, hR⟩ : ∃ R, R = symN names toks s := ⟨_, rfl⟩
  rw [← hR]
  have hb0 : Below w.heap.size w (w.alloc (.cells #[.int .i64 k, .slice TA toks.length tc, .string sep, .slice NA names.length nc, .int .i64 st, .slice PA pn pc] 25)) := bAlc (Below.refl _ _) _
  have q0 : Blk (w.alloc (.cells #[.int .i64 k, .slice TA toks.length tc, .string sep, .slice NA names.length nc, .int .i64 st, .slice PA pn pc] 25)) w.heap.size 25 #[.int .i64 k, .slice TA toks.length tc, .string sep, .slice NA names.length nc, .int .i64 st, .slice PA pn pc] := Blk.new _ _ _
  replace hT := hT.step hb0
  replace hN := hN.step hb0
  have c1 := q0.cell 1
  have c3 := q0.cell 3
  simp only [List.getElem?_toArray, List.getElem?_cons_zero, List.getElem?_cons_succ] at c1 c3
  have hg1 := findN_ge s names 0
  unfold symN at hR
  go_enter Tryz.func93, Tryz.ntmps93
  go_upto_region 1 with (fail)
  generalize w.alloc (.cells #[.int .i64 k, .slice TA toks.length tc, .string sep, .slice NA names.length nc, .int .i64 st, .slice PA pn pc] 25) = W1 at *
  have hF1 := Lib.hid (find_any hN s (by omega))
  have hF2 := Lib.hid (find_any hT s (by omega))
  generalize findN s names 0 = a at *
  generalize findN s toks 0 = b at *
  by_cases ha : 0 ≤ a
  · rw [if_pos ha] at hR
    replace hR := Lib.hid hR
    have hb : a ≤ 1000 := by omega
    clear hF2
    go_wp2_with (go_at_call 137; refine hF1.out.mono ?_; clear hF1; rintro e w2 ⟨rfl, rfl⟩)
    go_ret
    exact ⟨ret_int hR.out.symm, hb0⟩
  · rw [if_neg ha] at hR
    replace hR := Lib.hid hR
    go_wp2_with (first
      | (go_at_call 137; refine hF1.out.mono ?_; clear hF1; rintro e w2 ⟨rfl, rfl⟩)
      | (go_at_call 137; refine hF2.out.mono ?_; clear hF2; rintro e w2 ⟨rfl, rfl⟩))
    go_ret
    exact ⟨ret_int hR.out.symm, hb0⟩
def toPr (p : Int × List Int) : Pr := ⟨p.1, p.2⟩
def gOf (x : Src) : Gr := ⟨x.k, x.toks, x.sep, x.rules.map (·.1), symN (x.rules.map (·.1)) x.toks x.start, (prodsN (x.rules.map (·.1)) x.toks 0 x.rules).map toPr⟩
theorem prodsN_append (names toks : List ByteArray) : ∀ (a b : List Rule) (i : Nat), prodsN names toks i (a ++ b) = prodsN names toks i a ++ prodsN names toks (i + a.length) b
  | [], b, i => by simp [prodsN]
  | r :: a, b, i => by
    rw [List.cons_append]
    simp only [prodsN, List.append_assoc]
    rw [prodsN_append names toks a b (i + 1)]
    congr 3
    simp; omega
theorem prodsN_snoc (names toks : List ByteArray) (a : List Rule) (r : Rule) : prodsN names toks 0 (a ++ [r]) = prodsN names toks 0 a ++ r.2.map (fun x => (16 + (a.length : Int), x.map (symN names toks))) := by
  rw [prodsN_append]
  simp [prodsN]
theorem prodsN_len (names toks : List ByteArray) : ∀ (a : List Rule) (i : Nat), (prodsN names toks i a).length = nAlts a
  | [], _ => rfl
  | r :: a, i => by
    simp only [prodsN, List.length_append, List.length_map, prodsN_len names toks a (i + 1)]
    simp [nAlts]
def OS (g5 : Nat) (k : Int) (sep : ByteArray) (tv nv pv : Value) (st : Int) (toks names : List ByteArray) (ps : List Pr) (W1 W : World) : Prop :=
  Below W1.heap.size W1 W ∧ Blk W g5 25 #[.int .i64 k, tv, .string sep, nv, .int .i64 st, pv] ∧ Own1 W W1.heap.size 9 tv (strs toks) ∧ Own1 W W1.heap.size 9 nv (strs names) ∧ PsO W W1.heap.size pv ps ∧ W1.heap.size ≤ g5 ∧ (∀ k, nv.ownBlock = some k → tv.ownBlock ≠ some k)
section
variable {g5 : Nat} {k : Int} {sep : ByteArray} {tv nv pv : Value} {st : Int} {toks names : List ByteArray} {ps : List Pr} {W1 W W' : World}
theorem OS.step (h : OS g5 k sep tv nv pv st toks names ps W1 W) (hb : Below W.heap.size W W') : OS g5 k sep tv nv pv st toks names ps W1 W' := by
  obtain ⟨h1, h2, h3, h4, h5, h6, h7⟩ := h
  exact ⟨bStep h1 hb, h2.step hb, h3.step hb, h4.step hb, h5.step hb, h6, h7⟩
theorem own_ty {w : World} {base : Nat} {e : TypeId} {size : Nat} {v : Value} {n : Nat} {xs : List Value} (h : w.ownsRow base e size v n xs) (e' : TypeId) (he : e' ≠ e) : ∀ (b : Nat) (cs : Array Value), v.ownBlock = some b → ¬ Blk w b e' cs := fun b cs e1 hq => by
  obtain ⟨cs', hq'⟩ := own_blk h e1
  exact he (blk_type hq hq')
theorem OS.putS (h : OS g5 k sep tv nv pv st toks names ps W1 W) (st' : Int) : OS g5 k sep tv nv pv st' toks names ps W1 (W.setCell ⟨g5, 4, none⟩ (.int .i64 st')) := by
  obtain ⟨h1, h2, h3, h4, h5, h6, h7⟩ := h
  have hst := grownBy_setC' W g5 4 (.int .i64 st')
  have hty2 : ∀ (e : TypeId), e ≠ 25 → ∀ (b : Nat) (cs : Array Value), some g5 = some b → ¬ Blk W b e cs := fun e he b cs e1 hq => by injection e1 with e1; subst e1; exact he (blk_type hq h2)
  exact ⟨bSet h1 _ _ h6, h2.put 4 _, row_grown h3 hst (hty2 9 (by decide)), row_grown h4 hst (hty2 9 (by decide)), h5.grown hst (hty2 3 (by decide)) (hty2 47 (by decide)), h6, h7⟩
theorem OS.putN (h : OS g5 k sep tv nv pv st toks names ps W1 W) {nv' : Value} {s : ByteArray} (hg : W.grownBy W' nv.ownBlock) (ho : Own1 W' W1.heap.size 9 nv' (strs (names ++ [s]))) (hne : nv'.ownBlock = nv.ownBlock ∨ nv'.ownBlock = some W.heap.size) :
    OS g5 k sep tv nv' pv st toks (names ++ [s]) ps W1 (W'.setCell ⟨g5, 3, none⟩ nv') := by
  obtain ⟨h1, h2, h3, h4, h5, h6, h7⟩ := h
  have hlo : ∀ r, nv.ownBlock = some r → W1.heap.size ≤ r := fun r e => (own_in h4 r e).1
  have h2' := h2.grown hg (fun e => own_ty h4 25 (by decide) _ _ e.symm h2)
  have hst := grownBy_setC' W' g5 3 nv'
  have hty2 : ∀ (e : TypeId), e ≠ 25 → ∀ (b : Nat) (cs : Array Value), some g5 = some b → ¬ Blk W' b e cs := fun e he b cs e1 hq => by injection e1 with e1; subst e1; exact he (blk_type hq h2')
  have h3' : Own1 W' W1.heap.size 9 tv (strs toks) := World.ownsRow.kept h3 hg (by
    cases hv : nv.ownBlock with
    | none => cases ht : tv.ownBlock with
              | none => exact .inl rfl
              | some r => exact .inr (by simp)
    | some r => exact .inr (h7 r hv))
  refine ⟨bSet (h1.grown hg h1.size hlo) _ _ h6, h2'.put 3 _, row_grown h3' hst (hty2 9 (by decide)), row_grown ho hst (hty2 9 (by decide)), (h5.grown hg (own_ty h4 3 (by decide)) (own_ty h4 47 (by decide))).grown hst (hty2 3 (by decide)) (hty2 47 (by decide)), h6, fun r hr hr2 => ?_⟩
  rcases hne with hne | hne
  · rw [hne] at hr; exact h7 r hr hr2
  · rw [hne] at hr; injection hr with hr
    have := (own_in h3 r hr2).2
    omega
theorem OS.putP (h : OS g5 k sep tv nv pv st toks names ps W1 W) {pv' : Value} {qs : List Pr} (hg : W.grownBy W' pv.ownBlock) (ho : PsO W' W1.heap.size pv' qs) :
    OS g5 k sep tv nv pv' st toks names qs W1 (W'.setCell ⟨g5, 5, none⟩ pv') := by
  obtain ⟨h1, h2, h3, h4, ⟨rs, hpr⟩, h6, h7⟩ := h
  have hlo : ∀ r, pv.ownBlock = some r → W1.heap.size ≤ r := fun r e => (own_in hpr.2.1 r e).1
  have h2' := h2.grown hg (fun e => own_ty hpr.2.1 25 (by decide) _ _ e.symm h2)
  have hst := grownBy_setC' W' g5 5 pv'
  have hty2 : ∀ (e : TypeId), e ≠ 25 → ∀ (b : Nat) (cs : Array Value), some g5 = some b → ¬ Blk W' b e cs := fun e he b cs e1 hq => by injection e1 with e1; subst e1; exact he (blk_type hq h2')
  exact ⟨bSet (h1.grown hg h1.size hlo) _ _ h6, h2'.put 5 _, row_grown (row_grown h3 hg (own_ty hpr.2.1 9 (by decide))) hst (hty2 9 (by decide)), row_grown (row_grown h4 hg (own_ty hpr.2.1 9 (by decide))) hst (hty2 9 (by decide)), ho.grown hst (hty2 3 (by decide)) (hty2 47 (by decide)), h6, h7⟩
end
end Go.Proofs.YtnnkfgekiaaehaaGreat

/- The grammars that the kit makes of numbers. -/
namespace Go.Proofs.YtnnkfgekiaaehaaGreat
set_option linter.unusedVariables false
def gTab : List (List ByteArray × List Pr) := [
  ([⟨#[83]⟩], [⟨16, [0, 16]⟩, ⟨16, []⟩]),
  ([⟨#[83]⟩, ⟨#[84]⟩], [⟨16, [0, 17]⟩, ⟨16, []⟩, ⟨17, [1, 16]⟩]),
  ([⟨#[83]⟩, ⟨#[84]⟩], [⟨16, [0, 17]⟩, ⟨16, []⟩, ⟨17, [1, 16]⟩]),
  ([⟨#[83]⟩], [⟨16, [0]⟩, ⟨16, [0, 1]⟩]),
  ([⟨#[83]⟩], [⟨16, [0, 16, 1]⟩, ⟨16, [2]⟩]),
  ([⟨#[83]⟩, ⟨#[84]⟩, ⟨#[85]⟩], [⟨16, [17, 18]⟩, ⟨17, [0, 17]⟩, ⟨17, []⟩, ⟨18, [1, 18]⟩, ⟨18, [2]⟩]),
  ([⟨#[83]⟩], [⟨16, [0, 0, 16]⟩, ⟨16, [0, 1]⟩, ⟨16, [2]⟩]),
  ([⟨#[83]⟩, ⟨#[84]⟩, ⟨#[85]⟩], [⟨16, [0, 17, 2]⟩, ⟨17, [1, 17]⟩, ⟨17, [18]⟩, ⟨18, []⟩]),
  ([⟨#[83]⟩, ⟨#[84]⟩], [⟨16, [17, 2]⟩, ⟨16, [1, 16]⟩, ⟨17, [1, 0]⟩, ⟨17, []⟩]),
  ([⟨#[83]⟩], [⟨16, [0, 16, 16]⟩, ⟨16, [1]⟩]),
  ([⟨#[83]⟩], [⟨16, [0, 0, 0]⟩, ⟨16, [0, 0, 1, 16]⟩, ⟨16, [1]⟩]),
  ([⟨#[83]⟩, ⟨#[76]⟩, ⟨#[77]⟩, ⟨#[69]⟩], [⟨16, [0, 17, 1]⟩, ⟨17, [19, 18]⟩, ⟨18, [2, 19, 18]⟩, ⟨18, []⟩, ⟨19, [3]⟩, ⟨19, [16]⟩]),
  ([⟨#[83]⟩, ⟨#[84]⟩], [⟨16, [17, 17]⟩, ⟨17, [0, 1]⟩, ⟨17, [1, 0]⟩]),
  ([⟨#[83]⟩], [⟨16, [0]⟩]),
  ([⟨#[83]⟩, ⟨#[84]⟩], [⟨16, [0, 17]⟩, ⟨16, [0, 1, 2]⟩, ⟨17, [0]⟩, ⟨17, [2, 16]⟩]),
  ([⟨#[83]⟩, ⟨#[84]⟩, ⟨#[85]⟩], [⟨16, [17, 18, 17]⟩, ⟨17, []⟩, ⟨18, [0, 18, 1]⟩, ⟨18, []⟩])]
def gT (r : Nat) (a b : Bool) : Gr := ⟨textK r a, [⟨#[97]⟩, ⟨#[98]⟩, ⟨#[99]⟩, ⟨#[100]⟩].take (textT r b), ⟨#[122]⟩, (gTab.getD r ([], [])).1, 16, (gTab.getD r ([], [])).2⟩
def sameGr (g h : Gr) : Bool := decide (g.k = h.k) && decide (g.toks = h.toks) && decide (g.sep = h.sep) && decide (g.names = h.names) && decide (g.start = h.start) && decide (g.prods = h.prods)
theorem sameGr_eq {g h : Gr} (e : sameGr g h = true) : g = h := by
  unfold sameGr at e
  simp only [Bool.and_eq_true, decide_eq_true_eq] at e
  obtain ⟨⟨⟨⟨⟨e1, e2⟩, e3⟩, e4⟩, e5⟩, e6⟩ := e
  cases g; cases h
  dsimp only at e1 e2 e3 e4 e5 e6
  subst e1 e2 e3 e4 e5 e6
  rfl
def okT (r : Nat) (a b : Bool) : Bool := match parseF (textB r a b) with
  | none => false
  | some x => srcOK x && sameGr (gOf x) (gT r a b)
theorem okT_some {r : Nat} {a b : Bool} (h : okT r a b = true) : ∃ x, parseF (textB r a b) = some x ∧ srcOK x = true ∧ gOf x = gT r a b := by
  unfold okT at h
  cases hp : parseF (textB r a b) with
  | none => rw [hp] at h; cases h
  | some x =>
    rw [hp] at h
    dsimp only at h
    rw [Bool.and_eq_true] at h
    exact ⟨x, rfl, h.1, sameGr_eq h.2⟩
end Go.Proofs.YtnnkfgekiaaehaaGreat

/- What stands behind a nonterminal in a leftmost form, plainly. -/
namespace Go.Proofs.YtnnkfgekiaaehaaGreat
set_option linter.unusedVariables false
theorem lplus_self {k : Nat} (hk : k ≤ 4) (x y : Lk) : (lplus k x y).l.length ≤ k ∧ lplus k x y = Lk.of (lplus k x y).l := by
  rw [lplus_l hk]
  exact ⟨by rw [List.length_take]; omega, rfl⟩
theorem fl_self {ps : List Pr} {k : Nat} (hk : k ≤ 4) {l : List Int} {x : Lk} (h : FL ps k l x) : x.l.length ≤ k ∧ x = Lk.of x.l := by
  cases h with
  | nil => rw [l_of [] (by simp)]; simp
  | term h1 h2 => exact lplus_self hk _ _
  | non h1 h2 h3 h4 => exact lplus_self hk _ _
theorem lplus_nilr {k : Nat} {x : Lk} (h : x.l.length ≤ k ∧ x = Lk.of x.l) : lplus k x (Lk.of []) = x := by
  unfold lplus
  rw [l_of [] (by simp), List.append_nil, List.take_of_length_le h.1, ← h.2]
theorem take_app1 {α : Type} (k : Nat) (a b : List α) : (a.take k ++ b).take k = (a ++ b).take k := by
  rw [List.take_append, List.take_append, List.take_take, List.length_take]
  by_cases h : a.length ≤ k
  · simp [h]
  · rw [show k - min k a.length = 0 by omega, show k - a.length = 0 by omega]; simp
theorem take_app2 {α : Type} (k : Nat) (a b : List α) : (a ++ b.take k).take k = (a ++ b).take k := by
  rw [List.take_append, List.take_append, List.take_take, show min (k - a.length) k = k - a.length by omega]
theorem lplus_assoc {k : Nat} (hk : k ≤ 4) (x y z : Lk) : lplus k (lplus k x y) z = lplus k x (lplus k y z) := by
  show Lk.of (((lplus k x y).l ++ z.l).take k) = Lk.of ((x.l ++ (lplus k y z).l).take k)
  rw [lplus_l hk, lplus_l hk, take_app1, take_app2, List.append_assoc]
theorem fl_inv {ps : List Pr} {k : Nat} {L : List Int} {z : Lk} (h : FL ps k L z) : (L = [] ∧ z = Lk.of []) ∨ ∃ l s x y, L = l ++ [s] ∧ FL ps k l x ∧ ((s < 16 ∧ y = Lk.of [s]) ∨ ∃ p ∈ ps, p.left = s ∧ 16 ≤ s ∧ FL ps k p.right y) ∧ z = lplus k x y := by
  cases h with
  | nil => exact .inl ⟨rfl, rfl⟩
  | term h1 h2 => exact .inr ⟨_, _, _, _, rfl, h1, .inl ⟨h2, rfl⟩, rfl⟩
  | @non l x p y h1 h2 h3 h4 => exact .inr ⟨_, _, _, _, rfl, h1, .inr ⟨p, h2, rfl, h3, h4⟩, rfl⟩
theorem fl_split {ps : List Pr} {k : Nat} (hk : k ≤ 4) (u : List Int) : ∀ (v : List Int) (z : Lk), FL ps k (u ++ v) z → ∃ x y, FL ps k u x ∧ FL ps k v y ∧ z = lplus k x y := by
  intro v
  induction hn : v.length generalizing v with
  | zero =>
    intro z h
    have : v = [] := List.length_eq_zero_iff.1 hn
    subst this
    rw [List.append_nil] at h
    exact ⟨z, Lk.of [], h, .nil, (lplus_nilr (fl_self hk h)).symm⟩
  | succ n ih =>
    intro z h
    rcases fl_inv h with ⟨h1, _⟩ | ⟨l, s, x, y, h1, h2, h3, rfl⟩
    · have := congrArg List.length h1
      rw [List.length_append, List.length_nil] at this
      omega
    · have hv : v = v.dropLast ++ [v.getLast (by intro e; rw [e] at hn; simp at hn)] := (List.dropLast_concat_getLast _).symm
      generalize v.getLast _ = t at hv
      have hd : v.dropLast.length = n := by rw [List.length_dropLast]; omega
      generalize v.dropLast = v' at hv hd
      subst hv
      rw [← List.append_assoc] at h1
      obtain ⟨e1, e2⟩ := List.append_inj' h1 rfl
      simp only [List.cons.injEq, and_true] at e2
      subst e1 e2
      obtain ⟨x1, y1, f1, f2, rfl⟩ := ih v' hd x h2
      refine ⟨x1, lplus k y1 y, f1, ?_, lplus_assoc hk _ _ _⟩
      rcases h3 with ⟨h3, rfl⟩ | ⟨p, hp, rfl, h16, h4⟩
      · exact .term f2 h3
      · exact .non f2 hp h16 h4
def FormOk (g : Gr) (k : Nat) (form : List Int) : Prop :=
  (∀ s ∈ form, (0 ≤ s ∧ s < g.toks.length) ∨ (16 ≤ s ∧ s < 16 + (g.names.length : Int))) ∧
  ∀ (i : Nat) (s : Int), form[i]? = some s → 16 ≤ s → ∀ x, FL g.prods k (form.drop (i + 1)) x → FO g.prods k g.start s x
theorem FormOk.start {g : Gr} {k : Nat} (h : GOk g k) : FormOk g k [g.start] := by
  refine ⟨fun s hs => .inr ?_, fun i s hs h16 x hx => ?_⟩
  · rw [List.mem_singleton.1 hs]; exact h.st
  · cases i with
    | succ i => simp at hs
    | zero =>
      simp only [List.getElem?_cons_zero, Option.some.injEq] at hs
      subst hs
      rcases fl_inv hx with ⟨_, rfl⟩ | ⟨l, s, x, y, h1, _⟩
      · exact .start
      · have := congrArg List.length h1
        simp at this
theorem FormOk.step {g : Gr} {k : Nat} (h : GOk g k) {u v : List Int} {A : Int} (hf : FormOk g k (u ++ A :: v)) (hu : ∀ s ∈ u, s < 16) (h16 : 16 ≤ A) {p : Pr} (hp : p ∈ g.prods) (hl : p.left = A) : FormOk g k (u ++ p.right ++ v) := by
  refine ⟨fun s hs => ?_, fun i s hs hs16 x hx => ?_⟩
  · simp only [List.mem_append] at hs
    rcases hs with (hs | hs) | hs
    · exact hf.1 s (List.mem_append_left _ hs)
    · exact (h.pr p hp).2.2 s hs
    · exact hf.1 s (List.mem_append_right _ (List.mem_cons_of_mem _ hs))
  · have hA : ∀ y, FL g.prods k v y → FO g.prods k g.start A y := fun y hy => hf.2 u.length A (by simp) h16 y (by
      rw [List.drop_append, List.drop_of_length_le (by omega), List.nil_append, show u.length + 1 - u.length = 1 by omega]
      exact hy)
    by_cases c1 : i < u.length
    · rw [List.append_assoc, List.getElem?_append_left c1] at hs
      have := hu s (List.mem_of_getElem? hs)
      omega
    · by_cases c2 : i - u.length < p.right.length
      · rw [List.append_assoc, List.getElem?_append_right (by omega), List.getElem?_append_left c2] at hs
        rw [List.append_assoc, List.drop_append, List.drop_of_length_le (by omega), List.nil_append, show i + 1 - u.length = i - u.length + 1 by omega, List.drop_append, show i - u.length + 1 - p.right.length = 0 by omega, List.drop_zero] at hx
        obtain ⟨a, b, f1, f2, rfl⟩ := fl_split h.k4 _ _ _ hx
        exact .use hp hs hs16 f1 (hl ▸ hA b f2)
      · rw [List.append_assoc, List.getElem?_append_right (by omega), List.getElem?_append_right (by omega)] at hs
        rw [List.append_assoc, List.drop_append, List.drop_of_length_le (by omega), List.nil_append, List.drop_append, List.drop_of_length_le (by omega), List.nil_append] at hx
        refine hf.2 (u.length + 1 + (i - u.length - p.right.length)) s ?_ hs16 x ?_
        · rw [List.getElem?_append_right (by omega), show u.length + 1 + (i - u.length - p.right.length) - u.length = (i - u.length - p.right.length) + 1 by omega, List.getElem?_cons_succ]
          exact hs
        · rw [List.drop_append, List.drop_of_length_le (by omega), List.nil_append, show u.length + 1 + (i - u.length - p.right.length) + 1 - u.length = (i - u.length - p.right.length + 1) + 1 by omega, List.drop_succ_cons]
          rw [show i + 1 - u.length - p.right.length = i - u.length - p.right.length + 1 by omega] at hx
          exact hx
end Go.Proofs.YtnnkfgekiaaehaaGreat

/- FOLLOW of a given grammar, reckoned; the chapter's example. -/
namespace Go.Proofs.YtnnkfgekiaaehaaGreat
set_option linter.unusedVariables false
def stepF (k : Nat) (ss : List (List Lk)) (p : Pr) : List (List Lk) := ss.set (p.left - 16).toNat (newS k ss p)
def runF (k : Nat) (ps : List Pr) : Nat → List (List Lk) → List (List Lk)
  | 0, ss => ss
  | m + 1, ss => runF k ps m (ps.foldl (stepF k) ss)
structure FirstOk (ps : List Pr) (k n : Nat) (ss : List (List Lk)) : Prop where
  len : ss.length = n
  fit : SetsFit k ss
  sound : SoundF ps k ss
theorem foldF_ok {ps : List Pr} {k n : Nat} (hk : 1 ≤ k) (hk4 : k ≤ 4) (hps : ∀ p ∈ ps, (16 ≤ p.left ∧ p.left < 16 + (n : Int)) ∧ ∀ s ∈ p.right, SymOk n s) : ∀ (qs : List Pr) (ss : List (List Lk)), (∀ q ∈ qs, q ∈ ps) → FirstOk ps k n ss → FirstOk ps k n (qs.foldl (stepF k) ss)
  | [], ss, _, h => h
  | q :: qs, ss, hq, h => by
    have hqm := hq q List.mem_cons_self
    have hR := round_first hk hk4 h.len h.fit h.sound hqm (hps q hqm).1 (hps q hqm).2
    exact foldF_ok hk hk4 hps qs _ (fun x hx => hq x (List.mem_cons_of_mem _ hx)) ⟨by simpa [stepF] using h.len, hR.fit, hR.sound⟩
theorem runF_ok {ps : List Pr} {k n : Nat} (hk : 1 ≤ k) (hk4 : k ≤ 4) (hps : ∀ p ∈ ps, (16 ≤ p.left ∧ p.left < 16 + (n : Int)) ∧ ∀ s ∈ p.right, SymOk n s) : ∀ (m : Nat) (ss : List (List Lk)), FirstOk ps k n ss → FirstOk ps k n (runF k ps m ss)
  | 0, ss, h => h
  | m + 1, ss, h => runF_ok hk hk4 hps m _ (foldF_ok hk hk4 hps ps ss (fun _ h => h) h)
theorem firstOk_start (ps : List Pr) (k n : Nat) : FirstOk ps k n (List.replicate n []) :=
  ⟨by simp, (by intro s hs x hx; rw [List.eq_of_mem_replicate hs] at hx; cases hx), by
    intro j y hy
    rw [List.getD_eq_getElem?_getD, List.getElem?_replicate] at hy
    split at hy <;> simp at hy⟩
def usesP (ps : List Pr) : List (Pr × Nat × Int) := ps.flatMap fun p => (List.range p.right.length).filterMap fun d => if 16 ≤ p.right.getD d 0 then some (p, d, p.right.getD d 0) else none
theorem usesP_mem {ps : List Pr} {u : Pr × Nat × Int} : u ∈ usesP ps ↔ u.1 ∈ ps ∧ u.1.right[u.2.1]? = some u.2.2 ∧ 16 ≤ u.2.2 := by
  obtain ⟨p, d, s⟩ := u
  simp only [usesP, List.mem_flatMap, List.mem_filterMap, List.mem_range]
  constructor
  · rintro ⟨p', hp', d', hd', h⟩
    split at h
    · rename_i h16
      injection h with h
      injection h with h1 h2
      injection h2 with h2 h3
      subst h1; subst h2; subst h3
      exact ⟨hp', by simp [List.getD_eq_getElem?_getD, hd'], h16⟩
    · cases h
  · rintro ⟨hp, hd, h16⟩
    have hlt := (List.getElem?_eq_some_iff.1 hd).1
    have e : p.right.getD d 0 = s := by rw [List.getD_eq_getElem?_getD, hd]; rfl
    exact ⟨p, hp, d, hlt, by rw [e, if_pos h16]⟩
def stepO (k : Nat) (ss fs : List (List Lk)) (u : Pr × Nat × Int) : List (List Lk) := fs.set (u.2.2 - 16).toNat (newO k ss fs u.1 u.2.1 u.2.2)
def runO (k : Nat) (ss : List (List Lk)) (us : List (Pr × Nat × Int)) : Nat → List (List Lk) → List (List Lk)
  | 0, fs => fs
  | m + 1, fs => runO k ss us m (us.foldl (stepO k ss) fs)
structure FollowOk (ps : List Pr) (k n : Nat) (start : Int) (fs : List (List Lk)) : Prop where
  len : fs.length = n
  fit : SetsFit k fs
  sound : SoundO ps k start fs
  begin_ : Lk.of [] ∈ fs.getD (start - 16).toNat []
theorem foldO_ok {ps : List Pr} {k n : Nat} {start : Int} (hk : 1 ≤ k) (hk4 : k ≤ 4) (hps : ∀ p ∈ ps, (16 ≤ p.left ∧ p.left < 16 + (n : Int)) ∧ ∀ s ∈ p.right, SymOk n s) {ss : List (List Lk)} (hf : FirstOk ps k n ss) : ∀ (us : List (Pr × Nat × Int)) (fs : List (List Lk)), (∀ u ∈ us, u ∈ usesP ps) → FollowOk ps k n start fs → FollowOk ps k n start (us.foldl (stepO k ss) fs)
  | [], fs, _, h => h
  | u :: us, fs, hu, h => by
    obtain ⟨h1, h2, h3⟩ := usesP_mem.1 (hu u List.mem_cons_self)
    have hsy := (hps _ h1).2 _ (List.mem_of_getElem? h2)
    have hR := round_follow hk hk4 h.len hf.fit h.fit hf.sound h.sound h.begin_ h1 h2 (hps _ h1).1.1 h3 (by unfold SymOk at hsy; omega) (hps _ h1).2
    exact foldO_ok hk hk4 hps hf us _ (fun x hx => hu x (List.mem_cons_of_mem _ hx)) ⟨by simpa [stepO] using h.len, hR.fit, hR.sound, hR.begin_⟩
theorem runO_ok {ps : List Pr} {k n : Nat} {start : Int} (hk : 1 ≤ k) (hk4 : k ≤ 4) (hps : ∀ p ∈ ps, (16 ≤ p.left ∧ p.left < 16 + (n : Int)) ∧ ∀ s ∈ p.right, SymOk n s) {ss : List (List Lk)} (hf : FirstOk ps k n ss) : ∀ (m : Nat) (fs : List (List Lk)), FollowOk ps k n start fs → FollowOk ps k n start (runO k ss (usesP ps) m fs)
  | 0, fs, h => h
  | m + 1, fs, h => runO_ok hk hk4 hps hf m _ (foldO_ok hk hk4 hps hf _ fs (fun _ h => h) h)
theorem followOk_start (ps : List Pr) (k n : Nat) (start : Int) (h : 16 ≤ start ∧ start < 16 + (n : Int)) : FollowOk ps k n start ((List.replicate n []).set (start - 16).toNat [Lk.of []]) := by
  have hi : (start - 16).toNat < (List.replicate n ([] : List Lk)).length := by simp; omega
  refine ⟨by simp, set_fit (firstOk_start ps k n).fit _ (by intro x hx; simp at hx; subst hx; exact nil_fit k), setO_sound (by
      intro j y hy
      rw [List.getD_eq_getElem?_getD, List.getElem?_replicate] at hy
      split at hy <;> simp at hy) _ hi (by intro y hy; simp at hy; subst hy; rw [show (16 : Int) + ((start - 16).toNat : Int) = start by omega]; exact .start), by rw [getD_set _ _ _ _ hi]; simp⟩
def closedFB (ps : List Pr) (k : Nat) (ss : List (List Lk)) : Bool := ps.all fun p => (tailL k ss p.right).all fun y => decide (y ∈ ss.getD (p.left - 16).toNat [])
def closedOB (ps : List Pr) (k : Nat) (ss fs : List (List Lk)) : Bool := (usesP ps).all fun u => (usesL k ss fs u.1 u.2.1).all fun z => decide (z ∈ fs.getD (u.2.2 - 16).toNat [])
theorem closedF_of {ps : List Pr} {k : Nat} {ss : List (List Lk)} (h : closedFB ps k ss = true) : ClosedF ps k ss := by
  intro p hp y hy
  unfold closedFB at h
  rw [List.all_eq_true] at h
  have := h p hp
  rw [List.all_eq_true] at this
  exact of_decide_eq_true (this y hy)
theorem closedO_of {ps : List Pr} {k : Nat} {start : Int} {ss fs : List (List Lk)} (h0 : Lk.of [] ∈ fs.getD (start - 16).toNat []) (h : closedOB ps k ss fs = true) : ClosedO ps k start ss fs := by
  refine ⟨h0, fun p hp d s hd h16 z hz => ?_⟩
  unfold closedOB at h
  rw [List.all_eq_true] at h
  have := h (p, d, s) (usesP_mem.2 ⟨hp, hd, h16⟩)
  rw [List.all_eq_true] at this
  exact of_decide_eq_true (this z hz)
def firstC (g : Gr) (m : Nat) : List (List Lk) := runF g.k.toNat g.prods m (List.replicate g.names.length [])
def followC (g : Gr) (m1 m2 : Nat) : List (List Lk) := runO g.k.toNat (firstC g m1) (usesP g.prods) m2 ((List.replicate g.names.length []).set (g.start - 16).toNat [Lk.of []])
theorem fset_of {g : Gr} (hok : gchk g = 0) (m1 m2 : Nat) (hF : closedFB g.prods g.k.toNat (firstC g m1) = true) (hO : closedOB g.prods g.k.toNat (firstC g m1) (followC g m1 m2) = true) {s : Int} (hs : ntB g s = true) :
    FSet g s (lset ((followC g m1 m2).getD (s - 16).toNat [])) := by
  have hk := gok_of hok
  have hps : ∀ p ∈ g.prods, (16 ≤ p.left ∧ p.left < 16 + (g.names.length : Int)) ∧ ∀ s ∈ p.right, SymOk g.names.length s := fun p hp => ⟨(hk.pr p hp).1, hk.sym hp⟩
  have h1 : FirstOk g.prods g.k.toNat g.names.length (firstC g m1) := runF_ok hk.k1 hk.k4 hps m1 _ (firstOk_start _ _ _)
  have h2 : FollowOk g.prods g.k.toNat g.names.length g.start (followC g m1 m2) := runO_ok hk.k1 hk.k4 hps h1 m2 _ (followOk_start _ _ _ _ hk.st)
  have hfit := setsFit_get h2.fit (s - 16).toNat
  exact ⟨lset_asc fun x hx => (hfit x hx).1, fun y => (lset_mem (k := 8) (fun x hx => (hfit x hx).1) y).trans (retA_set hok hs h1.fit h1.sound (closedF_of hF) h2.fit h2.sound (closedO_of h2.begin_ hO) y)⟩
def exG : Gr := ⟨2, [⟨#[97]⟩, ⟨#[98]⟩, ⟨#[100]⟩], ⟨#[99]⟩, [⟨#[83]⟩, ⟨#[66]⟩], 16, [⟨16, [0, 16, 1]⟩, ⟨16, [17]⟩, ⟨17, [2]⟩, ⟨17, []⟩]⟩
theorem exG_ok : gchk exG = 0 := by decide +kernel
theorem exG_first : closedFB exG.prods exG.k.toNat (firstC exG 4) = true := by decide +kernel
theorem exG_follow : closedOB exG.prods exG.k.toNat (firstC exG 4) (followC exG 4 4) = true := by decide +kernel
theorem exG_16 : FSet exG 16 [Lk.of [], Lk.of [1], Lk.of [1, 1]] := by
  have h := fset_of exG_ok 4 4 exG_first exG_follow (s := 16) (by decide +kernel)
  have e : lset ((followC exG 4 4).getD ((16 : Int) - 16).toNat []) = [Lk.of [], Lk.of [1], Lk.of [1, 1]] := by decide +kernel
  rwa [e] at h
theorem FSet.few {g : Gr} {s : Int} {L : List Lk} (h : FSet g s L) (hl : L.length ≤ 600) : Few g s := fun M hn hM => Nat.le_trans (nodup_len hn fun y hy => (h.2 y).2 (hM y hy)) hl
end Go.Proofs.YtnnkfgekiaaehaaGreat

/- The statements' own helpers: look, example, awake. -/
namespace Go.Proofs.YtnnkfgekiaaehaaGreat
open Go.ChangeShapes Go.WideShapes Go.ChangeAt Go.RowKit
set_option linter.unusedVariables false
def lkc (n : Nat) (l : List Int) (i : Nat) : Array Value := #[.int .i64 n, .int .i64 (if 0 < i then l.getD 0 0 else 0), .int .i64 (if 1 < i then l.getD 1 0 else 0), .int .i64 0, .int .i64 0]
theorem lkc_end (l : List Int) (h : l.length ≤ 2) : lkc l.length l l.length = (Lk.of l).cells := by
  match l, h with
  | [], _ => rfl
  | [a], _ => rfl
  | [a, b], _ => rfl
  | a :: b :: c :: l, h => simp at h
set_option maxHeartbeats 2000000 in
theorem look_any (A : Option Addr) (n c : Nat) (l : List Int) (w : World) (h : Rd1 w w.heap.size A n (ints l)) (hn : n ≤ 2) :
    Calls Tryz.prog 32 #[.slice A n c] w fun e w' => e = .returned (Lk.of l).v ∧ Below w.heap.size w w' := by
  have hl : l.length = n := by have := h.1; simpa [ints] using this
  have hln := Lib.hid hl
  have h' := Lib.hid h
  clear hl h
  go_enter Tryz.func32, Tryz.ntmps32
  go_wp2_with fail
  have qa : Blk ((w.alloc (.cells #[.int .i64 0, .int .i64 0, .int .i64 0, .int .i64 0, .int .i64 0] 41)).alloc (.cells #[.int .i64 n, .int .i64 0, .int .i64 0, .int .i64 0, .int .i64 0] 41)) w.heap.size 41 #[.int .i64 0, .int .i64 0, .int .i64 0, .int .i64 0, .int .i64 0] := (Blk.new _ _ _).alloc _
  have qb : Blk ((w.alloc (.cells #[.int .i64 0, .int .i64 0, .int .i64 0, .int .i64 0, .int .i64 0] 41)).alloc (.cells #[.int .i64 n, .int .i64 0, .int .i64 0, .int .i64 0, .int .i64 0] 41)) (w.heap.size + 1) 41 (lkc n l 0) := Blk.newAt _ _ _ _ (by simp)
  have hb0 : Below w.heap.size w ((w.alloc (.cells #[.int .i64 0, .int .i64 0, .int .i64 0, .int .i64 0, .int .i64 0] 41)).alloc (.cells #[.int .i64 n, .int .i64 0, .int .i64 0, .int .i64 0, .int .i64 0] 41)) := bAlc (bAlc (Below.refl _ _) _) _
  go_loopg [4] n (fun gk s4 wr => ∃ i : Nat, s4 = .int .i64 i ∧ i + gk = n ∧ Blk wr (w.heap.size + 1) 41 (lkc n l i) ∧ Blk wr w.heap.size 41 #[.int .i64 0, .int .i64 0, .int .i64 0, .int .i64 0, .int .i64 0] ∧ Below w.heap.size w wr)
  case atStart => exact ⟨0, rfl, by omega, qb, qa, hb0⟩
  case round =>
    clear qa qb hb0
    obtain ⟨i, rfl, hi, qb, qa, hb⟩ := hrel
    replace hi := Lib.hid hi
    by_cases hin : i < n
    · have hil : i < l.length := by have := hln.out; omega
      have hsi : (ints l)[i]? = some (.int .i64 (l.getD i 0)) := by simp [ints, hil]
      obtain ⟨b, off, rfl, hbt, x0⟩ := (h'.out.below hb).get hsi
      replace hsi := Lib.hid hsi
      obtain ⟨xv, hxv⟩ : ∃ xv, xv = l.getD i 0 := ⟨_, rfl⟩
      rw [← hxv] at x0
      replace hxv := Lib.hid hxv
      have hz1 : (0 : Int) ≤ i := by omega
      have hz2 : (i : Int) < n := by omega
      rcases (by omega : i = 0 ∨ i = 1) with rfl | rfl
      · rw [Nat.add_zero] at x0
        have r1 := qb.cell 1
        have f1 := qb.frozen 1
        simp only [lkc, List.getElem?_toArray, List.getElem?_cons_zero, List.getElem?_cons_succ] at r1
        go_wp2_with fail
        go_roundg (n - (0 + 1))
        case measure => have := hi.out; omega
        case rel => exact ⟨1, by go_num, by have := hi.out; omega, by have h1 := qb.put 1 (.int .i64 xv); rw [hxv.out] at h1 ⊢; exact h1, qa.far (by simp) _, bSet hb _ _ (by simp)⟩
      · have r1 := qb.cell 2
        have f1 := qb.frozen 2
        simp only [lkc, List.getElem?_toArray, List.getElem?_cons_zero, List.getElem?_cons_succ] at r1
        go_wp2_with fail
        go_roundg (n - (1 + 1))
        case measure => have := hi.out; omega
        case rel => exact ⟨2, by go_num, by have := hi.out; omega, by have h1 := qb.put 2 (.int .i64 xv); rw [hxv.out] at h1 ⊢; exact h1, qa.far (by simp) _, bSet hb _ _ (by simp)⟩
    · have hie : i = n := by have := hi.out; omega
      subst hie
      have he := lkc_end l (by have := hln.out; omega)
      rw [hln.out] at he
      rw [he] at qb
      replace he := Lib.hid he
      have b0 := qb.cell 0
      have b1 := qb.cell 1
      have b2 := qb.cell 2
      have b3 := qb.cell 3
      have b4 := qb.cell 4
      have a0 := qa.cell 0
      have a1 := qa.cell 1
      have a2 := qa.cell 2
      have a3 := qa.cell 3
      have a4 := qa.cell 4
      have f0 := qa.frozen 0
      have f1 := qa.frozen 1
      have f2 := qa.frozen 2
      have f3 := qa.frozen 3
      have f4 := qa.frozen 4
      simp only [Lk.cells, List.getElem?_toArray, List.getElem?_cons_zero, List.getElem?_cons_succ] at b0 b1 b2 b3 b4 a0 a1 a2 a3 a4
      go_wp2_with fail
      have hq := put5 (y := Lk.of []) qa (Lk.of l)
      exact bodyPost_ret (results_look rfl _ _ _ (Lk.of l) rfl hq) rfl ⟨rfl, bSet5 hb (Nat.le_refl _) _ _ _ _ _⟩
theorem rd_row {w : World} {g : Nat} {e : TypeId} {cs : Array Value} (hb : Blk w g e cs) : Rd1 w w.heap.size (some ⟨g, 0, none⟩) cs.size cs.toList :=
  ⟨by simp, .inr ⟨g, 0, rfl, hb.lt, fun i v hv => by rw [hb.cell]; simpa using hv⟩⟩
theorem under26 : Tryz.prog.underlying 25 = some (.struct (Tryz.prog.fieldsOf 25)) := by kernel_rfl
theorem size26 : (Tryz.prog.info? 25).map (·.size) = some 6 := by kernel_rfl
def RetE (w : World) (e : Ending) (w' : World) : Prop := ∃ a, e = .returned (gval exG a) ∧ GrAt w' w'.heap.size exG a ∧ Below w.heap.size w w'
set_option maxHeartbeats 2000000 in
theorem example_any (w : World) : Calls Tryz.prog 31 #[] w (RetE w) := by
  have hP := Lib.hid (fun (a : GA) (w' : World) (h1 : GrAt w' w'.heap.size exG a) (h2 : Below w.heap.size w w') => (show RetE w (.returned (gval exG a)) w' from ⟨a, rfl, h1, h2⟩))
  go_enter Tryz.func31, Tryz.ntmps31
  go_wp2_with fail
  generalize hW0 : w.alloc (.cells #[.int .i64 2, .slice (some ⟨w.heap.size + 1, 0, none⟩) 3 3, .string { data := #[99] }, .slice (some ⟨w.heap.size + 1 + 1, 0, none⟩) 2 2, .int .i64 16, .slice (some ⟨w.heap.size + 1 + 1 + 1 + 1 + 1 + 1, 0, none⟩) 4 4] 25) = W0
  obtain ⟨W1, hW1⟩ : ∃ W1, W1 = W0.alloc (.cells #[.string { data := #[97] }, .string { data := #[98] }, .string { data := #[100] }] 9) := ⟨_, rfl⟩
  have z0 : W0.heap.size = w.heap.size + 1 := by rw [← hW0]; simp
  have q0 : Blk W0 w.heap.size 25 #[.int .i64 2, .slice (some ⟨w.heap.size + 1, 0, none⟩) 3 3, .string { data := #[99] }, .slice (some ⟨w.heap.size + 1 + 1, 0, none⟩) 2 2, .int .i64 16, .slice (some ⟨w.heap.size + 1 + 1 + 1 + 1 + 1 + 1, 0, none⟩) 4 4] := by rw [← hW0]; exact Blk.new w 25 _
  have b0 : Below w.heap.size w W0 := by rw [← hW0]; exact bAlc (Below.refl _ _) _
  rw [← hW1]
  have z1 : W1.heap.size = w.heap.size + 2 := by rw [hW1]; simp [z0]
  have q1 : Blk W1 (w.heap.size + 1) 9 #[.string { data := #[97] }, .string { data := #[98] }, .string { data := #[100] }] := by rw [hW1]; exact Blk.newAt _ _ _ _ z0.symm
  have b1 : Below W0.heap.size W0 W1 := by rw [hW1]; exact bAlc (Below.refl _ _) _
  obtain ⟨W2, hW2⟩ : ∃ W2, W2 = W1.alloc (.cells #[.string { data := #[83] }, .string { data := #[66] }] 9) := ⟨_, rfl⟩
  rw [← hW2]
  have z2 : W2.heap.size = w.heap.size + 3 := by rw [hW2]; simp [z1]
  have q2 : Blk W2 (w.heap.size + 2) 9 #[.string { data := #[83] }, .string { data := #[66] }] := by rw [hW2]; exact Blk.newAt _ _ _ _ z1.symm
  have b2 : Below W1.heap.size W1 W2 := by rw [hW2]; exact bAlc (Below.refl _ _) _
  obtain ⟨W3, hW3⟩ : ∃ W3, W3 = W2.alloc (.cells #[.int .i64 0, .int .i64 16, .int .i64 1] 3) := ⟨_, rfl⟩
  rw [← hW3]
  have z3 : W3.heap.size = w.heap.size + 4 := by rw [hW3]; simp [z2]
  have q3 : Blk W3 (w.heap.size + 3) 3 #[.int .i64 0, .int .i64 16, .int .i64 1] := by rw [hW3]; exact Blk.newAt _ _ _ _ z2.symm
  have b3 : Below W2.heap.size W2 W3 := by rw [hW3]; exact bAlc (Below.refl _ _) _
  obtain ⟨W4, hW4⟩ : ∃ W4, W4 = W3.alloc (.cells #[.int .i64 17] 3) := ⟨_, rfl⟩
  rw [← hW4]
  have z4 : W4.heap.size = w.heap.size + 5 := by rw [hW4]; simp [z3]
  have q4 : Blk W4 (w.heap.size + 4) 3 #[.int .i64 17] := by rw [hW4]; exact Blk.newAt _ _ _ _ z3.symm
  have b4 : Below W3.heap.size W3 W4 := by rw [hW4]; exact bAlc (Below.refl _ _) _
  obtain ⟨W5, hW5⟩ : ∃ W5, W5 = W4.alloc (.cells #[.int .i64 2] 3) := ⟨_, rfl⟩
  rw [← hW5]
  have z5 : W5.heap.size = w.heap.size + 6 := by rw [hW5]; simp [z4]
  have q5 : Blk W5 (w.heap.size + 5) 3 #[.int .i64 2] := by rw [hW5]; exact Blk.newAt _ _ _ _ z4.symm
  have b5 : Below W4.heap.size W4 W5 := by rw [hW5]; exact bAlc (Below.refl _ _) _
  generalize hW6 : W5.alloc (.cells #[.int .i64 16, .slice (some ⟨w.heap.size + 1 + 1 + 1, 0, none⟩) 3 3, .int .i64 16, .slice (some ⟨w.heap.size + 1 + 1 + 1 + 1, 0, none⟩) 1 1, .int .i64 17, .slice (some ⟨w.heap.size + 1 + 1 + 1 + 1 + 1, 0, none⟩) 1 1, .int .i64 17, .slice none 0 0] 47) = W6
  have z6 : W6.heap.size = w.heap.size + 7 := by rw [← hW6]; simp [z5]
  have q6 : Blk W6 (w.heap.size + 6) 47 #[.int .i64 16, .slice (some ⟨w.heap.size + 1 + 1 + 1, 0, none⟩) 3 3, .int .i64 16, .slice (some ⟨w.heap.size + 1 + 1 + 1 + 1, 0, none⟩) 1 1, .int .i64 17, .slice (some ⟨w.heap.size + 1 + 1 + 1 + 1 + 1, 0, none⟩) 1 1, .int .i64 17, .slice none 0 0] := by rw [← hW6]; exact Blk.newAt _ _ _ _ z5.symm
  have b6 : Below W5.heap.size W5 W6 := by rw [← hW6]; exact bAlc (Below.refl _ _) _
  have p5 := q5.step b6
  have p4 := (q4.step b5).step b6
  have p3 := ((q3.step b4).step b5).step b6
  have p2 := (((q2.step b3).step b4).step b5).step b6
  have p1 := ((((q1.step b2).step b3).step b4).step b5).step b6
  have p0 := (((((q0.step b1).step b2).step b3).step b4).step b5).step b6
  have hb : Below w.heap.size w W6 := bStep (bStep (bStep (bStep (bStep (bStep b0 b1) b2) b3) b4) b5) b6
  have hg : GrAt W6 W6.heap.size exG ⟨some ⟨w.heap.size + 1, 0, none⟩, 3, some ⟨w.heap.size + 2, 0, none⟩, 2, some ⟨w.heap.size + 6, 0, none⟩, 4⟩ := by
    refine ⟨rd_row p1, Nat.le_refl _, by simp [maxLen], rd_row p2, Nat.le_refl _, by simp [maxLen], ⟨rfl, .inr ⟨w.heap.size + 6, 0, rfl, by omega, ?_⟩⟩, Nat.le_refl _, by simp [maxLen], by decide, by decide, by decide⟩
    intro i p hp
    have hlt := (List.getElem?_eq_some_iff.1 hp).1
    have hl4 : exG.prods.length = 4 := rfl
    rcases (by omega : i = 0 ∨ i = 1 ∨ i = 2 ∨ i = 3) with rfl | rfl | rfl | rfl
    · cases hp; exact ⟨q6.cell 0, _, _, q6.cell 1, rd_row p3, Nat.le_refl _, by simp [maxLen]⟩
    · cases hp; exact ⟨q6.cell 2, _, _, q6.cell 3, rd_row p4, Nat.le_refl _, by simp [maxLen]⟩
    · cases hp; exact ⟨q6.cell 4, _, _, q6.cell 5, rd_row p5, Nat.le_refl _, by simp [maxLen]⟩
    · cases hp; exact ⟨q6.cell 6, _, _, q6.cell 7, Rd1.nil _ _ _, Nat.le_refl _, by simp [maxLen]⟩
  exact bodyPost_ret (results_cell_row rfl _ _ _ 25 _ (0, 0) _ rfl p0 under26 rfl size26) rfl (hP.out _ _ hg hb)
end Go.Proofs.YtnnkfgekiaaehaaGreat

/- The statements' own helper awake: the chapter's example holds. -/
namespace Go.Proofs.YtnnkfgekiaaehaaGreat
open Go.ChangeShapes Go.WideShapes Go.ChangeAt Go.RowKit
set_option linter.unusedVariables false
theorem rdL_row {W : World} {g : Nat} {l : List Lk} (h : Blk W g 41 (cellsL l).toArray) : RdL W W.heap.size (some ⟨g, 0, none⟩) l.length l :=
  ⟨rfl, .inr ⟨g, 0, rfl, h.lt, fun i x hx j hj => by rw [Nat.zero_add, h.cell, ← cellsL_get l i x hx j hj]; simp⟩⟩
theorem look_row (W : World) (g : Nat) (l : List Int) (h : Blk W g 3 (ints l).toArray) (hl : l.length ≤ 2) : Calls Tryz.prog 32 #[.slice (some ⟨g, 0, none⟩) l.length l.length] W fun e w' => e = .returned (Lk.of l).v ∧ Below W.heap.size W w' := by
  have hr := rd_row h
  have e : (ints l).toArray.size = l.length := by simp [ints]
  rw [e] at hr
  exact look_any _ _ _ l W hr hl
set_option maxHeartbeats 4000000 in
theorem awake_any (w : World) : Calls Tryz.prog 7 #[] w fun e w' => e = .returned (.bool true) ∧ Below w.heap.size w w' := by
  have hE := Lib.hid (fun W => example_any W)
  have hO := Lib.hid (fun (a : GA) (W : World) (h : GrAt W W.heap.size exG a) => of_any exG a 16 W h exG_ok (by decide +kernel) (exG_16.few (by simp)))
  have hL1 := Lib.hid (fun (W : World) (g : Nat) (h : Blk W g 3 #[.int .i64 1]) => (look_row W g [1] h (by simp) : Calls Tryz.prog 32 #[.slice (some ⟨g, 0, none⟩) 1 1] W fun e w' => e = .returned (.agg #[.int .i64 1, .int .i64 1, .int .i64 0, .int .i64 0, .int .i64 0]) ∧ Below W.heap.size W w'))
  have hL2 := Lib.hid (fun (W : World) (g : Nat) (h : Blk W g 3 #[.int .i64 1, .int .i64 1]) => (look_row W g [1, 1] h (by simp) : Calls Tryz.prog 32 #[.slice (some ⟨g, 0, none⟩) 2 2] W fun e w' => e = .returned (.agg #[.int .i64 2, .int .i64 1, .int .i64 1, .int .i64 0, .int .i64 0]) ∧ Below W.heap.size W w'))
  have hS := Lib.hid (fun (A : Option Addr) (c g : Nat) (W : World) (h1 : RdL W W.heap.size A 3 [Lk.of [], Lk.of [1], Lk.of [1, 1]]) (h2 : Blk W g 41 (cellsL [Lk.of [], Lk.of [1], Lk.of [1, 1]]).toArray) =>
    samelooks_any A (some ⟨g, 0, none⟩) 3 3 c 3 [Lk.of [], Lk.of [1], Lk.of [1, 1]] [Lk.of [], Lk.of [1], Lk.of [1, 1]] W h1 (rdL_row h2) (by intro y hy; simp at hy; rcases hy with rfl | rfl | rfl <;> exact right_wf (m := 8) (of_right (by omega) (by simp) (by simp))) (by intro y hy; simp at hy; rcases hy with rfl | rfl | rfl <;> exact right_wf (m := 8) (of_right (by omega) (by simp) (by simp))) (by simp [maxLen]) (by simp [maxLen]))
  rw [show decide ([Lk.of [], Lk.of [1], Lk.of [1, 1]] = [Lk.of [], Lk.of [1], Lk.of [1, 1]]) = true from by decide] at hS
  go_enter Tryz.func7, Tryz.ntmps7
  go_upto_region 2 with (first
    | (go_at_call 31; refine (hE.out _).mono ?_; rintro e w1 ⟨a, rfl, hg1, hb1⟩)
    | (go_at_call 21; refine (hO.out a _ hg1).mono ?_; rintro e w2 ⟨L, v, rfl, hL, ho, hb2⟩))
  have hLe := hL.uniq exG_16
  subst hLe
  obtain ⟨A, c, rfl, hrd, _, _, _⟩ := ho.reads
  have hb12 := hb1.trans (hb2.mono hb1.size)
  have hrd' := Lib.hid hrd
  clear hrd ho hg1 hL
  go_wp2_with (first
    | (go_at_call 32; refine (hL1.out _ _ (Blk.new _ _ _)).mono ?_; clear hL1; rintro e w3 ⟨rfl, hb3⟩)
    | (go_at_call 32; refine (hL2.out _ _ (Blk.new _ _ _)).mono ?_; clear hL2; rintro e w4 ⟨rfl, hb4⟩)
    | (go_at_call 10; refine (hS.out A c _ _ ((hrd'.out.below (by repeat (first | assumption | exact Below.refl _ _ | (refine bStep ?_ (by assumption)) | (with_reducible refine bAlc ?_ _)))).mono (Below.size (w := w2) (B := w2.heap.size) (by repeat (first | assumption | exact Below.refl _ _ | (refine bStep ?_ (by assumption)) | (with_reducible refine bAlc ?_ _))))) (Blk.new _ _ _)).mono ?_; rintro e w5 ⟨rfl, hb5⟩))
  go_ret
  refine ⟨rfl, hb12.trans (Below.mono (B := w2.heap.size) ?_ hb12.size)⟩
  repeat (first | assumption | exact Below.refl _ _ | (refine bStep ?_ (by assumption)) | (with_reducible refine bAlc ?_ _))
end Go.Proofs.YtnnkfgekiaaehaaGreat

/- The kit's Any. -/
namespace Go.Proofs.YtnnkfgekiaaehaaGreat
open Go.ChangeShapes Go.WideShapes Go.ChangeAt Go.RowKit
set_option linter.unusedVariables false
def YI (w : World) (K : Int) (t : Nat) (NA : Option Addr) (nk : Nat) (PA : Option Addr) (pk : Nat) (ns : List ByteArray) (ps : List Pr) (W : World) : Prop :=
  Blk W w.heap.size 25 #[.int .i64 0, .slice none 0 0, .string ByteArray.empty, .slice none 0 0, .int .i64 0, .slice none 0 0] ∧ Blk W (w.heap.size + 1) 9 #[.string { data := #[97] }, .string { data := #[98] }] ∧
    Blk W (w.heap.size + 2) 25 #[.int .i64 K, .slice (some ⟨w.heap.size + 1, 0, none⟩) t 2, .string { data := #[122] }, .slice NA ns.length nk, .int .i64 16, .slice PA ps.length pk] ∧
    Own1 W (w.heap.size + 3) 9 (.slice NA ns.length nk) (strs ns) ∧ PsO W (w.heap.size + 3) (.slice PA ps.length pk) ps ∧ Below w.heap.size w W
theorem YI.step {w : World} {K : Int} {t : Nat} {NA : Option Addr} {nk : Nat} {PA : Option Addr} {pk : Nat} {ns : List ByteArray} {ps : List Pr} {W W' : World} (h : YI w K t NA nk PA pk ns ps W) (hb : Below W.heap.size W W') : YI w K t NA nk PA pk ns ps W' := by
  obtain ⟨h1, h2, h3, h4, h5, h6⟩ := h
  exact ⟨h1.step hb, h2.step hb, h3.step hb, h4.step hb, h5.step hb, bStep h6 hb⟩
theorem YI.names {w : World} {K : Int} {t : Nat} {NA NA2 : Option Addr} {nk nk2 : Nat} {PA : Option Addr} {pk : Nat} {ns : List ByteArray} {s : ByteArray} {ps : List Pr} {W W1 : World} (h : YI w K t NA nk PA pk ns ps W) (hg : W.grownBy W1 (Value.slice NA ns.length nk).ownBlock) (ho : Own1 W1 (w.heap.size + 3) 9 (.slice NA2 (ns ++ [s]).length nk2) (strs (ns ++ [s]))) :
    YI w K t NA2 nk2 PA pk (ns ++ [s]) ps (W1.setCell ⟨w.heap.size + 2, 3, none⟩ (.slice NA2 (ns ++ [s]).length nk2)) := by
  obtain ⟨h1, h2, h3, h4, h5, h6⟩ := h
  have hlo : ∀ r, (Value.slice NA ns.length nk).ownBlock = some r → w.heap.size + 3 ≤ r := fun r e => (own_in h4 r e).1
  have h3' := h3.grown hg (fun e => by have := hlo _ e.symm; omega)
  have hty : ∀ (e : TypeId), e ≠ 9 → ∀ (b : Nat) (cs : Array Value), (Value.slice NA ns.length nk).ownBlock = some b → ¬ Blk W b e cs := fun e he b cs e1 hq => by obtain ⟨cs', hq'⟩ := own_blk h4 e1; exact he (blk_type hq hq')
  have hst := grownBy_setC' W1 (w.heap.size + 2) 3 (.slice NA2 (ns ++ [s]).length nk2)
  have hty2 : ∀ (e : TypeId), e ≠ 25 → ∀ (b : Nat) (cs : Array Value), some (w.heap.size + 2) = some b → ¬ Blk W1 b e cs := fun e he b cs e1 hq => by injection e1 with e1; subst e1; exact he (blk_type hq h3')
  have hb : Below w.heap.size W W1 := ⟨hg.os, hg.tape, hg.output, hg.size, fun k hk => hg.block k (by have := h6.size; omega) (fun e => by have := hlo _ e.symm; omega)⟩
  exact ⟨(h1.grown hg (fun e => by have := hlo _ e.symm; omega)).far (by simp) _, (h2.grown hg (fun e => by have := hlo _ e.symm; omega)).far (by simp) _, h3'.put 3 _, row_grown ho hst (hty2 9 (by decide)), (h5.grown hg (hty 3 (by decide)) (hty 47 (by decide))).grown hst (hty2 3 (by decide)) (hty2 47 (by decide)), bSet (h6.trans hb) _ _ (by simp)⟩
theorem YI.prods {w : World} {K : Int} {t : Nat} {NA PA2 : Option Addr} {nk pk2 : Nat} {PA : Option Addr} {pk : Nat} {ns : List ByteArray} {ps qs : List Pr} {W W1 : World} (h : YI w K t NA nk PA pk ns ps W) (hg : W.grownBy W1 (Value.slice PA ps.length pk).ownBlock) (ho : PsO W1 (w.heap.size + 3) (.slice PA2 qs.length pk2) qs) :
    YI w K t NA nk PA2 pk2 ns qs (W1.setCell ⟨w.heap.size + 2, 5, none⟩ (.slice PA2 qs.length pk2)) := by
  obtain ⟨h1, h2, h3, h4, h5, h6⟩ := h
  obtain ⟨rs, hpr⟩ := h5
  have hlo : ∀ r, (Value.slice PA ps.length pk).ownBlock = some r → w.heap.size + 3 ≤ r := fun r e => (own_in hpr.2.1 r e).1
  have h3' := h3.grown hg (fun e => by have := hlo _ e.symm; omega)
  have hty : ∀ (e : TypeId), e ≠ 47 → ∀ (b : Nat) (cs : Array Value), (Value.slice PA ps.length pk).ownBlock = some b → ¬ Blk W b e cs := fun e he b cs e1 hq => by obtain ⟨cs', hq'⟩ := own_blk hpr.2.1 e1; exact he (blk_type hq hq')
  have hst := grownBy_setC' W1 (w.heap.size + 2) 5 (.slice PA2 qs.length pk2)
  have hty2 : ∀ (e : TypeId), e ≠ 25 → ∀ (b : Nat) (cs : Array Value), some (w.heap.size + 2) = some b → ¬ Blk W1 b e cs := fun e he b cs e1 hq => by injection e1 with e1; subst e1; exact he (blk_type hq h3')
  have hb : Below w.heap.size W W1 := ⟨hg.os, hg.tape, hg.output, hg.size, fun k hk => hg.block k (by have := h6.size; omega) (fun e => by have := hlo _ e.symm; omega)⟩
  exact ⟨(h1.grown hg (fun e => by have := hlo _ e.symm; omega)).far (by simp) _, (h2.grown hg (fun e => by have := hlo _ e.symm; omega)).far (by simp) _, h3'.put 5 _, row_grown (row_grown h4 hg (hty 9 (by decide))) hst (hty2 9 (by decide)), ho.grown hst (hty2 3 (by decide)) (hty2 47 (by decide)), bSet (h6.trans hb) _ _ (by simp)⟩
end Go.Proofs.YtnnkfgekiaaehaaGreat

/- Small grammars: few looks; the laws of FOLLOW on sets. -/
namespace Go.Proofs.YtnnkfgekiaaehaaGreat
open Go.ChangeShapes Go.WideShapes Go.ChangeAt Go.RowKit
set_option linter.unusedVariables false
def IsInts (w : World) (a : Option Addr) (len cap : Nat) (zs : List Int) : Prop :=
  (a = none ∧ len = 0 ∧ cap = 0 ∧ zs = []) ∨
  ∃ x, a = some x ∧ len ≤ cap ∧ cap ≤ maxLen ∧ zs.length = cap ∧ (∀ i, i < zs.length → w.cell? (x.add i) = some (.int .i64 (zs.getD i 0))) ∧ (∀ n ∈ zs, (Lit.int .i64 n).wf = true)
theorem ints_reads {w : World} {a : Option Addr} {len cap : Nat} {zs : List Int} (h : IsInts w a len cap zs) :
    Rd1 w w.heap.size a len (ints (zs.take len)) ∧ (∀ n ∈ zs.take len, (Lit.int .i64 n).wf = true) ∧ len ≤ maxLen := by
  rcases h with ⟨rfl, rfl, rfl, rfl⟩ | ⟨⟨b, off, spot⟩, rfl, h1, h2, h3, h4, h5⟩
  · exact ⟨Rd1.nil _ _ _, by simp, by simp [maxLen]⟩
  · refine ⟨?_, fun n hn => h5 n (List.mem_of_mem_take hn), by omega⟩
    by_cases h0 : len = 0
    · subst h0; exact Rd1.nil _ _ _
    · have hc0 := h4 0 (by omega)
      have hs : spot = none := by simpa [Addr.add] using World.cell?_spot hc0
      subst hs
      have hll : (zs.take len).length = len := by rw [List.length_take]; omega
      refine ⟨by simp [ints]; omega, .inr ⟨b, off, rfl, ?_, fun i v hv => ?_⟩⟩
      · exact block_lt_of_cell (a := ⟨b, off, none⟩) (by simpa [Addr.add] using hc0)
      · have hi : i < len := by have := (List.getElem?_eq_some_iff.1 hv).1; simp [ints] at this; omega
        have hadd : (⟨b, off, none⟩ : Addr).add i = ⟨b, off + i, none⟩ := by unfold Addr.add; split <;> simp_all
        have hc := h4 i (by omega)
        rw [hadd] at hc
        have hiz : i < zs.length := by omega
        simp [ints, hi, hiz, List.getElem?_take] at hv
        rw [hc, ← hv]
        simp [List.getD_eq_getElem?_getD, hiz]
theorem psok_of {g : Gr} {k : Nat} (h : GOk g k) : PsOk g.prods g.toks.length := fun p hp s hs h16 => by
  rcases (h.pr p hp).2.2 s hs with h1 | h1
  · exact h1
  · omega
theorem fo_fit {g : Gr} (hok : gchk g = 0) {s : Int} {y : Lk} (h : FO g.prods g.k.toNat g.start s y) : y.right g.toks.length ∧ y.l.length ≤ g.k.toNat := by
  have hk := gok_of hok
  exact fo_right hk.k1 hk.k4 (by have := hk.tk; omega) (psok_of hk) h
def univ2 : List Lk := [[], [0], [1], [0, 0], [0, 1], [1, 0], [1, 1]].map Lk.of
theorem univ2_mem {x : Lk} (h : x.right 2) (hl : x.l.length ≤ 2) : x ∈ univ2 := by
  obtain ⟨_, _, ho, hv⟩ := right_l h
  rw [← ho]
  refine List.mem_map_of_mem ?_
  match hx : x.l, hl with
  | [], _ => simp
  | [a], _ =>
    have := hv a (by rw [hx]; simp)
    rcases (by omega : a = 0 ∨ a = 1) with rfl | rfl <;> simp
  | [a, b], _ =>
    have h1 := hv a (by rw [hx]; simp)
    have h2 := hv b (by rw [hx]; simp)
    rcases (by omega : a = 0 ∨ a = 1) with rfl | rfl <;> rcases (by omega : b = 0 ∨ b = 1) with rfl | rfl <;> simp
  | a :: b :: c :: t, h => simp at h
structure Slight (g : Gr) : Prop where
  ok : gchk g = 0
  tk : g.toks.length ≤ 2
  k2 : g.k ≤ 2
theorem Slight.fit {g : Gr} (h : Slight g) {s : Int} {y : Lk} (hy : FO g.prods g.k.toNat g.start s y) : y ∈ univ2 := by
  have hf := fo_fit h.ok hy
  have hk := gok_of h.ok
  exact univ2_mem (right_mono hf.1 (by have := h.tk; omega) (by omega)) (by have := h.k2; omega)
theorem Slight.few {g : Gr} (h : Slight g) (s : Int) : Few g s := fun L hn hL => by
  have := nodup_len hn fun y hy => h.fit (hL y hy)
  have e : univ2.length = 7 := rfl
  omega
end Go.Proofs.YtnnkfgekiaaehaaGreat

/- The grammars that the kit makes of numbers are right and small. -/
namespace Go.Proofs.YtnnkfgekiaaehaaGreat
set_option linter.unusedVariables false
theorem few43 {k : Nat} {m : Int} (hk : k ≤ 3) (h4 : m ≤ 4) {L : List Lk} (hn : L.Nodup) (hm : 1 ≤ m) (hL : ∀ y ∈ L, y.right m ∧ y.l.length ≤ k) : L.length ≤ 600 := by
  have h3 : (univ.filter fun x => decide (lchk x 4 = 0) && decide (x.n ≤ 3)).length ≤ 600 := by decide +kernel
  refine Nat.le_trans (nodup_len hn fun y hy => ?_) h3
  obtain ⟨r, l⟩ := hL y hy
  have rM := right_mono r h4 (by omega)
  have r8 := right_mono (k := 8) rM (by omega) (by omega)
  rw [List.mem_filter]
  refine ⟨univ_mem r8, ?_⟩
  have hr0 : lchk y 4 = 0 := rM
  have := (right_l r).1
  simp only [Bool.and_eq_true, decide_eq_true_eq]
  exact ⟨hr0, by omega⟩
set_option maxRecDepth 100000 in
set_option maxHeartbeats 0 in
theorem gT_okB : ∀ r, r < 16 → ∀ a b, (decide (gchk (gT r a b) = 0) && (decide ((gT r a b).k ≤ 3) && decide ((gT r a b).toks.length ≤ 4))) = true := by decide +kernel
theorem gT_ok {r : Nat} (h : r < 16) (a b : Bool) : gchk (gT r a b) = 0 ∧ (gT r a b).k ≤ 3 ∧ (gT r a b).toks.length ≤ 4 := by
  have := gT_okB r h a b
  simpa only [Bool.and_eq_true, decide_eq_true_eq] using this
theorem gT_few {r : Nat} (h : r < 16) (a b : Bool) {l : List Int} (hl : ∀ s ∈ l, s < 16 → 0 ≤ s ∧ s < (gT r a b).toks.length) {L : List Lk} (hn : L.Nodup) (hL : ∀ y ∈ L, FL (gT r a b).prods (gT r a b).k.toNat l y) : L.length ≤ 600 := by
  obtain ⟨h1, h2, h3⟩ := gT_ok h a b
  have hk := gok_of h1
  have ht := hk.tk
  refine few43 (k := (gT r a b).k.toNat) (m := (gT r a b).toks.length) (by omega) (by omega) hn (by omega) fun y hy => ?_
  exact fl_right hk.k1 hk.k4 (by omega) (psok_of hk) (hL y hy) hl
theorem prIdx_some {g : Gr} (h : gchk g = 0) {s : Int} (hs : ntB g s = true) : 0 < (prIdx g.prods s g.prods.length).length := by
  have hc := ((gchk_iff g).1 h).2.2.2.2.2.2.2
  have hb : 16 ≤ s ∧ s < 16 + (g.names.length : Int) := of_decide_eq_true hs
  unfold compB at hc
  rw [List.all_eq_true] at hc
  have h1 := hc (s - 16).toNat (by rw [List.mem_range]; omega)
  rw [List.any_eq_true] at h1
  obtain ⟨p, hp, he⟩ := h1
  simp only [decide_eq_true_eq] at he
  obtain ⟨i, hi, rfl⟩ := List.getElem_of_mem hp
  have : (i : Int) ∈ prIdx g.prods s g.prods.length := by
    unfold prIdx
    rw [List.mem_map]
    refine ⟨i, ?_, rfl⟩
    rw [List.mem_filter, List.mem_range]
    refine ⟨hi, ?_⟩
    simp only [decide_eq_true_eq]
    rw [List.getD_eq_getElem?_getD, List.getElem?_eq_getElem hi]
    simp only [Option.getD_some]
    omega
  exact List.length_pos_of_mem this
theorem prIdx_get {ps : List Pr} {s : Int} {n i : Nat} {v : Int} (h : (prIdx ps s n)[i]? = some v) : ∃ j : Nat, v = (j : Int) ∧ j < n ∧ (ps.getD j default).left = s := by
  have hm := List.mem_of_getElem? h
  unfold prIdx at hm
  rw [List.mem_map] at hm
  obtain ⟨j, hj, rfl⟩ := hm
  rw [List.mem_filter, List.mem_range] at hj
  exact ⟨j, rfl, hj.1, by simpa using hj.2⟩
def atN : List Int → Nat
  | [] => 0
  | s :: l => if s < 16 then atN l + 1 else 0
theorem atN_lt : ∀ (f : List Int) (j : Nat) (s : Int), j < atN f → f[j]? = some s → s < 16
  | [], j, s, h, _ => by simp [atN] at h
  | x :: l, j, s, h, hs => by
    unfold atN at h
    split at h
    · cases j with
      | zero => simp at hs; omega
      | succ j => exact atN_lt l j s (by omega) (by simpa using hs)
    · omega
theorem atN_at : ∀ (f : List Int) (s : Int), f[atN f]? = some s → 16 ≤ s
  | [], s, h => by simp [atN] at h
  | x :: l, s, h => by
    unfold atN at h
    split at h
    · exact atN_at l s (by simpa using h)
    · simp at h; omega
theorem FormOk.next {g : Gr} {k : Nat} (h : GOk g k) {f : List Int} (hf : FormOk g k f) {s : Int} (hs : f[atN f]? = some s) {p : Pr} (hp : p ∈ g.prods) (hl : p.left = s) : FormOk g k (f.take (atN f) ++ p.right ++ f.drop (atN f + 1)) := by
  have hlt := (List.getElem?_eq_some_iff.1 hs).1
  have he : f = f.take (atN f) ++ s :: f.drop (atN f + 1) := by
    have h1 := List.drop_eq_getElem_cons hlt
    rw [(List.getElem?_eq_some_iff.1 hs).2] at h1
    rw [← h1, List.take_append_drop]
  refine FormOk.step h (A := s) (by rw [← he]; exact hf) ?_ (atN_at f s hs) hp hl
  intro x hx
  obtain ⟨j, hj, rfl⟩ := List.getElem_of_mem hx
  have hj' : j < atN f := by rw [List.length_take] at hj; omega
  exact atN_lt f j _ hj' (by rw [List.getElem_take]; exact List.getElem?_eq_getElem (by omega))
end Go.Proofs.YtnnkfgekiaaehaaGreat

/- look.Check. -/
namespace Go.Proofs.YtnnkfgekiaaehaaGreat
open Go.ChangeShapes Go.WideShapes Go.ChangeAt Go.RowKit
set_option linter.unusedVariables false
theorem splice_of (l : List Int) (h : l.length ≤ 4) : (splice [Value.int .i64 0, .int .i64 0, .int .i64 0, .int .i64 0, .int .i64 0] 1 (ints l)).toArray = #[.int .i64 0, .int .i64 (Lk.of l).a, .int .i64 (Lk.of l).b, .int .i64 (Lk.of l).c, .int .i64 (Lk.of l).d] := by
  match l, h with
  | [], _ => rfl
  | [a], _ => rfl
  | [a, b], _ => rfl
  | [a, b, c], _ => rfl
  | [a, b, c, d], _ => rfl
  | a :: b :: c :: d :: e :: l, h => exfalso; simp at h
theorem size3 : (Tryz.prog.info? 3).map (·.size) = some 1 := by kernel_rfl
theorem copy_look {W1 : World} {g B : Nat} (q : Blk W1 g 41 #[.int .i64 0, .int .i64 0, .int .i64 0, .int .i64 0, .int .i64 0]) {A : Option Addr} {n : Nat} (c : Nat) {l : List Int} (h : Rd1 W1 B A n (ints l)) (hn : n ≤ 4) :
    ∃ W2, (Builtin.copy_ #[34, 34] 3 #[.slice (some ⟨g, 1, none⟩) 4 4, .slice A n c]).run Tryz.prog W1 = .ok (.int .i64 n) W2 ∧
      Blk W2 g 41 #[.int .i64 0, .int .i64 (Lk.of l).a, .int .i64 (Lk.of l).b, .int .i64 (Lk.of l).c, .int .i64 (Lk.of l).d] ∧ ∀ W0, Below W0.heap.size W0 W1 → W0.heap.size ≤ g → Below W0.heap.size W0 W2 := by
  have hl : l.length = n := by have := h.1; simpa [ints] using this
  have hsp := splice_of l (by omega)
  by_cases h0 : n = 0
  · subst h0
    have hln : l = [] := List.eq_nil_of_length_eq_zero hl
    subst hln
    exact ⟨W1, run_copy_none (P := Tryz.prog) W1 34 34 3 3 (some ⟨g, 1, none⟩) A 4 4 0 c under22 size3 (by simp), q, fun W0 hb _ => hb⟩
  · rcases h.2 with h2 | ⟨b, off, rfl, hbt, hc⟩
    · exact absurd h2 h0
    · have hmin : (ints l).length = Nat.min n 4 := by simp only [ints, List.length_map]; rw [hl]; exact (Nat.min_eq_left hn).symm
      have hr := run_copy_row (P := Tryz.prog) W1 34 34 3 3 g 1 4 4 ⟨b, off, none⟩ n c #[.int .i64 0, .int .i64 0, .int .i64 0, .int .i64 0, .int .i64 0] 41 (ints l) under22 size3 q hmin
        (fun j v hv => by
          have hadd : (⟨b, off, none⟩ : Addr).add j = ⟨b, off + j, none⟩ := by unfold Addr.add; split <;> simp_all
          rw [hadd]; exact hc j v hv) (by simp [ints]; omega) (fun v hv => by obtain ⟨z, _, rfl⟩ := List.mem_map.1 hv; rfl)
      have hil : (ints l).length = n := by simp [ints, hl]
      rw [show goInt (ints l).length = Value.int .i64 n by rw [hil]; rfl] at hr
      have e : ((#[Value.int .i64 0, .int .i64 0, .int .i64 0, .int .i64 0, .int .i64 0] : Array Value).toList.take 1 ++ ints l ++ (#[Value.int .i64 0, .int .i64 0, .int .i64 0, .int .i64 0, .int .i64 0] : Array Value).toList.drop (1 + (ints l).length)).toArray = #[.int .i64 0, .int .i64 (Lk.of l).a, .int .i64 (Lk.of l).b, .int .i64 (Lk.of l).c, .int .i64 (Lk.of l).d] := by
        rw [List.append_assoc]; exact hsp
      rw [e] at hr
      exact ⟨_, hr, setRow_heap W1 g _ _ 41 _ q, fun W0 hb hg => below_setRow hb hg _⟩
set_option maxRecDepth 100000 in
theorem lookof_any (A : Option Addr) (n c : Nat) (l : List Int) (w : World) (h : Rd1 w w.heap.size A n (ints l)) (hn : n ≤ 4) : Calls Tryz.prog 97 #[.slice A n c] w fun e w' => e = .returned (Lk.of l).v ∧ Below w.heap.size w w' := by
  have hl : l.length = n := by have := h.1; simpa [ints] using this
  have hyn : (Lk.of l).n = n := by rw [of_n, hl]
  have hb1 : Below w.heap.size w (w.alloc (.cells #[.int .i64 0, .int .i64 0, .int .i64 0, .int .i64 0, .int .i64 0] 41)) := bAlc (Below.refl _ _) _
  obtain ⟨W2, hrun, q3, hb2⟩ := copy_look (Blk.new w 41 #[.int .i64 0, .int .i64 0, .int .i64 0, .int .i64 0, .int .i64 0]) c (h.below hb1) hn
  have hB2 := hb2 w hb1 (Nat.le_refl _)
  replace hl := Lib.hid hl
  clear h hb2
  generalize Lk.of l = y at *
  obtain ⟨yn, ya, yb, yc, yd⟩ := y
  dsimp only at hyn q3
  subst hyn
  unfold Lk.v
  go_enter Tryz.func97, Tryz.ntmps97
  have z0 := q3.cell 0
  have z1 := q3.frozen 0
  simp only [List.getElem?_toArray, List.getElem?_cons_zero] at z0
  go_upto_region 1 with (fail)
  generalize w.alloc (.cells #[.int .i64 0, .int .i64 0, .int .i64 0, .int .i64 0, .int .i64 0] 41) = W1 at *
  go_upto_region 2 with (fail)
  have q4 := q3.put 0 (.int .i64 n)
  have hb4 := bSet hB2 ⟨w.heap.size, 0, none⟩ (.int .i64 n) (Nat.le_refl _)
  clear z0 z1 q3 hB2 hb1 hrun
  generalize W2.setCell ⟨w.heap.size, 0, none⟩ (.int .i64 n) = W4 at *
  have q5 : Blk W4 w.heap.size 41 (Lk.cells ⟨n, ya, yb, yc, yd⟩) := q4
  have a0 := q5.cell 0
  have a1 := q5.cell 1
  have a2 := q5.cell 2
  have a3 := q5.cell 3
  have a4 := q5.cell 4
  have f0 := q5.frozen 0
  have f1 := q5.frozen 1
  have f2 := q5.frozen 2
  have f3 := q5.frozen 3
  have f4 := q5.frozen 4
  simp only [Lk.cells, List.getElem?_toArray, List.getElem?_cons_zero, List.getElem?_cons_succ] at a0 a1 a2 a3 a4
  go_wp2_with fail
  exact bodyPost_ret (results_look rfl _ _ _ ⟨n, ya, yb, yc, yd⟩ rfl (put5 q5 ⟨n, ya, yb, yc, yd⟩)) rfl ⟨rfl, bSet5 hb4 (Nat.le_refl _) _ _ _ _ _⟩
theorem pad_of {x : Lk} (h0 : 0 ≤ x.n) (h4 : x.n ≤ 4) : Lk.of x.l = x ↔ padB x = true := by
  obtain ⟨n, a, b, c, d⟩ := x
  simp only at h0 h4
  obtain ⟨k, rfl⟩ := Int.eq_ofNat_of_zero_le h0
  have : k = 0 ∨ k = 1 ∨ k = 2 ∨ k = 3 ∨ k = 4 := by omega
  rcases this with rfl | rfl | rfl | rfl | rfl <;> simp [Lk.of, Lk.l, padB, List.range_succ, Lk.s] <;> constructor <;> intro h <;> omega
theorem lk_rd {W : World} {g : Nat} {x : Lk} (h : Blk W g 41 x.cells) (k : Nat) (hk : x.n = k) (h4 : k ≤ 4) : Rd1 W W.heap.size (some ⟨g, 1, none⟩) k (ints x.l) := by
  have hl : x.l.length = k := by unfold Lk.l; rw [hk, List.length_take]; simp; omega
  refine ⟨by simp [ints, hl], .inr ⟨g, 1, rfl, h.lt, fun i v hv => ?_⟩⟩
  have hi : i < x.l.length := by have := (List.getElem?_eq_some_iff.1 hv).1; simpa [ints] using this
  rw [h.cell]
  have e : (ints x.l)[i]? = some (.int .i64 (x.s i)) := by
    have h1 : x.l[i]? = some (x.s i) := by
      unfold Lk.l
      rw [hk, List.getElem?_take, if_pos (by simp; omega)]
      rcases i with _ | _ | _ | _ | i <;> first | rfl | omega
    simp [ints, h1]
  rw [e] at hv
  cases hv
  exact Lk.cellAt x i (by omega)
theorem of_wf {x : Lk} (hx : x.wf) (h0 : 0 ≤ x.n) (h4 : x.n ≤ 4) : (Lk.of x.l).wf := by
  obtain ⟨n, a, b, c, d⟩ := x
  obtain ⟨h1, h2, h3, h5, h6⟩ := hx
  simp only at h0 h4 h1 h2 h3 h5 h6
  obtain ⟨k, rfl⟩ := Int.eq_ofNat_of_zero_le h0
  have z : (Lit.int .i64 0).wf = true := by decide
  have : k = 0 ∨ k = 1 ∨ k = 2 ∨ k = 3 ∨ k = 4 := by omega
  rcases this with rfl | rfl | rfl | rfl | rfl <;> exact ⟨h1, by first | exact h2 | exact z, by first | exact h3 | exact z, by first | exact h5 | exact z, by first | exact h6 | exact z⟩
set_option maxRecDepth 100000 in
set_option maxHeartbeats 4000000 in
theorem lcheck60_any (x : Lk) (m : Int) (w : World) (hx : x.wf) : Calls Tryz.prog 49 #[x.v, .int .i64 m] w fun e w' => e = .returned (.int .i64 (lchk x m)) ∧ Below w.heap.size w w' := by
  have q0 := Blk.new w 41 x.cells
  have hb0 : Below w.heap.size w (w.alloc (.cells x.cells 41)) := bAlc (Below.refl _ _) _
  have hOf0 := Lib.hid (fun (W : World) (k : Nat) (hk : x.n = k) (h4 : k ≤ 4) (h : Blk W w.heap.size 41 x.cells) => lookof_any (some ⟨w.heap.size, 1, none⟩) k 4 x.l W (lk_rd h k hk h4) h4)
  have hC := Lib.hid (Lk.cellAt x)
  have hpo := Lib.hid (pad_of (x := x))
  have hne := Lib.hid (fun (h0 : 0 ≤ x.n) (h4 : x.n ≤ 4) (W : World) => look_neq (Lk.of x.l) x (of_wf hx h0 h4) hx W)
  unfold Lk.v
  unfold Lk.cells at q0 hb0 hOf0
  by_cases h1 : m < 1
  · have hE : lchk x m = 2 := by unfold lchk; rw [if_pos (by omega)]
    rw [hE]; clear hE
    go_enter Tryz.func49, Tryz.ntmps49
    go_wp2_with fail
    go_ret
    exact ⟨rfl, hb0⟩
  by_cases h2 : 8 < m
  · have hE : lchk x m = 2 := by unfold lchk; rw [if_pos (by omega)]
    rw [hE]; clear hE
    go_enter Tryz.func49, Tryz.ntmps49
    go_wp2_with fail
    go_ret
    exact ⟨rfl, hb0⟩
  by_cases h3 : x.n < 0
  · have hE : lchk x m = 3 := by unfold lchk; rw [if_neg (by omega), if_pos (by omega)]
    rw [hE]; clear hE hOf0 hne hpo
    go_enter Tryz.func49, Tryz.ntmps49
    go_upto_region 3 with (fail)
    generalize w.alloc (.cells #[.int .i64 x.n, .int .i64 x.a, .int .i64 x.b, .int .i64 x.c, .int .i64 x.d] 41) = W1 at *
    have c0 := q0.cell 0
    simp only [List.getElem?_toArray, List.getElem?_cons_zero] at c0
    have hAll : Hid (∀ w', Below W1.heap.size W1 w' → w'.cell? ⟨w.heap.size, 0, none⟩ = some (.int .i64 x.n) ∧ Below W1.heap.size W1 w') := Lib.hid fun w' h => ⟨cell_later h c0, h⟩
    have hFin : Hid (∀ w', Below W1.heap.size W1 w' → Below w.heap.size w w') := Lib.hid fun w' h => bStep hb0 h
    clear c0 q0 hb0
    refine wp_region_held_drew (S := (fun w' => w'.cell? ⟨w.heap.size, 0, none⟩ = some (.int .i64 x.n) ∧ Below W1.heap.size W1 w')) (by kernel_rfl) (hAll.out _ (bDrw (Below.refl _ _))) (fun hHeld => ?_)
    refine wpAnyH_take (i := 0) (oi := ⟨some 15, _, _, _, _, _⟩) (v := ?va1) rfl (by kernel_rfl) (by kernel_rfl) (by kernel_rfl) (fun _ _ _ h => h) (Or.inl ⟨by rfl, ?hya1⟩) (by assumption) ?resta1
    case hya1 => (intro w hSw; (try dsimp only at hSw); go_simp <;> with_reducible rfl)
    try simp only [Act.put, List.setIfInBounds_toArray, List.set_cons_zero, List.set_cons_succ]
    refine wpAnyH_take (i := 1) (oi := ⟨some 16, _, _, _, _, _⟩) (v := ?va2) rfl (by kernel_rfl) (by kernel_rfl) (by kernel_rfl) (fun _ _ _ h => h) (Or.inl ⟨by rfl, ?hya2⟩) (by assumption) ?resta2
    case hya2 => (intro w hSw; (try dsimp only at hSw); go_simp <;> with_reducible rfl)
    try simp only [Act.put, List.setIfInBounds_toArray, List.set_cons_zero, List.set_cons_succ]
    refine wpAnyH_take (i := 2) (oi := ⟨some 17, _, _, _, _, _⟩) (v := ?va3) rfl (by kernel_rfl) (by kernel_rfl) (by kernel_rfl) (fun _ _ _ h => h) (Or.inl ⟨by rfl, ?hya3⟩) (by assumption) ?resta3
    case hya3 => (intro w hSw; (try dsimp only at hSw); go_simp <;> with_reducible rfl)
    try simp only [Act.put, List.setIfInBounds_toArray, List.set_cons_zero, List.set_cons_succ]
    refine wpAnyH_take (i := 3) (oi := ⟨some 18, _, _, _, _, _⟩) (v := ?va4) rfl (by kernel_rfl) (by kernel_rfl) (by kernel_rfl) (fun _ _ _ h => h) (Or.inl ⟨by rfl, ?hya4⟩) (by assumption) ?resta4
    case hya4 => (intro w hSw; (try dsimp only at hSw); go_simp <;> with_reducible rfl)
    try simp only [Act.put, List.setIfInBounds_toArray, List.set_cons_zero, List.set_cons_succ]
    refine wpAnyH_take (i := 4) (oi := ⟨some 19, _, _, _, _, _⟩) (v := undef) rfl (by kernel_rfl) (by kernel_rfl) (by kernel_rfl) (fun _ _ _ h => h) (Or.inr ⟨by rfl, rfl⟩) (by assumption) ?_
    try simp only [Act.put, List.setIfInBounds_toArray, List.set_cons_zero, List.set_cons_succ]
    refine wpAnyH_take (i := 5) (oi := ⟨some 20, _, _, _, _, _⟩) (v := undef) rfl (by kernel_rfl) (by kernel_rfl) (by kernel_rfl) (fun _ _ _ h => h) (Or.inr ⟨by rfl, rfl⟩) (by assumption) ?_
    try simp only [Act.put, List.setIfInBounds_toArray, List.set_cons_zero, List.set_cons_succ]
    refine wpAnyH_take (i := 6) (oi := ⟨some 21, _, _, _, _, _⟩) (v := undef) rfl (by kernel_rfl) (by kernel_rfl) (by kernel_rfl) (fun _ _ _ h => h) (Or.inr ⟨by rfl, rfl⟩) (by assumption) ?_
    try simp only [Act.put, List.setIfInBounds_toArray, List.set_cons_zero, List.set_cons_succ]
    refine wpAnyH_take (i := 7) (oi := ⟨some 22, _, _, _, _, _⟩) (v := ?va8) rfl (by kernel_rfl) (by kernel_rfl) (by kernel_rfl) (fun _ _ _ h => h) (Or.inl ⟨by rfl, ?hya8⟩) (by assumption) ?resta8
    case hya8 => (intro w hSw; (try dsimp only at hSw); go_simp <;> with_reducible rfl)
    try simp only [Act.put, List.setIfInBounds_toArray, List.set_cons_zero, List.set_cons_succ]
    refine wpAnyH_take (i := 8) (oi := ⟨some 23, _, _, _, _, _⟩) (v := ?va9) rfl (by kernel_rfl) (by kernel_rfl) (by kernel_rfl) (fun _ _ _ h => h) (Or.inl ⟨by rfl, ?hya9⟩) (by assumption) ?resta9
    case hya9 => (intro w hSw; (try dsimp only at hSw); go_simp <;> with_reducible rfl)
    try simp only [Act.put, List.setIfInBounds_toArray, List.set_cons_zero, List.set_cons_succ]
    refine wpAnyH_take (i := 9) (oi := ⟨some 24, _, _, _, _, _⟩) (v := undef) rfl (by kernel_rfl) (by kernel_rfl) (by kernel_rfl) (fun _ _ _ h => h) (Or.inr ⟨by rfl, rfl⟩) (by assumption) ?_
    try simp only [Act.put, List.setIfInBounds_toArray, List.set_cons_zero, List.set_cons_succ]
    refine wpAnyH_take (i := 10) (oi := ⟨some 25, _, _, _, _, _⟩) (v := undef) rfl (by kernel_rfl) (by kernel_rfl) (by kernel_rfl) (fun _ _ _ h => h) (Or.inr ⟨by rfl, rfl⟩) (by assumption) ?_
    try simp only [Act.put, List.setIfInBounds_toArray, List.set_cons_zero, List.set_cons_succ]
    refine wpAnyH_take (i := 11) (oi := ⟨some 26, _, _, _, _, _⟩) (v := undef) rfl (by kernel_rfl) (by kernel_rfl) (by kernel_rfl) (fun _ _ _ h => h) (Or.inr ⟨by rfl, rfl⟩) (by assumption) ?_
    try simp only [Act.put, List.setIfInBounds_toArray, List.set_cons_zero, List.set_cons_succ]
    refine wpAnyH_take (i := 12) (oi := ⟨some 27, _, _, _, _, _⟩) (v := undef) rfl (by kernel_rfl) (by kernel_rfl) (by kernel_rfl) (fun _ _ _ h => h) (Or.inr ⟨by rfl, rfl⟩) (by assumption) ?_
    try simp only [Act.put, List.setIfInBounds_toArray, List.set_cons_zero, List.set_cons_succ]
    refine wpAnyH_take (i := 13) (oi := ⟨some 28, _, _, _, _, _⟩) (v := undef) rfl (by kernel_rfl) (by kernel_rfl) (by kernel_rfl) (fun _ _ _ h => h) (Or.inr ⟨by rfl, rfl⟩) (by assumption) ?_
    try simp only [Act.put, List.setIfInBounds_toArray, List.set_cons_zero, List.set_cons_succ]
    refine wpAnyH_take (i := 14) (oi := ⟨some 29, _, _, _, _, _⟩) (v := undef) rfl (by kernel_rfl) (by kernel_rfl) (by kernel_rfl) (fun _ _ _ h => h) (Or.inr ⟨by rfl, rfl⟩) (by assumption) ?_
    try simp only [Act.put, List.setIfInBounds_toArray, List.set_cons_zero, List.set_cons_succ]
    refine wpAnyH_take (i := 15) (oi := ⟨some 30, _, _, _, _, _⟩) (v := undef) rfl (by kernel_rfl) (by kernel_rfl) (by kernel_rfl) (fun _ _ _ h => h) (Or.inr ⟨by rfl, rfl⟩) (by assumption) ?_
    try simp only [Act.put, List.setIfInBounds_toArray, List.set_cons_zero, List.set_cons_succ]
    refine wpAnyH_take (i := 16) (oi := ⟨some 31, _, _, _, _, _⟩) (v := ?va17) rfl (by kernel_rfl) (by kernel_rfl) (by kernel_rfl) (fun _ _ _ h => h) (Or.inl ⟨by rfl, ?hya17⟩) (by assumption) ?resta17
    case hya17 => (intro w hSw; (try dsimp only at hSw); go_simp <;> with_reducible rfl)
    try simp only [Act.put, List.setIfInBounds_toArray, List.set_cons_zero, List.set_cons_succ]
    refine wpAnyH_take (i := 17) (oi := ⟨some 14, _, _, _, _, _⟩) (v := ?va18) rfl (by kernel_rfl) (by kernel_rfl) (by kernel_rfl) (fun _ _ _ h => h) (Or.inl ⟨by rfl, ?hya18⟩) (by assumption) ?resta18
    case hya18 => (intro w hSw; (try dsimp only at hSw); go_simp <;> with_reducible rfl)
    try simp only [Act.put, List.setIfInBounds_toArray, List.set_cons_zero, List.set_cons_succ]
    refine wpAnyH_done (by kernel_rfl) ?_ _
    go_wp2_with fail
    go_ret
    exact ⟨rfl, hFin.out _ (by repeat (first | assumption | exact Below.refl _ _ | (refine bStep ?_ (by assumption)) | (with_reducible refine bAlc ?_ _) | (with_reducible refine bDrw ?_)))⟩
  by_cases h4 : 4 < x.n
  · have hE : lchk x m = 3 := by unfold lchk; rw [if_neg (by omega), if_pos (by omega)]
    rw [hE]; clear hE hOf0 hne hpo
    go_enter Tryz.func49, Tryz.ntmps49
    go_upto_region 3 with (fail)
    generalize w.alloc (.cells #[.int .i64 x.n, .int .i64 x.a, .int .i64 x.b, .int .i64 x.c, .int .i64 x.d] 41) = W1 at *
    have c0 := q0.cell 0
    simp only [List.getElem?_toArray, List.getElem?_cons_zero] at c0
    have hAll : Hid (∀ w', Below W1.heap.size W1 w' → w'.cell? ⟨w.heap.size, 0, none⟩ = some (.int .i64 x.n) ∧ Below W1.heap.size W1 w') := Lib.hid fun w' h => ⟨cell_later h c0, h⟩
    have hFin : Hid (∀ w', Below W1.heap.size W1 w' → Below w.heap.size w w') := Lib.hid fun w' h => bStep hb0 h
    clear c0 q0 hb0
    refine wp_region_held_drew (S := (fun w' => w'.cell? ⟨w.heap.size, 0, none⟩ = some (.int .i64 x.n) ∧ Below W1.heap.size W1 w')) (by kernel_rfl) (hAll.out _ (bDrw (Below.refl _ _))) (fun hHeld => ?_)
    refine wpAnyH_take (i := 0) (oi := ⟨some 15, _, _, _, _, _⟩) (v := ?vb1) rfl (by kernel_rfl) (by kernel_rfl) (by kernel_rfl) (fun _ _ _ h => h) (Or.inl ⟨by rfl, ?hyb1⟩) (by assumption) ?restb1
    case hyb1 => (intro w hSw; (try dsimp only at hSw); go_simp <;> with_reducible rfl)
    try simp only [Act.put, List.setIfInBounds_toArray, List.set_cons_zero, List.set_cons_succ]
    refine wpAnyH_take (i := 1) (oi := ⟨some 16, _, _, _, _, _⟩) (v := ?vb2) rfl (by kernel_rfl) (by kernel_rfl) (by kernel_rfl) (fun _ _ _ h => h) (Or.inl ⟨by rfl, ?hyb2⟩) (by assumption) ?restb2
    case hyb2 => (intro w hSw; (try dsimp only at hSw); go_simp <;> with_reducible rfl)
    try simp only [Act.put, List.setIfInBounds_toArray, List.set_cons_zero, List.set_cons_succ]
    refine wpAnyH_take (i := 2) (oi := ⟨some 17, _, _, _, _, _⟩) (v := ?vb3) rfl (by kernel_rfl) (by kernel_rfl) (by kernel_rfl) (fun _ _ _ h => h) (Or.inl ⟨by rfl, ?hyb3⟩) (by assumption) ?restb3
    case hyb3 => (intro w hSw; (try dsimp only at hSw); go_simp <;> with_reducible rfl)
    try simp only [Act.put, List.setIfInBounds_toArray, List.set_cons_zero, List.set_cons_succ]
    refine wpAnyH_take (i := 3) (oi := ⟨some 18, _, _, _, _, _⟩) (v := ?vb4) rfl (by kernel_rfl) (by kernel_rfl) (by kernel_rfl) (fun _ _ _ h => h) (Or.inl ⟨by rfl, ?hyb4⟩) (by assumption) ?restb4
    case hyb4 => (intro w hSw; (try dsimp only at hSw); go_simp <;> with_reducible rfl)
    try simp only [Act.put, List.setIfInBounds_toArray, List.set_cons_zero, List.set_cons_succ]
    refine wpAnyH_take (i := 4) (oi := ⟨some 19, _, _, _, _, _⟩) (v := ?vb5) rfl (by kernel_rfl) (by kernel_rfl) (by kernel_rfl) (fun _ _ _ h => h) (Or.inl ⟨by rfl, ?hyb5⟩) (by assumption) ?restb5
    case hyb5 => (intro w hSw; (try dsimp only at hSw); go_simp <;> with_reducible rfl)
    try simp only [Act.put, List.setIfInBounds_toArray, List.set_cons_zero, List.set_cons_succ]
    refine wpAnyH_take (i := 5) (oi := ⟨some 20, _, _, _, _, _⟩) (v := ?vb6) rfl (by kernel_rfl) (by kernel_rfl) (by kernel_rfl) (fun _ _ _ h => h) (Or.inl ⟨by rfl, ?hyb6⟩) (by assumption) ?restb6
    case hyb6 => (intro w hSw; (try dsimp only at hSw); go_simp <;> with_reducible rfl)
    try simp only [Act.put, List.setIfInBounds_toArray, List.set_cons_zero, List.set_cons_succ]
    refine wpAnyH_take (i := 6) (oi := ⟨some 21, _, _, _, _, _⟩) (v := ?vb7) rfl (by kernel_rfl) (by kernel_rfl) (by kernel_rfl) (fun _ _ _ h => h) (Or.inl ⟨by rfl, ?hyb7⟩) (by assumption) ?restb7
    case hyb7 => (intro w hSw; (try dsimp only at hSw); go_simp <;> with_reducible rfl)
    try simp only [Act.put, List.setIfInBounds_toArray, List.set_cons_zero, List.set_cons_succ]
    refine wpAnyH_take (i := 7) (oi := ⟨some 22, _, _, _, _, _⟩) (v := ?vb8) rfl (by kernel_rfl) (by kernel_rfl) (by kernel_rfl) (fun _ _ _ h => h) (Or.inl ⟨by rfl, ?hyb8⟩) (by assumption) ?restb8
    case hyb8 => (intro w hSw; (try dsimp only at hSw); go_simp <;> with_reducible rfl)
    try simp only [Act.put, List.setIfInBounds_toArray, List.set_cons_zero, List.set_cons_succ]
    refine wpAnyH_take (i := 8) (oi := ⟨some 23, _, _, _, _, _⟩) (v := ?vb9) rfl (by kernel_rfl) (by kernel_rfl) (by kernel_rfl) (fun _ _ _ h => h) (Or.inl ⟨by rfl, ?hyb9⟩) (by assumption) ?restb9
    case hyb9 => (intro w hSw; (try dsimp only at hSw); go_simp <;> with_reducible rfl)
    try simp only [Act.put, List.setIfInBounds_toArray, List.set_cons_zero, List.set_cons_succ]
    refine wpAnyH_take (i := 9) (oi := ⟨some 24, _, _, _, _, _⟩) (v := undef) rfl (by kernel_rfl) (by kernel_rfl) (by kernel_rfl) (fun _ _ _ h => h) (Or.inr ⟨by rfl, rfl⟩) (by assumption) ?_
    try simp only [Act.put, List.setIfInBounds_toArray, List.set_cons_zero, List.set_cons_succ]
    refine wpAnyH_take (i := 10) (oi := ⟨some 25, _, _, _, _, _⟩) (v := undef) rfl (by kernel_rfl) (by kernel_rfl) (by kernel_rfl) (fun _ _ _ h => h) (Or.inr ⟨by rfl, rfl⟩) (by assumption) ?_
    try simp only [Act.put, List.setIfInBounds_toArray, List.set_cons_zero, List.set_cons_succ]
    refine wpAnyH_take (i := 11) (oi := ⟨some 26, _, _, _, _, _⟩) (v := undef) rfl (by kernel_rfl) (by kernel_rfl) (by kernel_rfl) (fun _ _ _ h => h) (Or.inr ⟨by rfl, rfl⟩) (by assumption) ?_
    try simp only [Act.put, List.setIfInBounds_toArray, List.set_cons_zero, List.set_cons_succ]
    refine wpAnyH_take (i := 12) (oi := ⟨some 27, _, _, _, _, _⟩) (v := undef) rfl (by kernel_rfl) (by kernel_rfl) (by kernel_rfl) (fun _ _ _ h => h) (Or.inr ⟨by rfl, rfl⟩) (by assumption) ?_
    try simp only [Act.put, List.setIfInBounds_toArray, List.set_cons_zero, List.set_cons_succ]
    refine wpAnyH_take (i := 13) (oi := ⟨some 28, _, _, _, _, _⟩) (v := undef) rfl (by kernel_rfl) (by kernel_rfl) (by kernel_rfl) (fun _ _ _ h => h) (Or.inr ⟨by rfl, rfl⟩) (by assumption) ?_
    try simp only [Act.put, List.setIfInBounds_toArray, List.set_cons_zero, List.set_cons_succ]
    refine wpAnyH_take (i := 14) (oi := ⟨some 29, _, _, _, _, _⟩) (v := undef) rfl (by kernel_rfl) (by kernel_rfl) (by kernel_rfl) (fun _ _ _ h => h) (Or.inr ⟨by rfl, rfl⟩) (by assumption) ?_
    try simp only [Act.put, List.setIfInBounds_toArray, List.set_cons_zero, List.set_cons_succ]
    refine wpAnyH_take (i := 15) (oi := ⟨some 30, _, _, _, _, _⟩) (v := undef) rfl (by kernel_rfl) (by kernel_rfl) (by kernel_rfl) (fun _ _ _ h => h) (Or.inr ⟨by rfl, rfl⟩) (by assumption) ?_
    try simp only [Act.put, List.setIfInBounds_toArray, List.set_cons_zero, List.set_cons_succ]
    refine wpAnyH_take (i := 16) (oi := ⟨some 31, _, _, _, _, _⟩) (v := ?vb17) rfl (by kernel_rfl) (by kernel_rfl) (by kernel_rfl) (fun _ _ _ h => h) (Or.inl ⟨by rfl, ?hyb17⟩) (by assumption) ?restb17
    case hyb17 => (intro w hSw; (try dsimp only at hSw); go_simp <;> with_reducible rfl)
    try simp only [Act.put, List.setIfInBounds_toArray, List.set_cons_zero, List.set_cons_succ]
    refine wpAnyH_take (i := 17) (oi := ⟨some 14, _, _, _, _, _⟩) (v := ?vb18) rfl (by kernel_rfl) (by kernel_rfl) (by kernel_rfl) (fun _ _ _ h => h) (Or.inl ⟨by rfl, ?hyb18⟩) (by assumption) ?restb18
    case hyb18 => (intro w hSw; (try dsimp only at hSw); go_simp <;> with_reducible rfl)
    try simp only [Act.put, List.setIfInBounds_toArray, List.set_cons_zero, List.set_cons_succ]
    refine wpAnyH_done (by kernel_rfl) ?_ _
    go_wp2_with fail
    go_ret
    exact ⟨rfl, hFin.out _ (by repeat (first | assumption | exact Below.refl _ _ | (refine bStep ?_ (by assumption)) | (with_reducible refine bAlc ?_ _) | (with_reducible refine bDrw ?_)))⟩
  have hE : lchk x m = if padB x = false then 3 else if inB x m = false then 14 else 0 := by unfold lchk; rw [if_neg (by omega), if_neg (by omega)]
  rw [hE]; clear hE
  obtain ⟨n, hn⟩ := Int.eq_ofNat_of_zero_le (show 0 ≤ x.n by omega)
  have hI := Lib.hid (inB_iff x m)
  have hpo' := Lib.hid (hpo.out (by omega) (by omega))
  have hne' := hne.out (by omega) (by omega)
  have hOf1 := Lib.hid (fun (W : World) h => hOf0.out W n hn (by omega) h)
  clear hpo hne hOf0
  have hN := Lib.hid hn
  have hpd : decide (Lk.of x.l = x) = padB x := by
    cases h : padB x
    · exact decide_eq_false fun e => by have := hpo'.out.1 e; rw [h] at this; cases this
    · exact decide_eq_true (hpo'.out.2 h)
  rw [hpd] at hne'
  clear hpo'
  replace hpd := Lib.hid hpd
  generalize padB x = pb at *
  generalize inB x m = q at hI ⊢
  generalize hs : x.s = s at *
  clear hs
  generalize Lk.of x.l = y at *
  unfold Lk.v at hOf1 hne'
  generalize hxn : x.n = xn at *
  clear hxn
  subst hn
  go_enter Tryz.func49, Tryz.ntmps49
  go_upto_region 3 with (fail)
  generalize w.alloc (.cells #[.int .i64 n, .int .i64 x.a, .int .i64 x.b, .int .i64 x.c, .int .i64 x.d] 41) = W1 at *
  have c0 := q0.cell 0
  have c1 := q0.cell 1
  have c2 := q0.cell 2
  have c3 := q0.cell 3
  have c4 := q0.cell 4
  simp only [List.getElem?_toArray, List.getElem?_cons_zero, List.getElem?_cons_succ] at c0 c1 c2 c3 c4
  have hn0 : (0 : Int) ≤ n := by omega
  have hn4 : (n : Int) ≤ 4 := by omega
  have hAll : Hid (∀ w', Below W1.heap.size W1 w' → w'.cell? ⟨w.heap.size, 0, none⟩ = some (.int .i64 n) ∧ w'.cell? ⟨w.heap.size, 1, none⟩ = some (.int .i64 x.a) ∧ w'.cell? ⟨w.heap.size, 2, none⟩ = some (.int .i64 x.b) ∧ w'.cell? ⟨w.heap.size, 3, none⟩ = some (.int .i64 x.c) ∧ w'.cell? ⟨w.heap.size, 4, none⟩ = some (.int .i64 x.d) ∧ Below W1.heap.size W1 w') :=
    Lib.hid fun w' h => ⟨cell_later h c0, cell_later h c1, cell_later h c2, cell_later h c3, cell_later h c4, h⟩
  have hOf := Lib.hid (fun (W : World) (h : Below W1.heap.size W1 W) => hOf1.out W (q0.step h))
  clear hOf1 c0 c1 c2 c3 c4
  go_cut [14] (fun s14 wx => s14 = .bool (!pb) ∧ Below W1.heap.size W1 wx)
  case first =>
    refine wp_region_held_drew (S := (fun w' => w'.cell? ⟨w.heap.size, 0, none⟩ = some (.int .i64 n) ∧ w'.cell? ⟨w.heap.size, 1, none⟩ = some (.int .i64 x.a) ∧ w'.cell? ⟨w.heap.size, 2, none⟩ = some (.int .i64 x.b) ∧ w'.cell? ⟨w.heap.size, 3, none⟩ = some (.int .i64 x.c) ∧ w'.cell? ⟨w.heap.size, 4, none⟩ = some (.int .i64 x.d) ∧ Below W1.heap.size W1 w')) (by kernel_rfl) (hAll.out _ (bDrw (Below.refl _ _))) (fun hHeld => ?_)
    refine wpAnyH_take (i := 0) (oi := ⟨some 15, _, _, _, _, _⟩) (v := ?vc1) rfl (by kernel_rfl) (by kernel_rfl) (by kernel_rfl) (fun _ _ _ h => h) (Or.inl ⟨by rfl, ?hyc1⟩) (by assumption) ?restc1
    case hyc1 => (intro w hSw; (try dsimp only at hSw); go_simp <;> with_reducible rfl)
    try simp only [Act.put, List.setIfInBounds_toArray, List.set_cons_zero, List.set_cons_succ]
    refine wpAnyH_take (i := 1) (oi := ⟨some 16, _, _, _, _, _⟩) (v := ?vc2) rfl (by kernel_rfl) (by kernel_rfl) (by kernel_rfl) (fun _ _ _ h => h) (Or.inl ⟨by rfl, ?hyc2⟩) (by assumption) ?restc2
    case hyc2 => (intro w hSw; (try dsimp only at hSw); go_simp <;> with_reducible rfl)
    try simp only [Act.put, List.setIfInBounds_toArray, List.set_cons_zero, List.set_cons_succ]
    refine wpAnyH_take (i := 2) (oi := ⟨some 17, _, _, _, _, _⟩) (v := ?vc3) rfl (by kernel_rfl) (by kernel_rfl) (by kernel_rfl) (fun _ _ _ h => h) (Or.inl ⟨by rfl, ?hyc3⟩) (by assumption) ?restc3
    case hyc3 => (intro w hSw; (try dsimp only at hSw); go_simp <;> with_reducible rfl)
    try simp only [Act.put, List.setIfInBounds_toArray, List.set_cons_zero, List.set_cons_succ]
    refine wpAnyH_take (i := 3) (oi := ⟨some 18, _, _, _, _, _⟩) (v := ?vc4) rfl (by kernel_rfl) (by kernel_rfl) (by kernel_rfl) (fun _ _ _ h => h) (Or.inl ⟨by rfl, ?hyc4⟩) (by assumption) ?restc4
    case hyc4 => (intro w hSw; (try dsimp only at hSw); go_simp <;> with_reducible rfl)
    try simp only [Act.put, List.setIfInBounds_toArray, List.set_cons_zero, List.set_cons_succ]
    refine wpAnyH_take (i := 4) (oi := ⟨some 19, _, _, _, _, _⟩) (v := ?vc5) rfl (by kernel_rfl) (by kernel_rfl) (by kernel_rfl) (fun _ _ _ h => h) (Or.inl ⟨by rfl, ?hyc5⟩) (by assumption) ?restc5
    case hyc5 => (intro w hSw; (try dsimp only at hSw); go_simp <;> with_reducible rfl)
    try simp only [Act.put, List.setIfInBounds_toArray, List.set_cons_zero, List.set_cons_succ]
    refine wpAnyH_take (i := 5) (oi := ⟨some 20, _, _, _, _, _⟩) (v := ?vc6) rfl (by kernel_rfl) (by kernel_rfl) (by kernel_rfl) (fun _ _ _ h => h) (Or.inl ⟨by rfl, ?hyc6⟩) (by assumption) ?restc6
    case hyc6 => (intro w hSw; (try dsimp only at hSw); go_simp <;> with_reducible rfl)
    try simp only [Act.put, List.setIfInBounds_toArray, List.set_cons_zero, List.set_cons_succ]
    refine wpAnyH_take (i := 6) (oi := ⟨some 21, _, _, _, _, _⟩) (v := ?vc7) rfl (by kernel_rfl) (by kernel_rfl) (by kernel_rfl) (fun _ _ _ h => h) (Or.inl ⟨by rfl, ?hyc7⟩) (by assumption) ?restc7
    case hyc7 => (intro w hSw; (try dsimp only at hSw); go_simp <;> with_reducible rfl)
    try simp only [Act.put, List.setIfInBounds_toArray, List.set_cons_zero, List.set_cons_succ]
    refine wpAnyH_take (i := 7) (oi := ⟨some 22, _, _, _, _, _⟩) (v := ?vc8) rfl (by kernel_rfl) (by kernel_rfl) (by kernel_rfl) (fun _ _ _ h => h) (Or.inl ⟨by rfl, ?hyc8⟩) (by assumption) ?restc8
    case hyc8 => (intro w hSw; (try dsimp only at hSw); go_simp <;> with_reducible rfl)
    try simp only [Act.put, List.setIfInBounds_toArray, List.set_cons_zero, List.set_cons_succ]
    refine wpAnyH_take (i := 8) (oi := ⟨some 23, _, _, _, _, _⟩) (v := ?vc9) rfl (by kernel_rfl) (by kernel_rfl) (by kernel_rfl) (fun _ _ _ h => h) (Or.inl ⟨by rfl, ?hyc9⟩) (by assumption) ?restc9
    case hyc9 => (intro w hSw; (try dsimp only at hSw); go_simp <;> with_reducible rfl)
    try simp only [Act.put, List.setIfInBounds_toArray, List.set_cons_zero, List.set_cons_succ]
    refine wpAnyH_take (i := 9) (oi := ⟨some 24, _, _, _, _, _⟩) (v := ?vc10) rfl (by kernel_rfl) (by kernel_rfl) (by kernel_rfl) (fun _ _ _ h => h) (Or.inl ⟨by rfl, ?hyc10⟩) (by assumption) ?restc10
    case hyc10 => (intro w hSw; (try dsimp only at hSw); go_simp <;> with_reducible rfl)
    try simp only [Act.put, List.setIfInBounds_toArray, List.set_cons_zero, List.set_cons_succ]
    refine wpAnyH_take (i := 10) (oi := ⟨some 25, _, _, _, _, _⟩) (v := ?vc11) rfl (by kernel_rfl) (by kernel_rfl) (by kernel_rfl) (fun _ _ _ h => h) (Or.inl ⟨by rfl, ?hyc11⟩) (by assumption) ?restc11
    case hyc11 => (intro w hSw; (try dsimp only at hSw); go_simp <;> with_reducible rfl)
    try simp only [Act.put, List.setIfInBounds_toArray, List.set_cons_zero, List.set_cons_succ]
    refine wpAnyH_take (i := 11) (oi := ⟨some 26, _, _, _, _, _⟩) (v := ?vc12) rfl (by kernel_rfl) (by kernel_rfl) (by kernel_rfl) (fun _ _ _ h => h) (Or.inl ⟨by rfl, ?hyc12⟩) (by assumption) ?restc12
    case hyc12 => (intro w hSw; (try dsimp only at hSw); go_simp <;> with_reducible rfl)
    try simp only [Act.put, List.setIfInBounds_toArray, List.set_cons_zero, List.set_cons_succ]
    refine wpAnyH_take (i := 12) (oi := ⟨some 27, _, _, _, _, _⟩) (v := ?vc13) rfl (by kernel_rfl) (by kernel_rfl) (by kernel_rfl) (fun _ _ _ h => h) (Or.inl ⟨by rfl, ?hyc13⟩) (by assumption) ?restc13
    case hyc13 => (intro w hSw; (try dsimp only at hSw); go_simp <;> with_reducible rfl)
    try simp only [Act.put, List.setIfInBounds_toArray, List.set_cons_zero, List.set_cons_succ]
    refine wpAnyH_take (i := 14) (oi := ⟨some 29, _, _, _, _, _⟩) (v := ?vc14) rfl (by kernel_rfl) (by kernel_rfl) (by kernel_rfl) (fun _ _ _ h => h) (Or.inl ⟨by rfl, ?hyc14⟩) (by assumption) ?restc14
    case hyc14 => (intro w hSw; (try dsimp only at hSw); go_simp <;> with_reducible rfl)
    try simp only [Act.put, List.setIfInBounds_toArray, List.set_cons_zero, List.set_cons_succ]
    refine wpAnyH_ready (rs := [13]) (by kernel_rfl) (by simp) ?_
    refine AllReadyH.cons (o := ⟨some 28, _, _, _, _, _⟩) rfl (fun K hK => ?_) ?_
    · go_simp
      go_at_call 97
      refine (hOf.out _ (by repeat (first | assumption | exact Below.refl _ _ | (refine bStep ?_ (by assumption)) | (with_reducible refine bAlc ?_ _) | (with_reducible refine bDrw ?_)))).mono ?_
      rintro e w1 ⟨rfl, hb1⟩
      go_wp2_with fail
      refine hK.out _ _ ?_ (fun hHeld => ?_)
      · (refine hAll.out _ ?_; repeat (first | assumption | exact Below.refl _ _ | (refine bStep ?_ (by assumption)) | (with_reducible refine bAlc ?_ _) | (with_reducible refine bDrw ?_)))
      clear hK K
      try simp only [Act.put, List.setIfInBounds_toArray, List.set_cons_zero, List.set_cons_succ]
      refine wpAnyH_take (i := 15) (oi := ⟨some 30, _, _, _, _, _⟩) (v := ?vc15) rfl (by kernel_rfl) (by kernel_rfl) (by kernel_rfl) (fun _ _ _ h => h) (Or.inl ⟨by rfl, ?hyc15⟩) (by assumption) ?restc15
      case hyc15 => (intro w hSw; (try dsimp only at hSw); go_simp <;> with_reducible rfl)
      try simp only [Act.put, List.setIfInBounds_toArray, List.set_cons_zero, List.set_cons_succ]
      refine wpAnyH_take (i := 16) (oi := ⟨some 31, _, _, _, _, _⟩) (v := ?vc16) rfl (by kernel_rfl) (by kernel_rfl) (by kernel_rfl) (fun _ _ _ h => h) (Or.inl ⟨by rfl, ?hyc16⟩) (by assumption) ?restc16
      case hyc16 => (intro w hSw; (try dsimp only at hSw); go_simp <;> with_reducible rfl)
      try simp only [Act.put, List.setIfInBounds_toArray, List.set_cons_zero, List.set_cons_succ]
      refine wpAnyH_take (i := 17) (oi := ⟨some 14, _, _, _, _, _⟩) (v := ?vc17) rfl (by kernel_rfl) (by kernel_rfl) (by kernel_rfl) (fun _ _ _ h => h) (Or.inl ⟨by rfl, ?hyc17⟩) (by assumption) ?restc17
      case hyc17 => (intro w hSw; (try dsimp only at hSw); go_simp <;> with_reducible rfl)
      try simp only [Act.put, List.setIfInBounds_toArray, List.set_cons_zero, List.set_cons_succ]
      refine wpAnyH_done (by kernel_rfl) ?_ _
      go_wp2_with fail
      go_meet
      exact ⟨rfl, (by repeat (first | assumption | exact Below.refl _ _ | (refine bStep ?_ (by assumption)) | (with_reducible refine bAlc ?_ _) | (with_reducible refine bDrw ?_)))⟩
    exact AllReadyH.nil
  case rest =>
    obtain ⟨rfl, hbc⟩ := hcut
    have qc := q0.step hbc
    have hb := bStep hb0 hbc
    clear q0 hb0 hAll hOf hne' hbc
    cases pb
    · go_wp2_with fail
      go_ret
      exact ⟨rfl, hb⟩
    · have z0 := qc.cell 0
      simp only [List.getElem?_toArray, List.getElem?_cons_zero] at z0
      go_wp2_with fail
      go_loopg [37] n (fun k i wr => ∃ j : Nat, wr = wc ∧ i = .int .i64 j ∧ j + k = n ∧ ∀ i : Nat, i < j → 0 ≤ s i ∧ s i < m)
      case atStart => exact ⟨0, rfl, rfl, by omega, by intros; omega⟩
      case round =>
        obtain ⟨j, rfl, rfl, hj3, hg⟩ := hrel
        replace hg := Lib.hid hg
        replace hj3 := Lib.hid hj3
        by_cases hj : j < n
        · have hj4 : j < 4 := by omega
          have hc : wr.cell? ⟨w.heap.size, 1 + j, none⟩ = some (.int .i64 (s j)) := by rw [qc.cell]; exact hC.out j hj4
          by_cases hz : s j < 0
          · have hqF : q = false := by
              cases q
              · rfl
              · exact absurd (hI.out.1 rfl j hj4 (by omega)).1 (by omega)
            subst hqF
            go_wp2_with fail
            go_ret
            exact ⟨rfl, hb⟩
          · by_cases hz2 : s j < m
            · have hG := Lib.hid (show ∀ i : Nat, i < j + 1 → 0 ≤ s i ∧ s i < m by
                intro i h1
                by_cases e : i = j
                · rw [e]; exact ⟨by omega, hz2⟩
                · exact hg.out i (by omega))
              go_wp2_with fail
              go_roundg (n - (j + 1))
              case measure => have := hj3.out; omega
              case rel => exact ⟨j + 1, rfl, by go_num, by have := hj3.out; omega, hG.out⟩
            · have hqF : q = false := by
                cases q
                · rfl
                · exact absurd (hI.out.1 rfl j hj4 (by omega)).2 hz2
              subst hqF
              go_wp2_with fail
              go_ret
              exact ⟨rfl, hb⟩
        · have hqT : q = true := hI.out.2 fun i h4 hn => hg.out i (by omega)
          subst hqT
          go_wp2_with fail
          go_ret
          exact ⟨rfl, hb⟩
end Go.Proofs.YtnnkfgekiaaehaaGreat

/- follow.Has and follow.Ends. -/
namespace Go.Proofs.YtnnkfgekiaaehaaGreat
open Go.ChangeShapes Go.WideShapes Go.ChangeAt Go.RowKit
set_option linter.unusedVariables false
def RetH (g : Gr) (s : Int) (x : Lk) (w : World) (e : Ending) (w' : World) : Prop := ∃ b : Bool, e = .returned (.tuple #[.bool b, .int .i64 0]) ∧ (b = true ↔ FO g.prods g.k.toNat g.start s x) ∧ Below w.heap.size w w'
set_option maxRecDepth 100000 in
set_option maxHeartbeats 4000000 in
theorem has35_any (g : Gr) (a : GA) (s : Int) (x : Lk) (w : World) (hg : GrAt w w.heap.size g a) (hok : gchk g = 0) (hs : ntB g s = true) (hx : x.wf) (hr : lchk x g.toks.length = 0) : Calls Tryz.prog 13 #[gval g a, .int .i64 s, x.v] w (RetH g s x w) := by
  obtain ⟨ta, tc, na, nc, pa, pc⟩ := a
  have hb := nt_bd hs
  have hk := gok_of hok
  have hn8 := hk.nm
  have hG0 := (GB.start hg).alloc (.cells x.cells 41)
  have q5 : Blk ((w.alloc (.cells (gcells g ⟨ta, tc, na, nc, pa, pc⟩) 25)).alloc (.cells x.cells 41)) (w.heap.size + 1) 41 x.cells := Blk.newAt _ _ _ _ (by simp)
  have hN := Lib.hid (fun (W : World) (h : GrAt W W.heap.size g ⟨ta, tc, na, nc, pa, pc⟩) => nonterm24_any g ⟨ta, tc, na, nc, pa, pc⟩ s W h (small_of hok) (by omega) (by omega))
  rw [(nonE_ok hok hs).1, (nonE_ok hok hs).2] at hN
  have hA := Lib.hid (fun (W : World) (h : GrAt W W.heap.size g ⟨ta, tc, na, nc, pa, pc⟩) => all_any g ⟨ta, tc, na, nc, pa, pc⟩ g.k.toNat hk W h)
  have hCh := Lib.hid (fun (W : World) => lcheck60_any x g.toks.length W hx)
  rw [hr] at hCh
  have hSet := Lib.hid (fun (ss fs : List (List Lk)) h1 h2 h3 h4 h5 h6 y => retA_set hok hs (ss := ss) (fs := fs) h1 h2 h3 h4 h5 h6 y)
  have hP := Lib.hid (fun (b : Bool) (w' : World) (h1 : b = true ↔ FO g.prods g.k.toNat g.start s x) (h3 : Below w.heap.size w w') => (show RetH g s x w (.returned (.tuple #[.bool b, .int .i64 0])) w' from ⟨b, rfl, h1, h3⟩))
  have hxw : lookKey.ok x := hx
  obtain ⟨ix, hix⟩ := Int.eq_ofNat_of_zero_le (show 0 ≤ s - 16 by omega)
  have hixn : (s - 16).toNat = ix := by omega
  have hixi : ix < g.names.length := by omega
  have hzx : (0 : Int) ≤ ix := by omega
  have hzy : (ix : Int) < g.names.length := by omega
  have hn9 : g.names.length ≤ 8 := hn8.2
  rw [hix] at hN
  rw [hixn] at hSet
  clear hg hok hs hk hb hn8 hr
  replace hxw := Lib.hid hxw
  replace hix := Lib.hid hix
  replace hixn := Lib.hid hixn
  unfold gval at *
  unfold gcells at *
  unfold Lk.cells at *
  unfold Lk.v at *
  dsimp only at *
  go_enter Tryz.func13, Tryz.ntmps13
  go_upto_region 1 with (fail)
  generalize (w.alloc (.cells #[.int .i64 g.k, .slice ta g.toks.length tc, .string g.sep, .slice na g.names.length nc, .int .i64 g.start, .slice pa g.prods.length pc] 25)).alloc (.cells #[.int .i64 x.n, .int .i64 x.a, .int .i64 x.b, .int .i64 x.c, .int .i64 x.d] 41) = W0 at *
  obtain ⟨c0, c1, c2, c3, c4, c5⟩ := hG0.cells
  dsimp only at c1 c3 c5
  go_upto_region 4 with (go_at_call 48; refine (hN.out _ ((hG0.2.1).mono hG0.2.2.size)).mono ?_; rintro e w1 ⟨rfl, hb1⟩)
  have hG1 := hG0.step hb1
  have q6 := q5.step hb1
  clear hG0 hb1 c0 c1 c2 c3 c4 c5 q5
  obtain ⟨c0, c1, c2, c3, c4, c5⟩ := hG1.cells
  dsimp only at c1 c3 c5
  have d0 := q6.cell 0
  have d1 := q6.cell 1
  have d2 := q6.cell 2
  have d3 := q6.cell 3
  have d4 := q6.cell 4
  simp only [List.getElem?_toArray, List.getElem?_cons_zero, List.getElem?_cons_succ] at d0 d1 d2 d3 d4
  go_upto_region 7 with (go_at_call 49; refine (hCh.out _).mono ?_; rintro e w2 ⟨rfl, hb2⟩)
  have hG2 := hG1.step hb2
  have q7 := q6.step hb2
  clear hG1 hb2 c0 c1 c2 c3 c4 c5 d0 d1 d2 d3 d4 q6
  obtain ⟨c0, c1, c2, c3, c4, c5⟩ := hG2.cells
  dsimp only at c1 c3 c5
  go_upto_region 8 with (go_at_call 34; refine (hA.out _ ((hG2.2.1).mono hG2.2.2.size)).mono ?_; rintro e w3 ⟨bo, fo, ss, fs, rfl, hS1, hS2, k1, k2, k3, k4, k5, k6, k7, k8, hb3⟩)
  have hG3 := hG2.step hb3
  have q8 := q7.step hb3
  obtain ⟨mb, hmb, z0, hM⟩ := hS2.at0 ix hixi
  have hmem := hSet.out ss fs k1 k2 k3 k4 k5 k6
  have hbW := Lib.hid hG3.2.2
  clear hS1 hS2 k1 k2 k3 k4 k5 k6 k7 k8 hb3 hG2 c0 c1 c2 c3 c4 c5 hSet q7 hG3
  generalize fs.getD ix [] = S at *
  have hlk : ∀ W', (W'.heap[mb]? = w3.heap[mb]?) → (Instr.lookup 69 (.map (some mb)) (.agg #[.int .i64 x.n, .int .i64 x.a, .int .i64 x.b, .int .i64 x.c, .int .i64 x.d]) false).run Tryz.prog W' = .ok (.bool (decide (x ∈ S))) W' := fun W' h => by
    have h2 : MapK lookKey W' mb S := by
      obtain ⟨es, clock, hq, r⟩ := hM
      exact ⟨es, clock, h.trans hq, r⟩
    exact h2.look under67 x hxw.out
  have hl1 := fun n : Nat => hlk (w3.drewN n) rfl
  have hfin : Hid (decide (x ∈ S) = true ↔ FO g.prods g.k.toNat g.start s x) := Lib.hid (by rw [decide_eq_true_iff]; exact hmem x)
  have d0 := q8.cell 0
  have d1 := q8.cell 1
  have d2 := q8.cell 2
  have d3 := q8.cell 3
  have d4 := q8.cell 4
  simp only [List.getElem?_toArray, List.getElem?_cons_zero, List.getElem?_cons_succ] at d0 d1 d2 d3 d4
  replace hmem := Lib.hid hmem
  replace hM := Lib.hid hM
  clear hlk
  generalize decide (x ∈ S) = R at *
  go_quiet (fail)
  go_wp2_with fail
  go_ret2
  exact hP.out _ _ hfin.out (bDrwN hbW.out _)
end Go.Proofs.YtnnkfgekiaaehaaGreat

/- The walk of FollowForms. -/
namespace Go.Proofs.YtnnkfgekiaaehaaGreat
open Go.ChangeShapes Go.WideShapes Go.ChangeAt Go.RowKit
set_option linter.unusedVariables false
theorem rd_take {W : World} {B : Nat} {A : Option Addr} {k : Nat} {l : List Int} (h : Rd1 W B A k (ints l)) (t : Nat) (ht : t ≤ k) : Rd1 W B A t (ints (l.take t)) := by
  have hl : l.length = k := by have := h.1; simpa [ints] using this
  refine ⟨by simp [ints]; omega, ?_⟩
  rcases h.2 with h0 | ⟨b, off, rfl, hb, hc⟩
  · left; omega
  · refine .inr ⟨b, off, rfl, hb, fun i u hu => hc i u ?_⟩
    simp only [ints, List.map_take] at hu ⊢
    have := (List.getElem?_eq_some_iff.1 hu).1
    rw [List.getElem?_take_of_lt (by simp at this; omega)] at hu
    exact hu
theorem rd_drop {W : World} {B : Nat} {A : Option Addr} {k : Nat} {l : List Int} (h : Rd1 W B A k (ints l)) (t c : Nat) (ht : t ≤ k) (hc : k ≤ c) : Rd1 W B (if c = t then A else A.map (·.add t)) (k - t) (ints (l.drop t)) := by
  have := h.drop t c ht hc
  rwa [show (ints l).drop t = ints (l.drop t) by simp [ints]] at this
def RdF (W : World) (A : Option Addr) (m c : Nat) (l : List Int) : Prop := Rd1 W W.heap.size A m (ints l) ∧ m ≤ c ∧ c ≤ maxLen
theorem RdF.step {W W' : World} {A : Option Addr} {m c : Nat} {l : List Int} (h : RdF W A m c l) (hb : Below W.heap.size W W') : RdF W' A m c l := ⟨(h.1.below hb).mono hb.size, h.2⟩
theorem RdF.of_own {w : World} {base : Nat} {v : Value} {l : List Int} (h : Own1 w base 3 v (ints l)) : ∃ A c, v = .slice A l.length c ∧ RdF w A l.length c l := by
  obtain ⟨A, c, e, h1, h2, h3, _⟩ := h.reads
  rw [show (ints l).length = l.length by simp [ints]] at e h1 h2
  exact ⟨A, c, e, h1, h2, h3⟩
set_option maxRecDepth 100000 in
set_option maxHeartbeats 4000000 in
theorem forms_walk (g : Gr) (hok : gchk g = 0) (hfew : ∀ (l : List Int), (∀ s ∈ l, (0 ≤ s ∧ s < g.toks.length) ∨ (16 ≤ s ∧ s < 16 + (g.names.length : Int))) → ∀ L : List Lk, L.Nodup → (∀ y ∈ L, FL g.prods g.k.toNat l y) → L.length ≤ 600)
    (n : Int) (hGr : ∀ W, Calls Tryz.prog 11 #[.int .i64 n] W (fun e w' => ∃ a, e = .returned (gval g a) ∧ GrAt w' w'.heap.size g a ∧ Below W.heap.size W w')) (NA : Option Addr) (nl nk : Nat) (zs : List Int) (w : World)
    (hZ : Rd1 w w.heap.size NA nl (ints zs)) (hzw : ∀ z ∈ zs, (Lit.int .i64 z).wf = true) (hnl : nl ≤ maxLen) : Calls Tryz.prog 4 #[.int .i64 n, .slice NA nl nk] w fun e w' => e = .returned (.bool true) ∧ Below w.heap.size w w' := by
  have hk := gok_of hok
  have hAw := Lib.hid (fun (W : World) => awake_any W)
  have hOf := Lib.hid (fun (b : GA) (l : List Int) (RA : Option Addr) (rc : Nat) (W : World) (hg : GrAt W W.heap.size g b) (hl : ∀ s ∈ l, (0 ≤ s ∧ s < g.toks.length) ∨ (16 ≤ s ∧ s < 16 + (g.names.length : Int))) (hR : Rd1 W W.heap.size RA l.length (ints l)) (hln : l.length ≤ 100) => of15_ok g b l RA rc W hg hok hl hR hln (hfew l hl))
  have hHas := Lib.hid (fun (b : GA) (s : Int) (x : Lk) (W : World) (hg : GrAt W W.heap.size g b) (hs : ntB g s = true) (hx : x.right g.toks.length) (hF : FO g.prods g.k.toNat g.start s x) =>
    (has35_any g b s x W hg hok hs (right_wf hx) hx).mono (fun e w' (h : RetH g s x W e w') => (show e = .returned (.tuple #[.bool true, .int .i64 0]) ∧ Below W.heap.size W w' by obtain ⟨b, rfl, h1, h2⟩ := h; rw [h1.2 hF]; exact ⟨rfl, h2⟩)))
  have hPr := Lib.hid (fun (b : GA) (s : Int) (W : World) (hg : GrAt W W.heap.size g b) (hs : ntB g s = true) => rprods_ok g b s W hg hok hs)
  have hPs := Lib.hid (fun (s : Int) (hs : ntB g s = true) => prIdx_some hok hs)
  have hSt := Lib.hid (FormOk.start hk)
  have hNx := Lib.hid (fun (f : List Int) (s : Int) (p : Pr) (hf : FormOk g g.k.toNat f) (hs : f[atN f]? = some s) (hp : p ∈ g.prods) (hl : p.left = s) => FormOk.next hk hf hs hp hl)
  have hMod := Lib.hid (fun (a m : Int) (W : World) wa h1 h2 => mod_any a m W wa h1 h2)
  have hAt := Lib.hid (fun (i : Nat) (B : Nat) (W : World) h hi => at_any NA nl nk zs i B W h hnl hi)
  have hp24 := Lib.hid hk.pl
  have hn8 := Lib.hid hk.nm
  have ht8 := Lib.hid hk.tk
  have hprr := Lib.hid hk.pr
  have hzw' := Lib.hid hzw
  have hGr' := Lib.hid hGr
  unfold RetF15 at hOf
  unfold RetIE at hPr
  unfold gval gcells at *
  clear hok hfew hk hGr hzw
  go_enter Tryz.func4, Tryz.ntmps4
  go_upto_region 2 with (go_at_call 11; refine (hGr'.out _).mono ?_; clear hGr'; rintro e w1 ⟨⟨ta, tc, na, nc, pa, pc⟩, rfl, hg1, hb1⟩)
  have hG1 := GB.start hg1
  unfold gcells at hG1
  dsimp only at hG1
  have hbG : Below w.heap.size w (w1.alloc (.cells #[.int .i64 g.k, .slice ta g.toks.length tc, .string g.sep, .slice na g.names.length nc, .int .i64 g.start, .slice pa g.prods.length pc] 25)) := bAlc hb1 _
  generalize w1.alloc (.cells #[.int .i64 g.k, .slice ta g.toks.length tc, .string g.sep, .slice na g.names.length nc, .int .i64 g.start, .slice pa g.prods.length pc] 25) = W1 at *
  obtain ⟨c0, c1, c2, c3, c4, c5⟩ := hG1.cells
  dsimp only at c1 c3 c5
  go_upto_region 4 with (fail)
  have hF0 : RdF (W1.alloc (.cells #[.int .i64 g.start] 3)) (some ⟨W1.heap.size, 0, none⟩) 1 1 [g.start] :=
    ⟨⟨by simp [ints], .inr ⟨W1.heap.size, 0, rfl, by simp, fun i v hv => by
      have q := Blk.new W1 3 #[.int .i64 g.start]
      cases i with
      | zero => simp only [ints, List.map_cons, List.map_nil, List.getElem?_cons_zero, Option.some.injEq] at hv; subst hv; exact q.cell 0
      | succ i => simp [ints] at hv⟩⟩, by simp, by simp [maxLen]⟩
  have hG2 := hG1.alloc (.cells #[.int .i64 g.start] 3)
  have hb2 := bAlc hbG (.cells #[.int .i64 g.start] 3)
  clear c0 c1 c2 c3 c4 c5 hG1 hbG
  have hb1' := Lib.hid hb1
  clear hb1
  go_loopg [6, 7] 12 (fun gk s6 s7 wr => ∃ (form : List Int) (A : Option Addr) (m c i : Nat), s6 = .slice A m c ∧ s7 = .int .i64 i ∧ Hid (i + gk = 12) ∧ Hid (form.length = m) ∧ Hid (FormOk g g.k.toNat form) ∧ Hid (m ≤ 40) ∧ RdF wr A m c form ∧ GB w1 g ⟨ta, tc, na, nc, pa, pc⟩ wr ∧ Below w.heap.size w wr)
  case atStart => exact ⟨[g.start], _, 1, 1, 0, rfl, rfl, Lib.hid (by omega), Lib.hid rfl, hSt, Lib.hid (by omega), hF0, hG2, hb2⟩
  case round =>
    clear hF0 hG2 hb2 hSt hg1
    obtain ⟨form, A, m, c, i, rfl, rfl, hi, hfm, hfo, hf40, hF, hG, hb⟩ := hrel
    by_cases hin : i < 12
    · have hz0 : (i : Int) < 12 := by omega
      have hz1 : (0 : Int) ≤ i := by omega
      go_upto_region 7 with (fail)
      generalize wr = wE at *
      go_loopg [8] m (fun gk2 s8 wx => ∃ j : Nat, s8 = .int .i64 j ∧ Hid (j + gk2 = m) ∧ Hid (j ≤ atN form) ∧ wx = wE)
      case atStart => exact ⟨0, rfl, Lib.hid (by omega), Lib.hid (by omega), rfl⟩
      case round =>
        obtain ⟨j, rfl, hj, hja, hw⟩ := hrel
        subst hw
        have hcl := hF.2.1
        have hcm := hF.2.2
        unfold maxLen at hcm
        have hf4 : m ≤ 40 := hf40.out
        have hfm' := hfm.out
        by_cases hjl : j < m
        · have hs : form[j]? = some form[j] := List.getElem?_eq_getElem (show j < form.length by omega)
          have hsy := hfo.out.1 _ (List.getElem_mem (show j < form.length by omega))
          obtain ⟨b, off, hRA, hbt, x0⟩ := hF.1.get (show (ints form)[j]? = some (.int .i64 form[j]) by rw [ints, List.getElem?_map, hs]; rfl)
          subst hRA
          generalize form[j] = s at *
          have hz2 : (0 : Int) ≤ j := by omega
          have hz3 : (j : Int) < m := by omega
          replace hfm' := Lib.hid hfm'
          by_cases h16 : s < 16
          · have hja2 : Hid (j + 1 ≤ atN form) := Lib.hid (by
              rcases Nat.lt_or_eq_of_le hja.out with h | h
              · omega
              · have := atN_at form s (by rw [← h]; exact hs)
                omega)
            replace hs := Lib.hid hs
            replace hsy := Lib.hid hsy
            go_wp2_with fail
            go_roundg (m - (j + 1))
            case measure => have := hj.out; omega
            case rel => exact ⟨j + 1, by go_num, Lib.hid (by have := hj.out; omega), hja2, rfl⟩
          · have hat : Hid (atN form = j) := Lib.hid (by
              rcases Nat.lt_or_eq_of_le hja.out with h | h
              · exact absurd (atN_lt form j s h hs) h16
              · exact h.symm)
            have hnt : Hid (ntB g s = true) := Lib.hid (by unfold ntB; exact decide_eq_true (by have := ht8.out; omega))
            replace hs := Lib.hid hs
            replace hsy := Lib.hid hsy
            have hne : ((j : Int) == (m : Int)) = false := by simpa using (by omega : (j : Int) ≠ m)
            have hw1 : IntKind.i64.wrap ((j : Int) + 1) = (j : Int) + 1 := IntWalk.i64_in _ (by omega)
            go_upto_region 10 with (fail)
            obtain ⟨c0, c1, c2, c3, c4, c5⟩ := hG.cells
            dsimp only at c1 c3 c5
            have hAll : Hid (∀ X, Below wr.heap.size wr X → X.cell? ⟨w1.heap.size, 0, none⟩ = some (.int .i64 g.k) ∧ X.cell? ⟨w1.heap.size, 1, none⟩ = some (.slice ta g.toks.length tc) ∧ X.cell? ⟨w1.heap.size, 2, none⟩ = some (.string g.sep) ∧ X.cell? ⟨w1.heap.size, 3, none⟩ = some (.slice na g.names.length nc) ∧ X.cell? ⟨w1.heap.size, 4, none⟩ = some (.int .i64 g.start) ∧ X.cell? ⟨w1.heap.size, 5, none⟩ = some (.slice pa g.prods.length pc) ∧ Below wr.heap.size wr X) := Lib.hid fun X h => ⟨cell_later h c0, cell_later h c1, cell_later h c2, cell_later h c3, cell_later h c4, cell_later h c5, h⟩
            go_cut [9, 10] (fun s9 s10 wx => ∃ L A2 k2, s9 = .slice A2 L.length k2 ∧ s10 = .int .i64 0 ∧ Hid (∀ y, y ∈ L ↔ FL g.prods g.k.toNat (form.drop (j + 1)) y) ∧ SetAt wx g.toks.length A2 L.length k2 L ∧ Below wr.heap.size wr wx)
            case first =>
              have hdr : ∀ s ∈ form.drop (j + 1), (0 ≤ s ∧ s < g.toks.length) ∨ (16 ≤ s ∧ s < 16 + (g.names.length : Int)) := fun s hs => hfo.out.1 s (List.mem_of_mem_drop hs)
              have hrd := rd_drop hF.1 (j + 1) c (by omega) hcl
              have hzc : (j : Int) + 1 ≤ m := by omega
              have hzd : (0 : Int) ≤ (j : Int) + 1 := by omega
              by_cases hct : c = j + 1
              · have hkt : m = j + 1 := by omega
                subst hct
                subst hkt
                rw [if_pos rfl] at hrd
                simp only [Nat.sub_self] at hrd
                have hRd := hrd
                have hOfX := Lib.hid (fun X (h : Below wr.heap.size wr X) => hOf.out ⟨ta, tc, na, nc, pa, pc⟩ (form.drop (j + 1)) (some ⟨b, off, none⟩) 0 X (((hG.step h).2.1).mono (hG.step h).2.2.size) hdr ((by rw [List.length_drop, hfm.out]; rw [Nat.sub_self]; exact hRd : Rd1 wr wr.heap.size _ (form.drop (j + 1)).length (ints (form.drop (j + 1)))).below h |>.mono h.size) (by rw [List.length_drop, hfm.out]; omega))
                rw [show (form.drop (j + 1)).length = 0 by rw [List.length_drop, hfm.out]; omega] at hOfX
                clear hRd hrd
                go_region_held3 (fun X => X.cell? ⟨w1.heap.size, 0, none⟩ = some (.int .i64 g.k) ∧ X.cell? ⟨w1.heap.size, 1, none⟩ = some (.slice ta g.toks.length tc) ∧ X.cell? ⟨w1.heap.size, 2, none⟩ = some (.string g.sep) ∧ X.cell? ⟨w1.heap.size, 3, none⟩ = some (.slice na g.names.length nc) ∧ X.cell? ⟨w1.heap.size, 4, none⟩ = some (.int .i64 g.start) ∧ X.cell? ⟨w1.heap.size, 5, none⟩ = some (.slice pa g.prods.length pc) ∧ Below wr.heap.size wr X)
                  ((refine hAll.out _ ?_; repeat (first | assumption | exact Below.refl _ _ | (with_reducible refine bAlc ?_ _) | (with_reducible refine bDrw ?_))))
                  (first
                    | (go_at_call 12; refine (hOfX.out _ (by repeat (first | assumption | exact Below.refl _ _ | (refine bStep ?_ (by assumption)) | (with_reducible refine bAlc ?_ _) | (with_reducible refine bDrw ?_)))).mono ?_; clear hOfX; rintro e w2 ⟨L, A2, k2, rfl, hL, hA, hb2⟩; have hs2 : Below wr.heap.size wr w2 := bStep (by repeat (first | assumption | exact Below.refl _ _ | (refine bStep ?_ (by assumption)) | (with_reducible refine bAlc ?_ _) | (with_reducible refine bDrw ?_))) hb2))
                all_goals
                  replace hL := Lib.hid hL
                  go_wp2_with fail
                  go_meet
                  exact ⟨L, A2, k2, rfl, rfl, hL, hA, hs2⟩
              · rw [if_neg hct] at hrd
                simp only [Option.map_some, Addr.add_lit] at hrd
                have hRd := hrd
                have hOfX := Lib.hid (fun X (h : Below wr.heap.size wr X) => hOf.out ⟨ta, tc, na, nc, pa, pc⟩ (form.drop (j + 1)) (some ⟨b, off + (j + 1), none⟩) (c - (j + 1)) X (((hG.step h).2.1).mono (hG.step h).2.2.size) hdr ((by rw [List.length_drop, hfm.out]; exact hRd : Rd1 wr wr.heap.size _ (form.drop (j + 1)).length (ints (form.drop (j + 1)))).below h |>.mono h.size) (by rw [List.length_drop, hfm.out]; omega))
                rw [show (form.drop (j + 1)).length = m - (j + 1) by rw [List.length_drop, hfm.out]] at hOfX
                clear hRd hrd
                go_region_held3 (fun X => X.cell? ⟨w1.heap.size, 0, none⟩ = some (.int .i64 g.k) ∧ X.cell? ⟨w1.heap.size, 1, none⟩ = some (.slice ta g.toks.length tc) ∧ X.cell? ⟨w1.heap.size, 2, none⟩ = some (.string g.sep) ∧ X.cell? ⟨w1.heap.size, 3, none⟩ = some (.slice na g.names.length nc) ∧ X.cell? ⟨w1.heap.size, 4, none⟩ = some (.int .i64 g.start) ∧ X.cell? ⟨w1.heap.size, 5, none⟩ = some (.slice pa g.prods.length pc) ∧ Below wr.heap.size wr X)
                  ((refine hAll.out _ ?_; repeat (first | assumption | exact Below.refl _ _ | (with_reducible refine bAlc ?_ _) | (with_reducible refine bDrw ?_))))
                  (first
                    | (go_at_call 12; refine (hOfX.out _ (by repeat (first | assumption | exact Below.refl _ _ | (refine bStep ?_ (by assumption)) | (with_reducible refine bAlc ?_ _) | (with_reducible refine bDrw ?_)))).mono ?_; clear hOfX; rintro e w2 ⟨L, A2, k2, rfl, hL, hA, hb2⟩; have hs2 : Below wr.heap.size wr w2 := bStep (by repeat (first | assumption | exact Below.refl _ _ | (refine bStep ?_ (by assumption)) | (with_reducible refine bAlc ?_ _) | (with_reducible refine bDrw ?_))) hb2))
                all_goals
                  replace hL := Lib.hid hL
                  go_wp2_with fail
                  go_meet
                  exact ⟨L, A2, k2, rfl, rfl, hL, hA, hs2⟩
            case rest =>
              obtain ⟨L, A2, k2, rfl, rfl, hL, hA, hbc⟩ := hcut
              replace hG := hG.step hbc
              replace hF := hF.step hbc
              replace hb := bStep hb hbc
              replace x0 := cell_later hbc x0
              clear c0 c1 c2 c3 c4 c5 hAll hbt hbc
              have hFO : Hid (∀ y ∈ L, FO g.prods g.k.toNat g.start s y) := Lib.hid fun y hy => hfo.out.2 j s hs.out (by omega) y ((hL.out y).1 hy)
              go_upto_region 14 with (fail)
              generalize wc = wF at *
              generalize wr = wH at *
              go_loopg [11] L.length (fun gk3 s11 wx => ∃ q : Nat, s11 = .int .i64 q ∧ Hid (q + gk3 = L.length) ∧ Below wF.heap.size wF wx)
              case atStart => exact ⟨0, rfl, Lib.hid (by omega), Below.refl _ _⟩
              case round =>
                obtain ⟨q, rfl, hq, hbq⟩ := hrel
                replace hG := hG.step hbq
                replace hF := hF.step hbq
                replace hb := bStep hb hbq
                replace x0 := cell_later hbq x0
                replace hA := hA.step hbq
                obtain ⟨c0, c1, c2, c3, c4, c5⟩ := hG.cells
                dsimp only at c1 c3 c5
                by_cases hql : q < L.length
                · obtain ⟨lb, loff, hlA, hlb, l0, l1, l2, l3, l4⟩ := hA.rd.get (List.getElem?_eq_getElem hql)
                  subst hlA
                  have hxr := hA.right _ (List.getElem_mem hql)
                  have hxF := hFO.out _ (List.getElem_mem hql)
                  generalize L[q] = x at *
                  have hHX := Lib.hid (fun X (h : Below wr.heap.size wr X) => hHas.out ⟨ta, tc, na, nc, pa, pc⟩ s x X (((hG.step h).2.1).mono (hG.step h).2.2.size) hnt.out hxr hxF)
                  replace hxr := Lib.hid hxr
                  replace hxF := Lib.hid hxF
                  unfold Lk.v at hHX
                  have hz5 : (0 : Int) ≤ q := by omega
                  have hz6 : (q : Int) < L.length := by omega
                  have hz7 := hA.n4
                  have hAll : Hid (∀ X, Below wr.heap.size wr X → X.cell? ⟨w1.heap.size, 0, none⟩ = some (.int .i64 g.k) ∧ X.cell? ⟨w1.heap.size, 1, none⟩ = some (.slice ta g.toks.length tc) ∧ X.cell? ⟨w1.heap.size, 2, none⟩ = some (.string g.sep) ∧ X.cell? ⟨w1.heap.size, 3, none⟩ = some (.slice na g.names.length nc) ∧ X.cell? ⟨w1.heap.size, 4, none⟩ = some (.int .i64 g.start) ∧ X.cell? ⟨w1.heap.size, 5, none⟩ = some (.slice pa g.prods.length pc) ∧ X.cell? ⟨b, off + j, none⟩ = some (.int .i64 s) ∧ X.cell? ⟨lb, loff + q * 5, none⟩ = some (.int .i64 x.n) ∧ X.cell? ⟨lb, loff + q * 5 + 1, none⟩ = some (.int .i64 x.a) ∧ X.cell? ⟨lb, loff + q * 5 + 2, none⟩ = some (.int .i64 x.b) ∧ X.cell? ⟨lb, loff + q * 5 + 3, none⟩ = some (.int .i64 x.c) ∧ X.cell? ⟨lb, loff + q * 5 + 4, none⟩ = some (.int .i64 x.d) ∧ Below wr.heap.size wr X) := Lib.hid fun X h => ⟨cell_later h c0, cell_later h c1, cell_later h c2, cell_later h c3, cell_later h c4, cell_later h c5, cell_later h x0, cell_later h l0, cell_later h l1, cell_later h l2, cell_later h l3, cell_later h l4, h⟩
                  go_upto_region 16 with (fail)
                  go_region_held3 (fun X => X.cell? ⟨w1.heap.size, 0, none⟩ = some (.int .i64 g.k) ∧ X.cell? ⟨w1.heap.size, 1, none⟩ = some (.slice ta g.toks.length tc) ∧ X.cell? ⟨w1.heap.size, 2, none⟩ = some (.string g.sep) ∧ X.cell? ⟨w1.heap.size, 3, none⟩ = some (.slice na g.names.length nc) ∧ X.cell? ⟨w1.heap.size, 4, none⟩ = some (.int .i64 g.start) ∧ X.cell? ⟨w1.heap.size, 5, none⟩ = some (.slice pa g.prods.length pc) ∧ X.cell? ⟨b, off + j, none⟩ = some (.int .i64 s) ∧ X.cell? ⟨lb, loff + q * 5, none⟩ = some (.int .i64 x.n) ∧ X.cell? ⟨lb, loff + q * 5 + 1, none⟩ = some (.int .i64 x.a) ∧ X.cell? ⟨lb, loff + q * 5 + 2, none⟩ = some (.int .i64 x.b) ∧ X.cell? ⟨lb, loff + q * 5 + 3, none⟩ = some (.int .i64 x.c) ∧ X.cell? ⟨lb, loff + q * 5 + 4, none⟩ = some (.int .i64 x.d) ∧ Below wr.heap.size wr X)
                    ((refine hAll.out _ ?_; repeat (first | assumption | exact Below.refl _ _ | (with_reducible refine bAlc ?_ _) | (with_reducible refine bDrw ?_))))
                    (first
                      | (go_at_call 13; refine (hHX.out _ (by repeat (first | assumption | exact Below.refl _ _ | (refine bStep ?_ (by assumption)) | (with_reducible refine bAlc ?_ _) | (with_reducible refine bDrw ?_)))).mono ?_; clear hHX; rintro e w2 ⟨rfl, hb2⟩; have hs2 : Below wr.heap.size wr w2 := bStep (by repeat (first | assumption | exact Below.refl _ _ | (refine bStep ?_ (by assumption)) | (with_reducible refine bAlc ?_ _) | (with_reducible refine bDrw ?_))) hb2))
                  all_goals
                    go_wp2_with fail
                    go_roundg (L.length - (q + 1))
                    case measure => have := hq.out; omega
                    case rel => exact ⟨q + 1, by go_num, Lib.hid (by have := hq.out; omega), bStep hbq hs2⟩
                · have hqe : q = L.length := by have := hq.out; omega
                  subst hqe
                  go_upto_region 19 with (fail)
                  have hAll : Hid (∀ X, Below wr.heap.size wr X → X.cell? ⟨w1.heap.size, 0, none⟩ = some (.int .i64 g.k) ∧ X.cell? ⟨w1.heap.size, 1, none⟩ = some (.slice ta g.toks.length tc) ∧ X.cell? ⟨w1.heap.size, 2, none⟩ = some (.string g.sep) ∧ X.cell? ⟨w1.heap.size, 3, none⟩ = some (.slice na g.names.length nc) ∧ X.cell? ⟨w1.heap.size, 4, none⟩ = some (.int .i64 g.start) ∧ X.cell? ⟨w1.heap.size, 5, none⟩ = some (.slice pa g.prods.length pc) ∧ X.cell? ⟨b, off + j, none⟩ = some (.int .i64 s) ∧ Below wr.heap.size wr X) := Lib.hid fun X h => ⟨cell_later h c0, cell_later h c1, cell_later h c2, cell_later h c3, cell_later h c4, cell_later h c5, cell_later h x0, h⟩
                  have hPX := Lib.hid (fun X (h : Below wr.heap.size wr X) => hPr.out ⟨ta, tc, na, nc, pa, pc⟩ s X (((hG.step h).2.1).mono (hG.step h).2.2.size) hnt.out)
                  have hpos := hPs.out s hnt.out
                  have hPg := Lib.hid (fun (t : Nat) (v : Int) (h : (prIdx g.prods s g.prods.length)[t]? = some v) => prIdx_get h)
                  have hPl := prIdx_len g.prods s g.prods.length
                  have hp4 := hp24.out
                  generalize prIdx g.prods s g.prods.length = P at *
                  go_region_held3 (fun X => X.cell? ⟨w1.heap.size, 0, none⟩ = some (.int .i64 g.k) ∧ X.cell? ⟨w1.heap.size, 1, none⟩ = some (.slice ta g.toks.length tc) ∧ X.cell? ⟨w1.heap.size, 2, none⟩ = some (.string g.sep) ∧ X.cell? ⟨w1.heap.size, 3, none⟩ = some (.slice na g.names.length nc) ∧ X.cell? ⟨w1.heap.size, 4, none⟩ = some (.int .i64 g.start) ∧ X.cell? ⟨w1.heap.size, 5, none⟩ = some (.slice pa g.prods.length pc) ∧ X.cell? ⟨b, off + j, none⟩ = some (.int .i64 s) ∧ Below wr.heap.size wr X)
                    ((refine hAll.out _ ?_; repeat (first | assumption | exact Below.refl _ _ | (with_reducible refine bAlc ?_ _) | (with_reducible refine bDrw ?_))))
                    (first
                      | (go_at_call 14; refine (hPX.out _ (by repeat (first | assumption | exact Below.refl _ _ | (refine bStep ?_ (by assumption)) | (with_reducible refine bAlc ?_ _) | (with_reducible refine bDrw ?_)))).mono ?_; clear hPX; rintro e w2 ⟨A3, k3, rfl, hr, hb2⟩; have hs2 : Below wr.heap.size wr w2 := bStep (by repeat (first | assumption | exact Below.refl _ _ | (refine bStep ?_ (by assumption)) | (with_reducible refine bAlc ?_ _) | (with_reducible refine bDrw ?_))) hb2))
                  have hpne : ((P.length : Int) == 0) = false := by simpa using (by omega : (P.length : Int) ≠ 0)
                  have hwv : (Lit.int .i64 (zs.getD i 0)).wf = true := by
                    rw [List.getD_eq_getElem?_getD]
                    cases hz : zs[i]? with
                    | none => rfl
                    | some v => exact hzw'.out v (List.mem_of_getElem? hz)
                  have hb3 := bStep hb hs2
                  have hAt2 := Lib.hid (hAt.out i w.heap.size w2 (hZ.below hb3) (by omega))
                  have hMod2 := Lib.hid (hMod.out (zs.getD i 0) P.length w2 hwv (by omega) (by omega))
                  have hmb1 := Int.emod_nonneg (zs.getD i 0) (show (P.length : Int) ≠ 0 by omega)
                  have hmb2 := Int.emod_lt_of_pos (zs.getD i 0) (show (0 : Int) < P.length by omega)
                  generalize zs.getD i 0 = zv at *
                  obtain ⟨t, ht⟩ := Int.eq_ofNat_of_zero_le hmb1
                  rw [ht] at hMod2 hmb2
                  have htP : t < P.length := by omega
                  have hPt : P[t]? = some P[t] := List.getElem?_eq_getElem htP
                  obtain ⟨pb, poff, hA3, hpb, y0⟩ := hr.get (show (ints P)[t]? = some (.int .i64 P[t]) by rw [ints, List.getElem?_map, hPt]; rfl)
                  subst hA3
                  obtain ⟨pj, hpj, hpl, hps⟩ := hPg.out t _ hPt
                  rw [hpj] at y0
                  replace ht := Lib.hid ht
                  replace hPt := Lib.hid hPt
                  replace hpj := Lib.hid hpj
                  clear hmb1 hwv
                  have hzt : (0 : Int) ≤ t := by omega
                  go_upto_region 23 with (first
                    | (go_at_call 16; refine hAt2.out.mono ?_; clear hAt2; rintro e w3 ⟨rfl, rfl⟩)
                    | (go_at_call 15; refine hMod2.out.mono ?_; clear hMod2; rintro e w3 ⟨rfl, rfl⟩))
                  have hmem : g.prods.getD pj default ∈ g.prods := by
                    rw [List.getD_eq_getElem?_getD, List.getElem?_eq_getElem hpl]
                    exact List.getElem_mem hpl
                  have hxi : g.prods[pj]? = some (g.prods.getD pj default) := by
                    rw [List.getD_eq_getElem?_getD, List.getElem?_eq_getElem hpl]; rfl
                  have hfo2 := Lib.hid (hNx.out form s _ hfo.out (by rw [hat.out]; exact hs.out) hmem hps)
                  rw [hat.out] at hfo2
                  replace hG := hG.step hs2
                  replace hF := hF.step hs2
                  have hpr6 := (hprr.out _ hmem).2.1
                  obtain ⟨gb, goff, hpa, hgb, g0, RA, rc, g1, hRd, hrl, hrm⟩ := hG.2.1.prods.get hxi
                  dsimp only at hpa
                  subst hpa
                  generalize g.prods.getD pj default = p at *
                  clear hFO hA hL hAll hpos hPg hr hpb hbq x0 c0 c1 c2 c3 c4 c5 hnt
                  replace hmem := Lib.hid hmem
                  replace hxi := Lib.hid hxi
                  replace hps := Lib.hid hps
                  replace hb := bStep hb hs2
                  clear hb3
                  generalize w2 = W2 at *
                  obtain ⟨c0, c1, c2, c3, c4, c5⟩ := hG.cells
                  dsimp only at c1 c3 c5
                  have hGl := hG.lt
                  have hTt : Hid (∀ X, Below W2.heap.size W2 X → Rd1 X W2.heap.size (some ⟨b, off, none⟩) j (ints (form.take j))) := Lib.hid fun X h => (rd_take hF.1 j (by omega)).below h
                  have hTr : Hid (∀ X, Below W2.heap.size W2 X → Rd1 X W2.heap.size RA p.right.length (ints p.right)) := Lib.hid fun X h => (hRd.mono (by omega)).below h
                  have hdp := rd_drop hF.1 (j + 1) c (by omega) hcl
                  have hLi : Hid (ints (form.take j) ++ ints p.right ++ ints (form.drop (j + 1)) = ints (form.take j ++ p.right ++ form.drop (j + 1))) := Lib.hid (by simp [ints])
                  have hi1 : Hid ((ints (form.take j)).length = j) := Lib.hid (by have := hfm.out; simp [ints]; omega)
                  have hi2 : Hid ((ints p.right).length = p.right.length) := Lib.hid (by simp [ints])
                  have hlF : Hid ((form.take j ++ p.right ++ form.drop (j + 1)).length = j + p.right.length + (m - (j + 1))) := Lib.hid (by have := hfm.out; simp; omega)
                  have hAll : Hid (∀ X, Below W2.heap.size W2 X → X.cell? ⟨w1.heap.size, 5, none⟩ = some (.slice (some ⟨gb, goff, none⟩) g.prods.length pc) ∧ X.cell? ⟨gb, goff + pj * 2 + 1, none⟩ = some (.slice RA p.right.length rc) ∧ Below W2.heap.size W2 X) := Lib.hid fun X h => ⟨cell_later h c5, cell_later h g1, h⟩
                  have e1 : Own1 (W2.alloc (.cells #[] 3)).drew W2.heap.size 3 (.slice (some ⟨W2.heap.size, 0, none⟩) 0 0) [] := Own1.emptyAt W2 _ 3 _ rfl (Nat.le_refl _)
                  have n1 : Below W2.heap.size W2 (W2.alloc (.cells #[] 3)).drew := bDrw (bAlc (Below.refl _ _) _)
                  have hzm : (pj : Int) * 2 ≤ 100 := by omega
                  have hzj0 : (0 : Int) ≤ pj := by omega
                  have hzj1 : (pj : Int) < g.prods.length := by omega
                  have hzjc : (j : Int) ≤ c := by omega
                  unfold maxLen at hrm
                  go_cut [6] (fun s6 wx => ∃ A9 m9 c9, s6 = .slice A9 m9 c9 ∧ m9 = (form.take j ++ p.right ++ form.drop (j + 1)).length ∧ RdF wx A9 m9 c9 (form.take j ++ p.right ++ form.drop (j + 1)) ∧ Below W2.heap.size W2 wx)
                  case first =>
                    have hzc : (j : Int) + 1 ≤ m := by omega
                    have hzd : (0 : Int) ≤ (j : Int) + 1 := by omega
                    by_cases hct : c = j + 1
                    · have hkt : m = j + 1 := by omega
                      subst hct
                      subst hkt
                      have hzje : (j : Int) ≤ (j : Int) + 1 := by omega
                      have hzjf : ¬ (j : Int) + 1 < (j : Int) := by omega
                      rw [if_pos rfl] at hdp
                      simp only [Nat.sub_self] at hdp
                      have hTd : Hid (∀ X, Below W2.heap.size W2 X → Rd1 X W2.heap.size (some ⟨b, off, none⟩) 0 (ints (form.drop (j + 1)))) := Lib.hid fun X h => hdp.below h
                      clear hdp
                      go_region_held3 (fun X => X.cell? ⟨w1.heap.size, 5, none⟩ = some (.slice (some ⟨gb, goff, none⟩) g.prods.length pc) ∧ X.cell? ⟨gb, goff + pj * 2 + 1, none⟩ = some (.slice RA p.right.length rc) ∧ Below W2.heap.size W2 X)
                        ((refine hAll.out _ ?_; repeat (first | assumption | exact Below.refl _ _ | (with_reducible refine bAlc ?_ _) | (with_reducible refine bDrw ?_))))
                        (first
                          | (refine step_of_wp _ (by rfl) (wp_join1 _ _ _ 34 (by rfl) W2.heap.size 3 _ 8 under22 info3 (by rfl) v2 (ints (form.take j) ++ ints p.right) (by rfl) hown2 W2.heap.size (some ⟨b, off, none⟩) 0 0 (ints (form.drop (j + 1))) (by rfl) (hTd.out _ hs3) ints_one (by rw [List.length_append, hi1.out, hi2.out]; omega) (by omega) (by have := hs3.size; omega) ?_); intro v3 w4 hown3 hg3 hat3 hb4; have hs4 : Below W2.heap.size W2 w4 := hb4 W2 hs3)
                          | (refine step_of_wp _ (by rfl) (wp_join1 _ _ _ 34 (by rfl) W2.heap.size 3 _ 8 under22 info3 (by rfl) v1 (ints (form.take j)) (by rfl) hown1 W2.heap.size RA p.right.length rc (ints p.right) (by rfl) (hTr.out _ hs2') ints_one (by rw [hi1.out]; omega) (by omega) (by have := hs2'.size; omega) ?_); intro v2 w3 hown2 hg2 hat2 hb3'; have hs3 : Below W2.heap.size W2 w3 := hb3' W2 hs2')
                          | (refine step_of_wp _ (by rfl) (wp_join1 _ _ _ 34 (by rfl) W2.heap.size 3 _ 8 under22 info3 (by rfl) _ [] (by rfl) e1 W2.heap.size (some ⟨b, off, none⟩) j (j + 1) (ints (form.take j)) (by rfl) (hTt.out _ n1) ints_one (by simp; omega) (by omega) (by simp) ?_); intro v1 w3' hown1 hg1 hat1 hb1; simp only [List.nil_append] at hown1; have hs2' : Below W2.heap.size W2 w3' := hb1 W2 n1))
                      all_goals
                        go_wp2_with fail
                        go_meet
                        rw [hLi.out] at hown3
                        obtain ⟨A9, c9, rfl, hR9⟩ := RdF.of_own hown3
                        exact ⟨A9, _, c9, rfl, rfl, hR9, hs4⟩
                    · rw [if_neg hct] at hdp
                      simp only [Option.map_some, Addr.add_lit] at hdp
                      have hTd : Hid (∀ X, Below W2.heap.size W2 X → Rd1 X W2.heap.size (some ⟨b, off + (j + 1), none⟩) (m - (j + 1)) (ints (form.drop (j + 1)))) := Lib.hid fun X h => hdp.below h
                      clear hdp
                      go_region_held3 (fun X => X.cell? ⟨w1.heap.size, 5, none⟩ = some (.slice (some ⟨gb, goff, none⟩) g.prods.length pc) ∧ X.cell? ⟨gb, goff + pj * 2 + 1, none⟩ = some (.slice RA p.right.length rc) ∧ Below W2.heap.size W2 X)
                        ((refine hAll.out _ ?_; repeat (first | assumption | exact Below.refl _ _ | (with_reducible refine bAlc ?_ _) | (with_reducible refine bDrw ?_))))
                        (first
                          | (refine step_of_wp _ (by rfl) (wp_join1 _ _ _ 34 (by rfl) W2.heap.size 3 _ 8 under22 info3 (by rfl) v2 (ints (form.take j) ++ ints p.right) (by rfl) hown2 W2.heap.size (some ⟨b, off + (j + 1), none⟩) (m - (j + 1)) (c - (j + 1)) (ints (form.drop (j + 1))) (by rfl) (hTd.out _ hs3) ints_one (by rw [List.length_append, hi1.out, hi2.out]; omega) (by omega) (by have := hs3.size; omega) ?_); intro v3 w4 hown3 hg3 hat3 hb4; have hs4 : Below W2.heap.size W2 w4 := hb4 W2 hs3)
                          | (refine step_of_wp _ (by rfl) (wp_join1 _ _ _ 34 (by rfl) W2.heap.size 3 _ 8 under22 info3 (by rfl) v1 (ints (form.take j)) (by rfl) hown1 W2.heap.size RA p.right.length rc (ints p.right) (by rfl) (hTr.out _ hs2') ints_one (by rw [hi1.out]; omega) (by omega) (by have := hs2'.size; omega) ?_); intro v2 w3 hown2 hg2 hat2 hb3'; have hs3 : Below W2.heap.size W2 w3 := hb3' W2 hs2')
                          | (refine step_of_wp _ (by rfl) (wp_join1 _ _ _ 34 (by rfl) W2.heap.size 3 _ 8 under22 info3 (by rfl) _ [] (by rfl) e1 W2.heap.size (some ⟨b, off, none⟩) j c (ints (form.take j)) (by rfl) (hTt.out _ n1) ints_one (by simp; omega) (by omega) (by simp) ?_); intro v1 w3' hown1 hg1 hat1 hb1; simp only [List.nil_append] at hown1; have hs2' : Below W2.heap.size W2 w3' := hb1 W2 n1))
                      all_goals
                        go_wp2_with fail
                        go_meet
                        rw [hLi.out] at hown3
                        obtain ⟨A9, c9, rfl, hR9⟩ := RdF.of_own hown3
                        exact ⟨A9, _, c9, rfl, rfl, hR9, hs4⟩
                  case rest =>
                    obtain ⟨A9, m9, c9, rfl, hm9, hR9, hb9⟩ := hcut
                    clear e1 n1 hAll hTt hTr hdp
                    replace hG := hG.step hb9
                    replace hb := bStep hb hb9
                    clear c0 c1 c2 c3 c4 c5 g0 g1 hRd
                    replace hm9 := Lib.hid hm9
                    by_cases h40 : 40 < (m9 : Int)
                    · go_wp2_with (go_at_call 7; refine (hAw.out _).mono ?_; rintro e w5 ⟨rfl, hb5⟩)
                      go_ret
                      exact ⟨rfl, bStep hb hb5⟩
                    · go_wp2_with fail
                      go_roundg (12 - (i + 1))
                      case measure => have := hi.out; omega
                      case rel => exact ⟨_, A9, m9, c9, i + 1, rfl, by go_num, Lib.hid (by have := hi.out; omega), Lib.hid hm9.out.symm, hfo2, Lib.hid (by omega), hR9, hG, hb⟩
        · have hje : j = m := by have := hj.out; omega
          subst hje
          clear hfm'
          go_wp2_with (go_at_call 7; refine (hAw.out _).mono ?_; rintro e w2 ⟨rfl, hb2⟩)
          go_ret
          exact ⟨rfl, bStep hb hb2⟩
    · have hie : i = 12 := by have := hi.out; omega
      subst hie
      go_wp2_with (go_at_call 7; refine (hAw.out _).mono ?_; rintro e w2 ⟨rfl, hb2⟩)
      go_ret
      exact ⟨rfl, bStep hb hb2⟩
end Go.Proofs.YtnnkfgekiaaehaaGreat
