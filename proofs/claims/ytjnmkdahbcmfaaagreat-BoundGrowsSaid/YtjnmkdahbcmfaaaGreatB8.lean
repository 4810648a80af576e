/- Walks and plain laws, part 8 of 30: ; ; ; ; ; ; ; ; ; ; look.Join at the looks of a finite set, run by the evaluator; Data of the evaluator as grammars in memory; (follow.set).sorted as a summary. Conditions: none beyond those that each theorem states. -/
import Derived.Test.YtjnmkdahbcmfaaaGreatB7
import Derived.RangeFuncRecord
/-  -/
set_option linter.unusedVariables false
namespace Go.Ev
open Go.RowKit
section
variable {P : Program} {N : Nat} {ops : Array Oper} {bms : List Nat} {listed : Array Bool} {rem : List DI} {L : Nat}
def befB (bms : List Nat) (j i : Nat) : Bool := (bms.getD j 0).testBit i
theorem freeD_s (I : Inv P N ops bms listed rem L) {i : Nat} {oi : Oper} {bm : Nat} {pu : Bool} {f : OpT} {s : Option FV → T3 → T3} (hf : freeD (.mk i (bits oi.dst.toList) (bits (oi.looksAt ops)) (aftM oi) bm pu f s) rem = true)
    (j : Nat) (oj : Oper) (hj : ops[j]? = some oj) (hji : j ≠ i) (hun : listed.getD j true = false) (hno : ∀ e ∈ oj.after, Region.binds .any e = true → e.on ≠ i) :
    (∀ d, oi.dst = some d → d ∉ oj.looksAt ops) ∧ (∀ d, oi.dst = some d → oj.dst ≠ some d) ∧ (∀ d, oj.dst = some d → d ∉ oi.looksAt ops) := by
  obtain ⟨x, hx, rfl⟩ := I.of (Array.getElem?_eq_some_iff.1 hj).1 hun
  have h1 := List.all_eq_true.1 hf x hx
  obtain ⟨j', o', f0, f', s', ho', rfl, _⟩ := I.ok x hx
  simp only [DI.i, DI.dm, DI.lm, DI.am] at *
  rw [hj] at ho'; cases ho'
  have e1 : Nat.beq j' i = false := by
    cases hb : Nat.beq j' i with
    | false => rfl
    | true => exact absurd (beq hb) hji
  have e2 : (aftM oj).testBit i = false := by
    unfold aftM
    rw [bits_no]
    intro hm
    obtain ⟨e, he, hei⟩ := List.mem_map.1 hm
    obtain ⟨he, hb⟩ := List.mem_filter.1 he
    exact hno e (by simpa using he) hb hei
  rw [e1, e2] at h1
  simp only [Bool.false_or] at h1
  obtain ⟨h1, h2⟩ := and_true' h1
  have k1 : ∀ d, oi.dst = some d → (bits (oj.looksAt ops) ||| bits oj.dst.toList).testBit d = false := fun d hd => land_zero h1 d (by rw [bits_iff, hd]; simp)
  refine ⟨fun d hd => ?_, fun d hd hdj => ?_, fun d hd => ?_⟩
  · have := k1 d hd
    rw [Nat.testBit_or] at this
    exact bits_no.1 (Bool.or_eq_false_iff.1 this).1
  · have := k1 d hd
    rw [Nat.testBit_or] at this
    exact bits_no.1 (Bool.or_eq_false_iff.1 this).2 (by rw [hdj]; simp)
  · exact bits_no.1 (land_zero h2 d (by rw [bits_iff, hd]; simp))
theorem isOk_s {r : Ro} (h : isOk r = true) : ∃ v hf, r = .ok v hf := by
  cases r with
  | no => cases h
  | ok v hf => exact ⟨v, hf, rfl⟩
theorem dMany_ok {gs : List (T3 → Option FV)} {l : List DT} {call : CallT} {ts : T3} {h : FH} {cs : List CK} {k : KR} {v : FV} {hf : FH} (he : dMany N gs l call ts h cs k = .ok v hf) :
    ∃ ts1 h1, k ts1 h1 = .ok v hf ∧ ∀ f ∈ l, ∃ v' hf' k', f call ts h cs k' = .ok v' hf' ∧ ∀ ts2 h2, k' ts2 h2 = .ok v' hf' → (ts2 = ts1 ∧ h2 = h1) ∨ ∃ r r', eqv N h.next r r' ts1 h1 ts2 h2 = true := by
  unfold dMany at he
  cases l with
  | nil => cases he
  | cons f rs =>
    simp only at he
    cases hf' : f call ts h cs kSt with
    | no => rw [hf'] at he; cases he
    | ok v' hw =>
      rw [hf'] at he
      simp only at he
      split at he
      · rename_i st pend n0 ts1 ps az bo t1 rr nx ro
        unfold dGo at he
        obtain ⟨c1, e1⟩ := iff_ok he
        refine ⟨ts1, ⟨t1, nx, ro⟩, e1, fun g hg => ?_⟩
        rcases List.mem_cons.1 hg with rfl | hg
        · refine ⟨_, _, kSt, hf', fun ts2 h2 hk => .inl ?_⟩
          unfold kSt at hk
          simp only [Ro.ok.injEq, FH.mk.injEq, KT.node.injEq, Blk.loop.injEq] at hk
          obtain ⟨_, ⟨_, hb, ht, _⟩, h3, h4⟩ := hk
          exact ⟨hb.2.2.2.1, by cases h2; simp_all⟩
        · obtain ⟨v2, hf2, hg2⟩ := isOk_s (List.all_eq_true.1 c1 g hg)
          refine ⟨v2, hf2, _, hg2, fun ts2 h2 hk => .inr ?_⟩
          unfold kEq at hk
          simp only at hk
          obtain ⟨c2, _⟩ := iff_ok hk
          rw [eqvK_eq] at c2
          exact ⟨_, _, c2⟩
      · cases he
theorem mem_sortD {al : List Nat} {l : List DI} {d : DI} (h : d ∈ l) : d ∈ sortD al l := by
  unfold sortD
  rw [List.mem_append]
  cases hh : has al d.i with
  | true => exact .inl (List.mem_filter.2 ⟨h, hh⟩)
  | false => exact .inr (List.mem_filter.2 ⟨h, by simp [hh]⟩)
theorem plan_s {al : List Nat} {call : CallT} (hC : CallS P call) (hB : BefP ops (befB bms)) (hns : ∀ (j : Nat) (o : Oper), ops[j]? = some o → (∀ cs b, o.op ≠ .select cs b) ∧ ∀ c, o.op ≠ .defer c) {Q : Exit → Act → World → Prop} (hQ : ∀ c a w, ¬ Q (.panic c) a w) :
    ∀ (fuel : Nat) (rem : List DI) (L : Nat) (listed : Array Bool) (M : List (Nat × (World → Prop))) (q : DT) ⦃B : Nat⦄ ⦃w0 : World⦄ ⦃σ : Ren⦄ ⦃ts : T3⦄ ⦃h : FH⦄ ⦃a : Act⦄ ⦃w : World⦄ (cs : List CK) (k : KR) (v : FV) (hf : FH), Inv P N ops bms listed rem L → Closed (befB bms) listed →
      HR P B w0 σ h w → TR σ h.next N ts a.tmps → WSs P B w0 σ h M cs → (∀ m ∈ M, m.2 w) → plan N al fuel rem L (M.map (·.1)) = .mk q → q call ts h cs k = .ok v hf →
      ∀ r n, Nx P B w0 σ h N a (fun ts' h' => k ts' h' = .ok v hf) (Q .normal) → wpX r n P ops (befB bms) Q fuel listed M a w := by
  intro fuel
  induction fuel with
  | zero =>
    intro rem L listed M q B w0 σ ts h a w cs k v hf I hCl hR hT hW hM hp he r n hn
    cases rem with
    | nil =>
      simp only [plan, DBox.mk.injEq] at hp; subst hp
      exact wpX_done (by rw [I.ready]; rfl) (hn ts h σ a w he rfl (Nat.le_refl _) (Ext.refl _ _) hR hT rfl) 0
    | cons d rem => simp only [plan, DBox.mk.injEq] at hp; subst hp; cases he
  | succ fuel ih =>
    intro rem L listed M q B w0 σ ts h a w cs k v hf I hCl hR hT hW hM hp he r n hn
    by_cases hr : rem = []
    · subst hr
      simp only [plan, DBox.mk.injEq] at hp; subst hp
      exact wpX_done (by rw [I.ready]; rfl) (hn ts h σ a w he rfl (Nat.le_refl _) (Ext.refl _ _) hR hT rfl) _
    · have hp' : (match (rem.filter (okD L)).find? DI.pu with
        | some (.mk i dm lm am bm pu f s) => (bif freeD (.mk i dm lm am bm pu f s) rem then .mk (dPure f s (plan N al fuel (rmD i rem) (Nat.lor L (2 ^ i)) (i :: M.map (·.1)))) else .mk dNo)
        | none => (match rem.filter (okD L) with
          | [.mk i _ _ _ bm _ f s] => .mk (dEff f s ((M.map (·.1)).map fun m => !Nat.testBit bm m) (plan N al fuel (rmD i rem) (Nat.lor L (2 ^ i)) ((M.map (·.1)).filter fun m => !Nat.testBit bm m)))
          | [] => .mk dNo
          | l => .mk (dMany N ((l.filter fun d => has al d.i).flatMap (getD N)) ((sortD al l).map fun d => match d with | .mk i _ _ _ bm _ f s => dEff f s ((M.map (·.1)).map fun m => !Nat.testBit bm m) (plan N al fuel (rmD i rem) (Nat.lor L (2 ^ i)) ((M.map (·.1)).filter fun m => !Nat.testBit bm m))))) : DBox) = .mk q := by
        rw [← hp]
        cases rem with
        | nil => exact absurd rfl hr
        | cons d rem => rfl
      clear hp
      cases hfd : (rem.filter (okD L)).find? DI.pu with
      | some d =>
        have hmem := List.mem_of_find?_eq_some hfd
        have hpu := List.find?_some hfd
        have hready : d.i ∈ Region.ready .any ops listed := by rw [I.ready]; exact List.mem_map.2 ⟨d, hmem, rfl⟩
        have hrem := (List.mem_filter.1 hmem).1
        obtain ⟨i, o, f0, f, s, hi, rfl, hs, hf0, hgb⟩ := I.ok d hrem
        rw [hfd] at hp'
        simp only [DI.pu] at hpu
        simp only at hp'
        cases hfree : freeD (.mk i (bits o.dst.toList) (bits (o.looksAt ops)) (aftM o) (bms.getD i 0) (pureOp P o) f s) rem with
        | false => rw [hfree] at hp'; simp only [cond_false, DBox.mk.injEq] at hp'; subst hp'; cases he
        | true =>
          rw [hfree] at hp'; simp only [cond_true, DBox.mk.injEq] at hp'; subst hp'
          simp only [DI.i] at hready
          rw [hpu, cond_true] at hf0
          have hpur := (cOpD_p o hpu).2 f0 hf0
          obtain ⟨u, e1, e2, e3⟩ := gB_pure hpur hgb hR hT he
          have hlt : i < ops.size := (Array.getElem?_eq_some_iff.1 hi).1
          refine wpX_first hi hns hQ hB fuel listed M a w hCl (freeD_s I hfree) hready e3 hM ?_
          obtain ⟨q', hq'⟩ : ∃ q', plan N al fuel (rmD i rem) (Nat.lor L (2 ^ i)) (i :: M.map (·.1)) = .mk q' := by cases hx : plan N al fuel (rmD i rem) (Nat.lor L (2 ^ i)) (i :: M.map (·.1)) with | mk q' => exact ⟨q', rfl⟩
          have e1' : q' call (s (some u) ts) h (ckOf f call ts u :: cs) k = .ok v hf := by
            simp only [hq'] at e1; exact e1
          refine ih (rmD i rem) (Nat.lor L (2 ^ i)) (listed.setIfInBounds i true) ((i, fun w => Hold P ops o (val σ u) a w) :: M) q' (ckOf f call ts u :: cs) k v hf (I.next hlt) (hCl.set hB hready) hR (hT.put hs e2) ⟨?_, hW⟩ ?_ hq' e1' r n ?_
          · intro σ' h' w' h1 h2 h3 rr v hf hrr
            obtain ⟨u', z1, z2, z3⟩ := gB_pure hpur hgb h3 (hT.ext h2 h1) hrr
            obtain ⟨c1, z4⟩ := iff_ok z1
            rw [beqK_eq] at c1; have := beqV_s _ _ c1; subst this
            exact ⟨z4, by rw [val_ext h2 _ e2] at z3; exact z3⟩
          · intro m hm
            rcases List.mem_cons.1 hm with rfl | hm
            · exact e3
            · exact hM m hm
          · intro ts' h' σ' a' w' g1 g2 g3 g4 g5 g6 g7
            exact hn ts' h' σ' a' w' g1 g2 g3 g4 g5 g6 (g7.trans (Act.put_def _ _ _))
      | none =>
        rw [hfd] at hp'
        simp only at hp'
        have branch : ∀ d ∈ rem.filter (okD L), ∀ i dm lm am bm pu f s, d = .mk i dm lm am bm pu f s →
            ∀ (k : KR) (v : FV) (hf : FH), dEff f s ((M.map (·.1)).map fun m => !Nat.testBit bm m) (plan N al fuel (rmD i rem) (Nat.lor L (2 ^ i)) ((M.map (·.1)).filter fun m => !Nat.testBit bm m)) call ts h cs k = .ok v hf →
            Nx P B w0 σ h N a (fun ts' h' => k ts' h' = .ok v hf) (Q .normal) →
            wpOpIn (FW r) n P ops Q i (fun a' w' => (∀ m ∈ M, befB bms i m.1 = false → m.2 w') ∧ wpX r n P ops (befB bms) Q fuel (listed.setIfInBounds i true) (M.filter fun m => !befB bms i m.1) a' w') a w := by
          intro d hmem i' dm' lm' am' bm' pu' f' s' hd k v hf he hn
          have hrem := (List.mem_filter.1 hmem).1
          have hnp : d.pu = false := by have := List.find?_eq_none.1 hfd d hmem; simpa using this
          have hready : d.i ∈ Region.ready .any ops listed := by rw [I.ready]; exact List.mem_map.2 ⟨d, hmem, rfl⟩
          obtain ⟨i, o, f0, f, s, hi, rfl, hs, hf0, hgb⟩ := I.ok d hrem
          simp only [DI.mk.injEq] at hd
          obtain ⟨rfl, rfl, rfl, rfl, rfl, rfl, rfl, rfl⟩ := hd
          simp only [DI.pu] at hnp
          rw [hnp, cond_false] at hf0
          have hop := cOp_s (P := P) (N := N) o f0 hf0
          have hlt : i < ops.size := (Array.getElem?_eq_some_iff.1 hi).1
          simp only [DI.i] at hready
          obtain ⟨q', hq'⟩ : ∃ q', plan N al fuel (rmD i rem) (Nat.lor L (2 ^ i)) ((M.map (·.1)).filter fun m => !Nat.testBit (bms.getD i 0) m) = .mk q' := by
            cases hx : plan N al fuel (rmD i rem) (Nat.lor L (2 ^ i)) ((M.map (·.1)).filter fun m => !Nat.testBit (bms.getD i 0) m) with | mk q' => exact ⟨q', rfl⟩
          refine gB_eff hop hgb hi hC hR hT he ?_
          intro u h1 σ' w' z1 z2 z3 z4 z5 z6
          obtain ⟨cs', y1, y2, y3⟩ := recheck_s z3 z4 z5 M cs _ hW z1
          refine ⟨fun m hm hb => y3 m hm hb, ?_⟩
          have y1' : q' call (s (some u) ts) h1 cs' k = .ok v hf := by simp only [hq'] at y1; exact y1
          refine ih (rmD i rem) (Nat.lor L (2 ^ i)) (listed.setIfInBounds i true) _ q' cs' k v hf (I.next hlt) (hCl.set hB hready) z5 ((hT.ext z4 z3).put hs z6) y2 ?_ ?_ y1' r n ?_
          · intro m hm
            obtain ⟨hm, hb⟩ := List.mem_filter.1 hm
            exact y3 m hm (by simpa using hb)
          · rw [← hq']
            congr 1
            rw [List.filter_map]
            rfl
          · intro ts' h' σ'' a' w'' g1 g2 g3 g4 g5 g6 g7
            exact hn ts' h' σ'' a' w'' g1 (g2.trans z2) (Nat.le_trans z3 g3) (z4.trans g4 z3) g5 g6 (g7.trans (Act.put_def _ _ _))
        cases hl : rem.filter (okD L) with
        | nil => rw [hl] at hp'; simp only [DBox.mk.injEq] at hp'; subst hp'; cases he
        | cons d l =>
          have hmem : d ∈ rem.filter (okD L) := by rw [hl]; simp
          cases l with
          | cons d' l =>
            rw [hl] at hp' branch
            simp only [DBox.mk.injEq] at hp'; subst hp'
            obtain ⟨ts1, h1, hk1, hall⟩ := dMany_ok he
            refine ⟨fun h0 => (by rw [I.ready, hl] at h0; cases h0), fun j hj => ?_⟩
            rw [I.ready, hl] at hj
            obtain ⟨x, hx, rfl⟩ := List.mem_map.1 hj
            obtain ⟨i, dm, lm, am, bm, pu, f, s⟩ := x
            obtain ⟨v2, hf2, k2, g1, g2⟩ := hall _ (List.mem_map.2 ⟨_, mem_sortD hx, rfl⟩)
            refine branch _ hx _ _ _ _ _ _ _ _ rfl k2 v2 hf2 g1 ?_
            intro ts' h' σ' a' w' z1 z2 z3 z4 z5 z6 z7
            rcases g2 ts' h' z1 with ⟨rfl, rfl⟩ | ⟨rr, rr', hq⟩
            · exact hn _ _ σ' a' w' hk1 z2 z3 z4 z5 z6 z7
            · obtain ⟨σ1, y1, y2, y3, y4, y5⟩ := eqv_s hq z4 z5 z6
              exact hn ts1 h1 σ1 a' w' hk1 (y3.trans z2) y2 y1 y4 y5 z7
          | nil =>
            have hready : Region.ready .any ops listed = [d.i] := by rw [I.ready, hl]; rfl
            obtain ⟨i, dm, lm, am, bm, pu, f, s⟩ := d
            rw [hl] at hp'
            simp only [DBox.mk.injEq] at hp'; subst hp'
            exact wpX_one hready (branch _ hmem _ _ _ _ _ _ _ _ rfl k v hf he hn)
theorem bmOf_s (bms : List Nat) (i : Nat) : ∀ (es : List Edge), (bmOf bms es).testBit i = true → ∃ e ∈ es, Region.binds .any e = true ∧ (e.on = i ∨ befB bms e.on i = true)
  | [], h => by simp [bmOf] at h
  | e :: es, h => by
    simp only [bmOf] at h
    cases hb : Region.binds .any e with
    | false =>
      rw [hb, cond_false] at h
      obtain ⟨e', h1, h2⟩ := bmOf_s bms i es h
      exact ⟨e', List.mem_cons_of_mem _ h1, h2⟩
    | true =>
      rw [hb, cond_true, Nat.testBit_or, Nat.testBit_or, Nat.testBit_two_pow] at h
      rcases Bool.or_eq_true_iff.1 h with h | h
      · rcases Bool.or_eq_true_iff.1 h with h | h
        · exact ⟨e, List.mem_cons_self, hb, .inl (by simpa using h)⟩
        · exact ⟨e, List.mem_cons_self, hb, .inr h⟩
      · obtain ⟨e', h1, h2⟩ := bmOf_s bms i es h
        exact ⟨e', List.mem_cons_of_mem _ h1, h2⟩
theorem fixB_s {bms : List Nat} : ∀ (l : List Oper) (y : List Nat), fixB bms l y = true → ∀ j o, l[j]? = some o → y.getD j 0 = bmOf bms o.after.toList
  | [], y, h, j, o, ho => by simp at ho
  | x :: l, y, h, j, o, ho => by
    cases y with
    | nil => simp [fixB] at h
    | cons b y =>
      simp only [fixB] at h
      obtain ⟨h1, h2⟩ := and_true' h
      cases j with
      | zero => simp at ho; subst ho; simpa using (beq h1).symm
      | succ j => simp only [List.getElem?_cons_succ] at ho; simpa using fixB_s l y h2 j o ho
theorem cDraw_s {id : Nat} : BoxS P N (.region id ops true) (cDraw P N ops) := by
  intro g hg
  unfold cDraw at hg
  cases hc : (P.follows .mixedOrders && (noSD ops.toList && fixB (befsGo [] ops.toList) ops.toList (befsGo [] ops.toList))) with
  | false => rw [hc] at hg; cases hg; exact codeS_no
  | true =>
    rw [hc, cond_true] at hg
    obtain ⟨hm, hc⟩ := and_true' hc
    obtain ⟨hsd, hfx⟩ := and_true' hc
    cases hmk : mkDI P N ops (befsGo [] ops.toList) ops.toList 0 with
    | none => rw [hmk] at hg; cases hg; exact codeS_no
    | some l =>
      rw [hmk] at hg
      simp only at hg
      obtain ⟨q, hq⟩ : ∃ q, plan N (aloN ops.toList 0) ops.toList.length l 0 [] = .mk q := by cases hx : plan N (aloN ops.toList 0) ops.toList.length l 0 [] with | mk q => exact ⟨q, rfl⟩
      rw [hq] at hg
      cases hg
      intro call hC B w0 σ ts h a w rd ms k v hf hR hT hM hrd he n Q hQ
      refine Go.wpIn_mono (Q := fun e a w => e = .normal ∧ Q .normal a w) ?_ (fun e a w h => by rw [h.1]; exact h.2)
      obtain ⟨a1, a2⟩ := mkDI_s (P := P) (N := N) (ops := ops) (bms := befsGo [] ops.toList) ops.toList 0 l (fun j => .inl (by simp)) hmk
      have hns : ∀ (j : Nat) (o : Oper), ops[j]? = some o → (∀ cs b, o.op ≠ .select cs b) ∧ ∀ c, o.op ≠ .defer c := by
        intro j o ho
        have := List.all_eq_true.1 hsd o (by have := Array.mem_of_getElem? ho; simpa using this)
        refine ⟨fun cs b hop => ?_, fun c hop => ?_⟩ <;> rw [hop] at this <;> cases this
      have hB : BefP ops (befB (befsGo [] ops.toList)) := by
        intro j o ho i hi
        unfold befB at hi
        rw [fixB_s ops.toList _ hfx j o (by simpa using ho)] at hi
        obtain ⟨e, h1, h2⟩ := bmOf_s _ i _ hi
        exact ⟨e, by simpa using h1, h2⟩
      have I : Inv P N ops (befsGo [] ops.toList) (Array.replicate ops.size false) l 0 := by
        refine ⟨by simp, ?_, a1, fun i => by simp [Array.getD_eq_getD_getElem?, Array.getElem?_replicate]; split <;> rfl⟩
        rw [a2]
        have : (List.range ops.size).filter (fun i => !(Array.replicate ops.size false).getD i true) = List.range ops.size := by
          rw [List.filter_eq_self]
          intro i hi
          have := List.mem_range.1 hi
          simp [Array.getD_eq_getD_getElem?, Array.getElem?_replicate, this]
        rw [this, List.range_eq_range']
        simp
      refine wpIn_region_any hm (wpX_any (bef := befB (befsGo [] ops.toList)) _ _ [] _ _ ?_)
      have := plan_s (al := aloN ops.toList 0) (P := P) (N := N) (ops := ops) (bms := befsGo [] ops.toList) hC hB hns (Q := fun e a w => e = .normal ∧ Q .normal a w) (fun c a w h => by cases h.1) ops.size l 0 (Array.replicate ops.size false) [] q
        (B := B) (w0 := w0) (σ := σ) (ts := ts) (h := h) (a := a) (w := w.drew) [] (fun ts' h' => k .normal ts' h' ms) v hf I
        (fun j hj => by
          have : (Array.replicate ops.size false).getD j false = false := by simp [Array.getD_eq_getD_getElem?, Array.getElem?_replicate]; split <;> rfl
          rw [this] at hj; cases hj) hR.drew hT trivial (fun m hm => by cases hm) (by simpa using hq) he (rdR σ rd) n ?_
      · exact this
      · intro ts' h' σ' a' w' g1 g2 g3 g4 g5 g6 g7
        exact ⟨rfl, hQ .normal ts' h' ms σ' a' w' g1 g2 g3 g4 g5 g6 (by rw [g7]; exact hM.ext g4 g3)⟩
end
end Go.Ev

/-  -/
set_option linter.unusedVariables false
namespace Go.Ev
open Go.RowKit
variable {P : Program} {N : Nat}
theorem upd_putObj {w : World} {g : Nat} {o o' : Obj} (hg : w.heap[g]? = some o) : Upd g o' w (w.putObj g o') := upd_setObj hg
theorem rangeGo_s {call : CallT} (hC : CallS P call) {params : List Tmp} {assign body : Code} {B : Nat} {w0 : World} {σ : Ren} {ts : T3} {h : FH} {A : Act} {w : World} {g : FuncId} {first cap : List FV} {ms : List Mk} {k : KC} {v : FV} {hf : FH} {rd : Option Nat} {n : Nat} {Q : Exit → Act → World → Prop} {L : Loop}
    (hR : HR P B w0 σ h w) (hT : TR σ h.next N ts A.tmps) (hM : MR P σ h.next ms A.defers) (h1 : oks h.next first) (h2 : oks h.next cap) (he : rangeGo N params assign body call ts g first cap h ms k = .ok v hf)
    (l1 : L.state = .ready) (l2 : L.pending = none) (l3 : L.tmps = A.tmps) (l4 : L.params = params.toArray) (l5 : L.assign = assign) (l6 : L.body = body) (hrd : ∀ l, rd = some l → l < h.next)
    (hQ : Cx P B w0 σ h N (fun e ts' h' ms' => k e ts' h' ms' = .ok v hf) Q) :
    okF P g = true ∧ ∀ m, CallsIn (FW (rdR σ rd)) m P g (vals σ first ++ .func (.yield w.heap.size) #[] #[] :: vals σ cap).toArray (w.alloc (.loop L)) (rangePost (FW (rdR σ rd)) n P w.heap.size Q A) := by
  have hE : Ext h.next σ (σ.add h.next w.heap.size 0 0) := σ.add_ext _ _ _ _
  have hR1 : HR P B w0 (σ.add h.next w.heap.size 0 0) (h.new (.loop 0 none N ts params assign body)) (w.alloc (.loop L)) :=
    hR.new hE (by simp) ⟨L, rfl, l1, l2, l4, l5, l6, by rw [l3]; exact hT.ext hE (Nat.le_succ _)⟩
  have hok : oks (h.new (.loop 0 none N ts params assign body)).next (first ++ (.yl h.next :: cap)) := oks_iff.2 fun v hv => by
    rcases List.mem_append.1 hv with hv | hv
    · exact ok_mono (Nat.le_succ _) _ (oks_iff.1 h1 v hv)
    · rcases List.mem_cons.1 hv with rfl | hv
      · simp [FV.ok]
      · exact ok_mono (Nat.le_succ _) _ (oks_iff.1 h2 v hv)
  obtain ⟨g1, g2⟩ := hC (.fn g) _ _ v hf hR1 hok he
  refine ⟨g1, fun m => ?_⟩
  have hv : vals (σ.add h.next w.heap.size 0 0) (first ++ (.yl h.next :: cap)) = vals σ first ++ .func (.yield w.heap.size) #[] #[] :: vals σ cap := by
    rw [← vals_ext hE first h1, ← vals_ext hE cap h2]
    simp [vals_eq, val]
  rw [hv] at g2
  refine callsIn_FW (Calls.mono g2 fun e w' hq => ?_)
  obtain ⟨u, h3, σ', z1, z2, z3, z4, z5, z6, rfl⟩ := hq
  cases hg : h3.get h.next with
  | none => simp only [hg] at z1; cases z1
  | some b =>
    cases b <;> simp only [hg] at z1 <;> try (cases z1; done)
    rename_i st pend N' t' p' a' b'
    have hz : ¬ st = 1 := fun e => by subst e; cases z1
    have z1' : k (jumpE pend) ts (h3.put h.next .dead) ms = .ok v hf := by
      have : Nat.beq st 1 = false := by
        cases hb : Nat.beq st 1 with
        | true => exact absurd (beq hb) hz
        | false => rfl
      rw [this] at z1; exact z1
    obtain ⟨o, ho, L', rfl, y1, y2, y3, y4, y5, y6⟩ := z5.blk _ _ hg (by simp)
    have hblk : σ'.blk h.next = w.heap.size := by rw [z4.blk _ (Nat.lt_succ_self _)]; simp
    rw [hblk] at ho
    have hE' : Ext h.next σ σ' := hE.trans z4 (Nat.le_succ _)
    have hn : h.next ≤ h3.next := Nat.le_trans (Nat.le_succ _) z3
    have hbz : L'.state ≠ .busy := by rw [y1]; intro e; match st, hz, e with | 0, _, e => cases e | 1, hz, _ => exact hz rfl | st + 2, _, e => cases e
    have hro : h3.ro ≤ h.next := by rw [z2]; exact hR.hro
    have hR2 : HR P B w0 σ' (h3.put h.next .dead) (w'.putObj w.heap.size (.loop { L' with state := .exhausted })) :=
      z5.put hg (by simp [Wr]) hro (by rw [hblk]; exact upd_putObj ho) trivial
    have hgo := fun a (ha : a.tmps = A.tmps) (hd : a.defers = A.defers) => hQ (jumpE pend) ts (h3.put h.next .dead) ms σ' a _ z1' (by simp only [FH.put_ro]; exact z2) hn hE' hR2 (by rw [ha]; exact hT.ext hE' hn) (by rw [hd]; exact hM.ext hE' hn)
    refine ⟨L'.pending, _, run_endLoop ho hbz, ?_⟩
    have hgo := hgo A rfl rfl
    generalize w'.putObj w.heap.size (.loop { L' with state := .exhausted }) = w4 at hgo ⊢
    rw [y2]
    match pend, hgo with
    | none, hgo => exact hgo
    | some .ret, hgo => exact wpIn_ret hgo
    | some (.exit id), hgo => exact wpIn_exit hgo
theorem cRange_s {f : Operand} {params : Array Tmp} {assign body : Code} : CodeS P N (.rangeFunc f params assign body) (cRange N (cO N f) params.toList assign body) := by
  intro call hC B w0 σ ts h A w rd ms k v hf hR hT hM hrd he n Q hQ
  obtain ⟨u, e1, e2, e3⟩ := ev_sound hT he
  cases u <;> try (cases e1; done)
  rename_i g first cap
  simp only [FV.ok] at e3
  refine wpIn_rangeFunc fun fn _ => ?_
  have hfin : okF P g = true → ∀ (l : Nat) (w1 : World) (dd : List Deferred),
      (resolve A.eval (rangeCall f l) 0).run P w1 = .ok { target := .fn (.func g) (vals σ cap).toArray, args := (vals σ first).toArray ++ #[.func (.yield l) #[] #[]] } w1 ∧
      (∀ f', Target.leads P w1 (.fn (.func g) (vals σ cap).toArray) ((vals σ first).toArray ++ #[.func (.yield l) #[] #[]]) = some f' → (FW (rdR σ rd)).fn f') ∧
      (invoke (.fn (.func g) (vals σ cap).toArray) ((vals σ first).toArray ++ #[.func (.yield l) #[] #[]])).run P w1 = .ok (.enter g (vals σ first ++ .func (.yield l) #[] #[] :: vals σ cap).toArray) w1 := by
    intro g4 l w1 dd
    obtain ⟨fn, hfn, hb, hname⟩ : ∃ fn, P.funcs[g]? = some fn ∧ fn.body.isSome = true ∧ (fn.name == "runtime.NumGoroutine") = false := by
      unfold okF at g4
      cases hfn : P.funcs[g]? with
      | none => rw [hfn] at g4; cases g4
      | some fn =>
        rw [hfn] at g4
        obtain ⟨a1, a2⟩ := and_true' g4
        exact ⟨fn, rfl, a1, by simpa using a2⟩
    have hbn : ¬ fn.body = none := by cases hq : fn.body <;> simp [hq] at hb ⊢
    have hname' : ¬ fn.name = "runtime.NumGoroutine" := by simpa using hname
    refine ⟨?_, fun f' _ => trivial, by simp [invoke, callFunc, hfn, hname', hbn]⟩
    have hc : A.eval (.const (.func (.yield l) #[] #[])) = .func (.yield l) #[] #[] := rfl
    simp [resolve, e2, val, Deferred.ofValue, hc]
  cases rd with
  | none =>
    obtain ⟨W, hW⟩ : ∃ W, W = w.alloc (.deferred (some [])) := ⟨_, rfl⟩
    have hE : Ext h.next σ (σ.add h.next w.heap.size 0 0) := σ.add_ext _ _ _ _
    have hR1 : HR P B w0 (σ.add h.next w.heap.size 0 0) (h.new .mark) W := by rw [hW]; exact hR.new hE (by simp) rfl
    have hsz : W.heap.size = w.heap.size + 1 := by rw [hW]; simp
    have hM1 : MR P (σ.add h.next w.heap.size 0 0) (h.new .mark).next (.m h.next :: ms) ({ target := .collected w.heap.size, args := #[] } :: A.defers) := by
      have := hM.ext (n' := (h.new .mark).next) hE (Nat.le_succ _)
      refine ⟨by simp [this.1, mkR], fun i hi => ?_⟩
      rcases List.mem_cons.1 hi with rfl | hi
      · exact Nat.lt_succ_self _
      · exact this.2 i hi
    have := rangeGo_s (A := { A with defers := { target := .collected w.heap.size, args := #[] } :: A.defers }) (rd := none) (n := n) (Q := Q)
      (L := { state := .ready, pending := none, fn, tmps := A.tmps, params, assign, body, defers := w.heap.size }) hC hR1 (hT.ext hE (Nat.le_succ _)) hM1 (oks_mono (Nat.le_succ _) _ e3.1) (oks_mono (Nat.le_succ _) _ e3.2) e1 rfl rfl rfl rfl rfl rfl (fun _ h => by cases h)
      (cx_trans hQ (by simp) (Nat.le_succ _) hE)
    rw [vals_ext hE _ e3.1, vals_ext hE _ e3.2] at this
    obtain ⟨t1, t2⟩ := this
    obtain ⟨r1, r2, r3⟩ := hfin t1 W.heap.size (W.alloc (.loop { state := .ready, pending := none, fn, tmps := A.tmps, params, assign, body, defers := w.heap.size })) []
    refine ⟨W.heap.size, [{ target := .collected w.heap.size, args := #[] }], _, _, _, g, _, _, ?_, r1, r2, r3, fun h => (by cases h), t2 _⟩
    rw [hsz, hW]
    exact run_enterLoop_outer _ _ _ _ _
  | some l0 =>
    obtain ⟨c1, e4⟩ := iff_ok e1
    have ⟨L0, hL0⟩ : ∃ L0, w.heap[σ.blk l0]? = some (.loop L0) := by
      unfold isLoop at c1
      cases hg : h.get l0 with
      | none => rw [hg] at c1; cases c1
      | some b =>
        rw [hg] at c1
        cases b <;> try (cases c1; done)
        obtain ⟨o, ho, L', rfl, _⟩ := hR.blk _ _ hg (by simp)
        exact ⟨L', ho⟩
    have := rangeGo_s (A := A) (rd := some l0) (n := n) (Q := Q)
      (L := { state := .ready, pending := none, fn, tmps := A.tmps, params, assign, body, defers := L0.defers }) hC hR hT hM e3.1 e3.2 e4 rfl rfl rfl rfl rfl rfl hrd hQ
    obtain ⟨t1, t2⟩ := this
    obtain ⟨r1, r2, r3⟩ := hfin t1 w.heap.size (w.alloc (.loop { state := .ready, pending := none, fn, tmps := A.tmps, params, assign, body, defers := L0.defers })) []
    refine ⟨w.heap.size, [], _, _, _, g, _, _, ?_, r1, r2, r3, fun h => (by cases h), t2 _⟩
    show (Instr.enterLoop fn A.tmps params assign body (some (σ.blk l0))).run P w = _
    unfold Instr.enterLoop
    simp only [Sem.run_bind, run_getLoop hL0, run_newObj_alloc, Result.andThen, Sem.run_pure]
theorem cC_s (lf : Nat) : ∀ (c : Code), BoxS P N c (cC P lf N c)
  | .skip => fun g hg => by cases hg; exact codeS_simple fun F n Q a w h => wpIn_skip h
  | .label l => fun g hg => by cases hg; exact codeS_simple fun F n Q a w h => wpIn_label h
  | .exit id => fun g hg => by cases hg; exact codeS_simple fun F n Q a w h => wpIn_exit h
  | .ret => fun g hg => by cases hg; exact codeS_simple fun F n Q a w h => wpIn_ret h
  | .seq a b => fun g hg => by cases hg; exact cSeq_s (cC_s lf a) (cC_s lf b)
  | .cond c a b => fun g hg => by cases hg; exact cCond_s (cC_s lf a) (cC_s lf b)
  | .block id a => fun g hg => by cases hg; exact cBlock_s (cC_s lf a)
  | .loop a => fun g hg => by cases hg; exact cLoop_s (cC_s lf a) lf
  | .scope a => cScope_s (cC_s lf a)
  | .region id ops draw => fun g hg => by
    cases draw with
    | false => exact cReg_s g hg
    | true => exact cDraw_s g hg
  | .rangeFunc f ps a b => fun g hg => by cases hg; exact cRange_s
  | .goto l => fun g hg => by cases hg; exact codeS_no
  | .refuse s => fun g hg => by cases hg; exact codeS_no
end Go.Ev

/-  -/
set_option linter.unusedVariables false
namespace Go.Ev
open Go.RowKit
variable {P : Program} {N : Nat}
theorem getP_z3 (t : Nat) : getP t z3 = none := by
  unfold getP
  have h3 : ∀ p, (b3 p).g z3 = z2 := fun p => by cases p <;> rfl
  have h2 : ∀ p, (b2 p).g z2 = z1 := fun p => by cases p <;> rfl
  have h1 : ∀ p, (b1 p).g z1 = none := fun p => by cases p <;> rfl
  rw [h3, h2, h1]
def TP (σ : Ren) (n N : Nat) (ts : T3) (tmps : Array Value) : Prop := ∀ t v, t + 1 ≤ N → t ≤ 215 → getP t ts = some v → tmps[t]? = some (val σ v) ∧ v.ok n
theorem setA_s {σ : Ren} {n : Nat} {T : Array Value} {k : T3 → Ro} {v : FV} {hf : FH} : ∀ (l : List FV) (i : Nat) (ts : T3), TP σ n N ts T → oks n l → (∀ j u, l[j]? = some u → T[i + j]? = some (val σ u)) → setA N l i ts k = .ok v hf →
    ∃ ts', k ts' = .ok v hf ∧ TP σ n N ts' T ∧ (l = [] ∨ i + l.length ≤ N)
  | [], i, ts, hT, _, _, h => ⟨ts, h, hT, .inl rfl⟩
  | u :: l, i, ts, hT, ho, hA, h => by
    have h' : @PB.rec (fun _ => Ro) (fun _ s => setA N l (i + 1) (s (some u) ts) k) .no (cP N i) = .ok v hf := h
    rw [cP_eq] at h'
    by_cases hc : i + 1 ≤ N ∧ i ≤ 215
    · rw [if_pos hc] at h'
      have hT' : TP σ n N (setP i (some u) ts) T := fun t x h1 h2 h3 => by
        by_cases ht : t = i
        · subst ht
          rw [getP_same] at h3; cases h3
          exact ⟨by simpa using hA 0 u rfl, ho.1⟩
        · rw [getP_other h2 hc.2 ht] at h3
          exact hT t x h1 h2 h3
      obtain ⟨ts', a1, a2, a3⟩ := setA_s l (i + 1) _ hT' ho.2 (fun j x hj => by have := hA (j + 1) x (by simpa using hj); rw [← this]; congr 1; omega) h'
      exact ⟨ts', a1, a2, .inr (by rcases a3 with rfl | a3 <;> simp <;> omega)⟩
    · rw [if_neg hc] at h'; cases h'
theorem setPs_s {σ : Ren} {n : Nat} : ∀ (ps : List Tmp) (vs : List FV) (ts ts' : T3) (T : Array Value), TR σ n N ts T → oks n vs → setPs N ps vs ts = some ts' →
    TR σ n N ts' ((ps.zip (vals σ vs)).foldl (fun tmps x => tmps.setIfInBounds x.1 x.2) T) ∧ ps.length = vs.length
  | [], vs, ts, ts', T, hT, ho, h => by
    cases vs with
    | nil => simp only [setPs, Option.some.injEq] at h; subst h; exact ⟨hT, rfl⟩
    | cons v vs => simp [setPs] at h
  | p :: ps, vs, ts, ts', T, hT, ho, h => by
    cases vs with
    | nil => simp [setPs] at h
    | cons u vs =>
      simp only [setPs] at h
      cases hp : cP N p with
      | no => rw [hp] at h; cases h
      | mk g s =>
        rw [hp] at h
        simp only at h
        have := TR.put (a := { tmps := T, defers := [] }) hT (d := some p) (s := s) (by simp only [cD, hp]) ho.1
        obtain ⟨a1, a2⟩ := setPs_s ps vs _ ts' _ this ho.2 h
        exact ⟨a1, by simp [a2]⟩
theorem endM_s {fn : Func} {T : Array Value} {R : Ending → World → Prop} {n : Nat} {B : Nat} {w0 : World} {call : CallT} (hC : CallS P call) {k : FH → Ro} {v : FV} {hf : FH} : ∀ (ms : List Mk) (σ : Ren) (h : FH) (w : World), HR P B w0 σ h w → (∀ x ∈ ms, x.ok P h.next) → endM call ms h k = .ok v hf →
    (∀ σ' h' w', k h' = .ok v hf → h'.ro = h.ro → h.next ≤ h'.next → Ext h.next σ σ' → HR P B w0 σ' h' w' → LeavesInM (FW none) n P fn T R [] .returning w') →
    LeavesInM (FW none) n P fn T R (ms.map (mkR σ)) .returning w
  | [], σ, h, w, hR, _, he, hk => hk σ h w he rfl (Nat.le_refl _) (Ext.refl _ _) hR
  | .m i :: ms, σ, h, w, hR, ho, he, hk => by
    have he' : (match h.get i with | some .mark => iff' (Nat.ble h.ro i) (endM call ms (h.put i .dead) k) | _ => .no) = .ok v hf := he
    cases hg : h.get i with
    | none => rw [hg] at he'; cases he'
    | some b =>
      rw [hg] at he'
      cases b <;> try (cases he'; done)
      obtain ⟨c1, e1⟩ := iff_ok he'
      obtain ⟨o, ho', rfl⟩ := hR.blk i _ hg (by simp)
      refine ⟨by simp, .inl ⟨σ.blk i, _, rfl, run_takeDeferred ho', ?_⟩⟩
      exact endM_s hC ms σ _ _ (hR.put (b := .dead) hg (by simp [Wr]) (ble c1) (upd_putObj ho') trivial) (fun x hx => ho x (List.mem_cons_of_mem _ hx)) e1 fun σ' h' w' a1 a2 a3 a4 a5 => hk σ' h' w' a1 a2 a3 a4 a5
  | .d f args cap :: ms, σ, h, w, hR, ho, he, hk => by
    have he' : call (.df f) (args ++ cap) h (fun _ h' => endM call ms h' k) = .ok v hf := he
    have hx := ho _ List.mem_cons_self
    have hok : oks h.next (args ++ cap) := oks_iff.2 fun v hv => by
      rcases List.mem_append.1 hv with hv | hv
      · exact oks_iff.1 hx.2.1 v hv
      · exact oks_iff.1 hx.2.2 v hv
    obtain ⟨g4, hc⟩ := hC (.df f) (args ++ cap) _ v hf hR hok he'
    obtain ⟨fn', hfn, hb, hname⟩ : ∃ fn, P.funcs[f]? = some fn ∧ fn.body.isSome = true ∧ (fn.name == "runtime.NumGoroutine") = false := by
      unfold okF at g4
      cases hfn : P.funcs[f]? with
      | none => rw [hfn] at g4; cases g4
      | some fn =>
        rw [hfn] at g4
        obtain ⟨a1, a2⟩ := and_true' g4
        exact ⟨fn, rfl, a1, by simpa using a2⟩
    have hbn : ¬ fn'.body = none := by cases hq : fn'.body <;> simp [hq] at hb ⊢
    have hname' : ¬ fn'.name = "runtime.NumGoroutine" := by simpa using hname
    refine ⟨by simp, .inr ⟨fun h => (by cases h), .func f, (vals σ cap).toArray, f, (vals σ (args ++ cap)).toArray, rfl, ?_, fun g _ => trivial, ?_⟩⟩
    · simp [mkR, invoke, callFunc, hfn, hname', hbn, vals_eq]
    · refine CallsDIn.mono (hc (n - 1) .returning) fun e u' w' hq => ?_
      obtain ⟨rfl, u, h1, σ', z1, z2, z3, z4, z5, z6, rfl⟩ := hq
      have hms : ms.map (mkR σ) = ms.map (mkR σ') := List.map_congr_left fun x hx => by
        have := ho x (List.mem_cons_of_mem _ hx)
        cases x with
        | m i => simp only [mkR, z4.blk i this]
        | d f args cap => simp only [mkR, vals_ext z4 _ this.2.1, vals_ext z4 _ this.2.2]
      rw [hms]
      refine endM_s hC ms σ' h1 w' z5 (fun x hx => ?_) z1 fun σ'' h' w'' a1 a2 a3 a4 a5 => hk σ'' h' w'' a1 (a2.trans z2) (Nat.le_trans z3 a3) (z4.trans a4 z3) a5
      have := ho x (List.mem_cons_of_mem _ hx)
      cases x with
      | m i => exact Nat.lt_of_lt_of_le this z3
      | d f args cap => exact ⟨this.1, oks_mono z3 _ this.2.1, oks_mono z3 _ this.2.2⟩
theorem fLoad_pure {t : TypeId} {n : Nat} {b : Bool} {B : Nat} {w0 : World} {σ : Ren} {h : FH} {w : World} {x : FV} {k : KV} {v : FV} {hf : FH} (h1 : sizeT P t = some n) (h2 : aggT P t = some b) (hR : HR P B w0 σ h w) (he : fLoad b n x h k = .ok v hf) :
    ∃ u a, k u h = .ok v hf ∧ u.ok h.next ∧ val σ x = .pointer (some a) ∧ (loadVar t a).run P w = .ok (val σ u) w := by
  cases b with
  | true =>
    obtain ⟨i, off, rfl, e⟩ := asPtr_ok he
    obtain ⟨u, g, m, cs, hi, e⟩ := cells_ok' e
    obtain ⟨hm, e⟩ := iff_ok e
    obtain ⟨l, hl, e⟩ := opt_ok e
    obtain ⟨r1, r2, r3⟩ := hR.loadCells hi (ble hm) hl
    refine ⟨.agg l, _, e, ?_, rfl, ?_⟩
    · simp only [FV.ok, List.all_eq_true]
      exact ⟨oks_iff.2 fun v hv => (r2 v hv).1, fun v hv => (r2 v hv).2⟩
    · simp [loadVar, val, run_aggT h2, run_sizeT h1, r1]
  | false =>
    obtain ⟨i, off, rfl, e⟩ := asPtr_ok he
    obtain ⟨u, g, m, cs, hi, e⟩ := cells_ok' e
    obtain ⟨hm, e⟩ := iff_ok e
    obtain ⟨l, hl, e⟩ := opt_ok e
    obtain ⟨o, ho, c, fr, rfl, h2', h3, h4, h5⟩ := hR.blk i _ hi (by simp)
    obtain ⟨a1, a2, a3⟩ := h5 off l (by have := ble hm; omega) hl
    refine ⟨l, _, e, a2, rfl, ?_⟩
    have hc : w.cell? ⟨σ.blk i, σ.base i + off, none⟩ = some (val σ l) := by rw [cell_of_row w _ _ c u fr ho]; exact a1
    simp [loadVar, run_aggT h2, hc]
def resF (T : Array Value) : ResultVar → Sem Value
  | .tmp t => pure (T.getD t undef)
  | .cell a t => do loadVar t (← asAddr (T.getD a undef))
theorem resV_s {B : Nat} {w0 : World} {σ : Ren} {h : FH} {w : World} {ts : T3} {A : Act} (hR : HR P B w0 σ h w) (hT : TR σ h.next N ts A.tmps) : ∀ (rs : List ResultVar) {k : List FV → Ro} {v : FV} {hf : FH}, resV P N ts h rs k = .ok v hf →
    ∃ us, k us = .ok v hf ∧ oks h.next us ∧ (rs.mapM (resF A.tmps)).run P w = .ok (vals σ us) w
  | [], k, v, hf, he => ⟨[], he, trivial, by simp [vals]⟩
  | .tmp t :: rs, k, v, hf, he => by
    obtain ⟨u, e1, e2, e3⟩ := ev_sound hT he
    obtain ⟨us, f1, f2, f3⟩ := resV_s hR hT rs e1
    have e2' : A.tmps.getD t undef = val σ u := e2
    refine ⟨u :: us, f1, ⟨e3, f2⟩, ?_⟩
    simp [List.mapM_cons, resF, Sem.run_bind, e2', f3, vals]
  | .cell a t :: rs, k, v, hf, he => by
    obtain ⟨p, e1, e2, e3⟩ := ev_sound hT he
    obtain ⟨n, hn, e4⟩ := opt_ok e1
    obtain ⟨b, hb, e5⟩ := opt_ok e4
    obtain ⟨u, ad, g1, g2, g3, g4⟩ := fLoad_pure hn hb hR e5
    obtain ⟨us, f1, f2, f3⟩ := resV_s hR hT rs g1
    have e2' : A.tmps.getD a undef = .pointer (some ad) := e2.trans g3
    refine ⟨u :: us, f1, ⟨g2, f2⟩, ?_⟩
    simp [List.mapM_cons, resF, Sem.run_bind, e2', g4, f3, vals, asAddr]
theorem results_s {fn : Func} {T : Array Value} {w : World} {l : List Value} (h : (fn.results.toList.mapM (resF T)).run P w = .ok l w) :
    (results fn T).run P w = .ok (match l with | [v] => v | _ => .tuple l.toArray) w := by
  have e : fn.results.mapM (resF T) = List.toArray <$> fn.results.toList.mapM (resF T) := by
    rw [Array.mapM_eq_mapM_toList]
  have h' : (fn.results.mapM (resF T)).run P w = .ok l.toArray w := by rw [e]; simp [h]
  have e2 : results fn T = (do let vs ← fn.results.mapM (resF T); pure (if h : vs.size = 1 then vs[0] else .tuple vs)) := rfl
  rw [e2]
  simp only [Sem.run_bind, h', Result.andThen, Sem.run_pure]
  match l with
  | [] => simp
  | [v] => simp
  | a :: b :: l => simp
def SumS (P : Program) (f : FuncId) (s : HL) : Prop :=
  ∀ ⦃B : Nat⦄ ⦃w0 : World⦄ ⦃σ : Ren⦄ ⦃h : FH⦄ ⦃w : World⦄ (args : List FV) (k : KV) (v : FV) (hf : FH), HR P B w0 σ h w → oks h.next args → s args h k = .ok v hf → Calls P f (vals σ args).toArray w (Ret P B w0 σ h k v hf)
theorem enter_s {fn : Func} {σ : Ren} {n : Nat} {args : List FV} {k : T3 → Ro} {v : FV} {hf : FH} (ho : oks n args) (he : setA fn.ntmps args 0 z3 k = .ok v hf) :
    ∃ ts, k ts = .ok v hf ∧ TR σ n fn.ntmps ts ((vals σ args).toArray ++ Array.replicate (fn.ntmps - (vals σ args).toArray.size) undef) := by
  have hlen : (vals σ args).toArray.size = args.length := by simp [vals_eq]
  obtain ⟨ts, e1, e2, e3⟩ := setA_s (σ := σ) (n := n) (T := (vals σ args).toArray ++ Array.replicate (fn.ntmps - (vals σ args).toArray.size) undef) args 0 z3
    (fun t v _ _ h3 => by rw [getP_z3] at h3; cases h3) ho (fun j u hj => by
      have hlt : j < args.length := (List.getElem?_eq_some_iff.1 hj).1
      rw [Nat.zero_add, Array.getElem?_append_left (by rw [hlen]; exact hlt)]
      simp [vals_eq, hj]) he
  refine ⟨ts, e1, ?_, e2⟩
  rw [Array.size_append, Array.size_replicate, hlen]
  rcases e3 with rfl | e3
  · simp
  · omega
theorem resK_s {B : Nat} {w0 : World} {σ : Ren} {h : FH} {w : World} {fn : Func} {ts : T3} {A : Act} (hR : HR P B w0 σ h w) (hT : TR σ h.next fn.ntmps ts A.tmps) {k : KV} {v : FV} {hf : FH} (he : resK P fn.ntmps fn.results.toList ts k h = .ok v hf) :
    ∃ v', (results fn A.tmps).run P w = .ok v' w ∧ Ret P B w0 σ h k v hf (.returned v') w := by
  obtain ⟨us, f1, f2, f3⟩ := resV_s hR hT fn.results.toList he
  refine ⟨_, results_s f3, ?_⟩
  match us, f1, f2 with
  | [], f1, f2 => exact ⟨.tup [], h, σ, f1, rfl, Nat.le_refl _, Ext.refl _ _, hR, trivial, rfl⟩
  | [u], f1, f2 => exact ⟨u, h, σ, f1, rfl, Nat.le_refl _, Ext.refl _ _, hR, f2.1, rfl⟩
  | a :: b :: l, f1, f2 => exact ⟨.tup (a :: b :: l), h, σ, f1, rfl, Nat.le_refl _, Ext.refl _ _, hR, f2, rfl⟩
theorem runF_s {lf : Nat} {call : CallT} (hC : CallS P call) {f : FuncId} {B : Nat} {w0 : World} {σ : Ren} {h : FH} {w : World} {args : List FV} {k : KV} {v : FV} {hf : FH} (hR : HR P B w0 σ h w) (ho : oks h.next args) (he : runF P lf call f args h k = .ok v hf) :
    Calls P f (vals σ args).toArray w (Ret P B w0 σ h k v hf) := by
  unfold runF cF at he
  cases hf' : P.funcs[f]? with
  | none => simp only [hf'] at he; cases he
  | some fn =>
    simp only [hf'] at he
    cases hb : fn.body with
    | none => simp only [hb] at he; cases he
    | some c =>
      simp only [hb] at he
      obtain ⟨g, hg⟩ : ∃ g, cC P lf fn.ntmps c = .mk g := by cases hx : cC P lf fn.ntmps c with | mk g => exact ⟨g, rfl⟩
      simp only [hg] at he
      obtain ⟨ts, e1, hT⟩ := enter_s (fn := fn) ho he
      refine (callsIn_wide (n := 0)).1 ?_
      refine callsIn_of_wp_marks (F := FW none) hf' hb trivial ?_
      refine cC_s lf c g hg call hC none [] _ v hf hR hT ⟨rfl, fun i hi => by cases hi⟩ (fun l hl => by cases hl) e1 0 _ ?_
      intro e ts' h' ms' σ' a' w' g1 g2 g3 g4 g5 g6 g7
      have main : endM call ms' h' (resK P fn.ntmps fn.results.toList ts' k) = .ok v hf → LeavesInM (FW none) 0 P fn a'.tmps (Ret P B w0 σ h k v hf) a'.defers .returning w' := by
        intro hm
        rw [g7.1]
        refine endM_s hC ms' σ' h' w' g5 g7.2 hm fun σ'' h'' w'' q1 q2 q3 q4 q5 => ?_
        obtain ⟨v', y1, y2⟩ := resK_s q5 (g6.ext q4 q3) q1
        exact ⟨v', y1, y2.imp fun u hu => hu.imp fun h1 hh => hh.imp fun σ3 hh => ⟨hh.1, hh.2.1.trans (q2.trans g2), Nat.le_trans g3 (Nat.le_trans q3 hh.2.2.1), (g4.trans q4 g3).trans hh.2.2.2.1 (Nat.le_trans g3 q3), hh.2.2.2.2⟩⟩
      cases e with
      | normal => exact main g1
      | exit id => cases g1
      | ret => exact main g1
theorem runD_s {lf : Nat} {call : CallT} (hC : CallS P call) {f : FuncId} {B : Nat} {w0 : World} {σ : Ren} {h : FH} {w : World} {args : List FV} {k : KV} {v : FV} {hf : FH} (hR : HR P B w0 σ h w) (ho : oks h.next args) (he : runD P lf call f args h k = .ok v hf) (n : Nat) (u : FrameMode) :
    CallsDIn (FW none) n P f (vals σ args).toArray u w fun e u' w' => u' = u ∧ Ret P B w0 σ h k v hf e w' := by
  unfold runD cF at he
  cases hf' : P.funcs[f]? with
  | none => simp only [hf'] at he; cases he
  | some fn =>
    simp only [hf'] at he
    cases hb : fn.body with
    | none => simp only [hb] at he; cases he
    | some c =>
      simp only [hb] at he
      obtain ⟨g, hg⟩ : ∃ g, cC P lf fn.ntmps c = .mk g := by cases hx : cC P lf fn.ntmps c with | mk g => exact ⟨g, rfl⟩
      simp only [hg] at he
      obtain ⟨ts, e1, hT⟩ := enter_s (fn := fn) ho he
      refine callsDIn_of_wp (F := FW none) hf' hb trivial ?_
      refine cC_s lf c g hg call hC none [] _ v hf hR hT ⟨rfl, fun i hi => by cases hi⟩ (fun l hl => by cases hl) e1 n _ ?_
      intro e ts' h' ms' σ' a' w' g1 g2 g3 g4 g5 g6 g7
      have main : (match ms' with | [] => resK P fn.ntmps fn.results.toList ts' k h' | _ => .no) = .ok v hf → a'.defers = [] ∧ ∃ v', (results fn a'.tmps).run P w' = .ok v' w' ∧ Ret P B w0 σ h k v hf (.returned v') w' := by
        intro hm
        cases ms' with
        | cons x l => cases hm
        | nil =>
          refine ⟨by rw [g7.1]; rfl, ?_⟩
          obtain ⟨v', y1, y2⟩ := resK_s g5 g6 hm
          exact ⟨v', y1, y2.imp fun u hu => hu.imp fun h1 hh => hh.imp fun σ3 hh => ⟨hh.1, hh.2.1.trans g2, Nat.le_trans g3 hh.2.2.1, g4.trans hh.2.2.2.1 g3, hh.2.2.2.2⟩⟩
      cases e with
      | normal => exact main g1
      | exit id => cases g1
      | ret => exact main g1
theorem yieldE_s {lf : Nat} {call : CallT} (hC : CallS P call) {l : Nat} {B : Nat} {w0 : World} {σ : Ren} {h : FH} {w : World} {args : List FV} {k : KV} {v : FV} {hf : FH} (hR : HR P B w0 σ h w) (ho : oks h.next args) (he : yieldE P lf call l args h k = .ok v hf) :
    ∃ f tmps a b, (Instr.yield (σ.blk l) (vals σ args).toArray).run P w = .ok (.round (σ.blk l) f tmps a b) w ∧ ∀ r n, RoundIn (FW r) n P (σ.blk l) f tmps a b w (Ret P B w0 σ h k v hf) := by
  unfold yieldE at he
  cases hg : h.get l with
  | none => rw [hg] at he; cases he
  | some b =>
    rw [hg] at he
    cases b <;> try (cases he; done)
    rename_i st pend N t0 ps assign body
    simp only at he
    obtain ⟨c1, e1⟩ := iff_ok he
    obtain ⟨ts', hp, e2⟩ := opt_ok e1
    have hl : l < h.next := hR.lt _ _ hg
    obtain ⟨o, hob, L, rfl, y1, y2, y3, y4, y5, y6⟩ := hR.blk _ _ hg (by simp)
    obtain ⟨s1, s2⟩ := setPs_s ps args t0 ts' L.tmps y6 ho hp
    refine ⟨L.fn, _, _, _, run_yield hob (by simp [y3, vals_eq, s2]), fun r n => ?_⟩
    refine roundIn_of_wpIn trivial ?_
    have hT : TR σ h.next N ts' ((L.params.zip (vals σ args).toArray).foldl (fun tmps x => tmps.setIfInBounds x.1 x.2) L.tmps) := by
      rw [y3]
      have : (ps.toArray.zip (vals σ args).toArray) = (ps.zip (vals σ args)).toArray := by simp
      rw [this]
      simpa using s1
    rw [y4, y5]
    have hrd : ∀ l0, some l = some l0 → l0 < h.next := fun l0 h0 => by cases h0; exact hl
    refine (cC_s lf assign).run call hC (some l) [] _ v hf hR hT ⟨rfl, fun i hi => by cases hi⟩ hrd e2 n _ ?_
    intro e ts1 h1 ms1 σ1 a1 w1 g1 g2 g3 g4 g5 g6 g7
    cases e <;> try (cases g1; done)
    simp only at g1
    cases hg1 : h1.get l with
    | none => rw [hg1] at g1; cases g1
    | some b1 =>
      rw [hg1] at g1
      cases b1 <;> try (cases g1; done)
      rename_i st1 pend1 N1 t1 ps1 as1 bo1
      simp only at g1
      obtain ⟨c2, e3⟩ := iff_ok g1
      have c2 := beq c2; subst c2
      obtain ⟨o1, ho1, L1, rfl, z1, z2, z3, z4, z5, z6⟩ := g5.blk _ _ hg1 (by simp)
      have hblk : σ1.blk l = σ.blk l := g4.blk _ hl
      rw [hblk] at ho1
      have hro1 : h1.ro ≤ l := by rw [g2]; exact ble c1
      have hR2 : HR P B w0 σ1 (h1.put l (.loop 1 pend1 N1 t1 ps1 as1 bo1)) (w1.putObj (σ.blk l) (.loop { L1 with state := .busy })) :=
        g5.put hg1 (by simp [Wr]) hro1 (by rw [hblk]; exact upd_putObj ho1) ⟨{ L1 with state := .busy }, rfl, rfl, z2, z3, z4, z5, z6⟩
      refine ⟨_, run_beginRound ho1 z1, ?_⟩
      have hrd1 : ∀ l0, some l = some l0 → l0 < (h1.put l (.loop 1 pend1 N1 t1 ps1 as1 bo1)).next := fun l0 h0 => by cases h0; exact Nat.lt_of_lt_of_le hl g3
      have hM2 : MR P σ1 (h1.put l (.loop 1 pend1 N1 t1 ps1 as1 bo1)).next ms1 a1.defers := g7
      have := (cC_s (P := P) (N := N) lf body).run call hC (some l) ms1 _ v hf hR2 g6 hM2 hrd1 e3 n (roundPost P (σ.blk l) (Ret P B w0 σ h k v hf)) (fun e ts2 h2 ms2 σ2 a2 w2 q1 q2 q3 q4 q5 q6 q7 => ?_)
      · simp only [rdR, Option.map, hblk] at this
        exact this
      cases hg2 : h2.get l with
      | none => simp only [hg2] at q1; cases q1
      | some b2 =>
        cases b2 <;> simp only [hg2] at q1 <;> try (cases q1; done)
        rename_i st2 pend2 N2 t2 ps2 as2 bo2
        obtain ⟨o2, ho2, L2, rfl, x1, x2, x3, x4, x5, x6⟩ := q5.blk _ _ hg2 (by simp)
        have hl1 : l < (h1.put l (.loop 1 pend1 N1 t1 ps1 as1 bo1)).next := Nat.lt_of_lt_of_le hl g3
        have hblk2 : σ2.blk l = σ.blk l := (q4.blk _ hl1).trans hblk
        rw [hblk2] at ho2
        have hro2 : h2.ro ≤ l := by rw [q2]; exact hro1
        have hE2 : Ext h.next σ σ2 := g4.trans q4 g3
        have hn2 : h.next ≤ h2.next := Nat.le_trans g3 q3
        have hro' : h2.ro = h.ro := q2.trans g2
        cases e with
        | normal =>
          have q1' : k (.bool true) (h2.put l (.loop 0 none N2 t2 ps2 as2 bo2)) = .ok v hf := q1
          exact ⟨_, _, run_endRound none ho2, .bool true, _, σ2, q1', hro', hn2, hE2,
            q5.put hg2 (by simp [Wr]) hro2 (by rw [hblk2]; exact upd_putObj ho2) ⟨{ L2 with state := .ready, pending := none }, rfl, rfl, rfl, x3, x4, x5, x6⟩, trivial, rfl⟩
        | exit id =>
          have q1' : k (.bool false) (h2.put l (.loop 2 (some (.exit id)) N2 t2 ps2 as2 bo2)) = .ok v hf := q1
          exact ⟨_, _, run_endRound (some (.exit id)) ho2, .bool false, _, σ2, q1', hro', hn2, hE2,
            q5.put hg2 (by simp [Wr]) hro2 (by rw [hblk2]; exact upd_putObj ho2) ⟨{ L2 with state := .done, pending := some (.exit id) }, rfl, rfl, rfl, x3, x4, x5, x6⟩, trivial, rfl⟩
        | ret =>
          have q1' : k (.bool false) (h2.put l (.loop 2 (some .ret) N2 t2 ps2 as2 bo2)) = .ok v hf := q1
          exact ⟨_, _, run_endRound (some .ret) ho2, .bool false, _, σ2, q1', hro', hn2, hE2,
            q5.put hg2 (by simp [Wr]) hro2 (by rw [hblk2]; exact upd_putObj ho2) ⟨{ L2 with state := .done, pending := some .ret }, rfl, rfl, rfl, x3, x4, x5, x6⟩, trivial, rfl⟩
theorem evF_s {sums : Sums} {lf : Nat} (hS : ∀ f s, sums f = some s → SumS P f s) : ∀ n, CallS P (evF P sums lf n)
  | 0 => fun B w0 σ h w c args k v hf hR ho he => by cases he
  | n + 1 => fun B w0 σ h w c args k v hf hR ho he => by
    cases c with
    | fn f =>
      have he' : iff' (okF P f) (@Option.rec HL (fun _ => Ro) (runF P lf (evF P sums lf n) f args h k) (fun s => s args h k) (sums f)) = .ok v hf := he
      obtain ⟨c1, e1⟩ := iff_ok he'
      refine ⟨c1, ?_⟩
      cases hs : sums f with
      | none => rw [hs] at e1; exact runF_s (evF_s hS n) hR ho e1
      | some s => rw [hs] at e1; exact hS f s hs args k v hf hR ho e1
    | yl l =>
      have he' : yieldE P lf (evF P sums lf n) l args h k = .ok v hf := he
      exact yieldE_s (evF_s hS n) hR ho he'
    | df f =>
      have he' : iff' (okF P f) (runD P lf (evF P sums lf n) f args h k) = .ok v hf := he
      obtain ⟨c1, e1⟩ := iff_ok he'
      exact ⟨c1, fun m u => runD_s (evF_s hS n) hR ho e1 m u⟩
end Go.Ev

/-  -/
set_option linter.unusedVariables false
namespace Go.Ev
/-! ### data: a value with the memory that it needs -/
inductive DTr where
  | v (x : FV)
  | agg (l : List DTr)
  | tup (l : List DTr)
  | sl (t : TypeId) (g m off len : Nat) (cx : Bool) (cap : Nat) (cs : List DTr)
def idf : FV → Bool
  | .int _ _ => true | .bool _ => true | .str _ => true | .nilp => true | .nils => true | .nilm => true | .nilf => true
  | .fn _ a b => (match a, b with | [], [] => true | _, _ => false)
  | _ => false
abbrev Ck := Nat → Nat → List Nat → Bool
mutual
noncomputable def mt (ck : Ck) (h : FH) : DTr → FV → List Nat → Option (List Nat)
  | .v c, x, S => bif idf c && beqV c x then some S else none
  | .agg l, x, S => (match x with | .agg xs => mts ck h l xs S | _ => none)
  | .tup l, x, S => (match x with | .tup xs => mts ck h l xs S | _ => none)
  | .sl t g m off len cx cap cs, x, S => (match x with
    | .slice i o l c d => (bif Nat.beq off o && (Nat.beq len l && (cx == c && Nat.beq cap d)) then (match h.get i with
        | some (.cells t' g' m' ks) => (bif Nat.beq t t' && (Nat.beq g g' && (Nat.beq m m' && Nat.beq cs.length m)) then (match mtc ck h cs ks 0 S with
            | some S' => bif ck g i S' then some (i :: S') else none
            | none => none) else none)
        | _ => none) else none)
    | _ => none)
noncomputable def mts (ck : Ck) (h : FH) : List DTr → List FV → List Nat → Option (List Nat)
  | [], xs, S => (match xs with | [] => some S | _ => none)
  | T :: r, xs, S => (match xs with
    | [] => none
    | x :: xs => (match mt ck h T x S with | some S' => mts ck h r xs S' | none => none))
noncomputable def mtc (ck : Ck) (h : FH) : List DTr → KT FV → Nat → List Nat → Option (List Nat)
  | [], _, _, S => some S
  | T :: r, ks, j, S => (match ks.get j j with
    | none => none
    | some x => (bif x.flat then (match mt ck h T x S with | some S' => mtc ck h r ks (j + 1) S' | none => none) else none))
end
mutual
noncomputable def lay (nw : FH → Blk → FH) : DTr → FH → FV × FH
  | .v c, h => (c, h)
  | .agg l, h => (match lays nw l h with | (xs, h') => (.agg xs, h'))
  | .tup l, h => (match lays nw l h with | (xs, h') => (.tup xs, h'))
  | .sl t g m off len cx cap cs, h => (match lays nw cs h with | (xs, h') => (.slice h'.next off len cx cap, nw h' (.cells t g m (KT.fill xs 0 .nil))))
noncomputable def lays (nw : FH → Blk → FH) : List DTr → FH → List FV × FH
  | [], h => ([], h)
  | T :: r, h => (match lay nw T h with | (x, h') => (match lays nw r h' with | (xs, h'') => (x :: xs, h'')))
end
noncomputable def ckIn : Ck := fun _ _ _ => true
noncomputable def ckOut (n0 : Nat) : Ck := fun g i S => Nat.ble g 1 && Nat.ble n0 i && S.all fun j => !Nat.beq i j
noncomputable def nwIn (h : FH) (b : Blk) : FH := ⟨h.t.set h.next h.next b, h.next + 1, h.ro + 1⟩
noncomputable def nwOut (h : FH) (b : Blk) : FH := ⟨h.t.set h.next h.next b, h.next + 1, h.ro⟩
noncomputable def gk (T : DTr) (n0 : Nat) : KV := fun v h => match mt (ckOut n0) h T v [] with | some _ => .ok (.tup []) h0 | none => .no
noncomputable def gsum (Ts : List DTr) (T : DTr) : HL := fun args h k => match mts ckIn h Ts args [] with
  | some _ => (match lay nwOut T h with | (y, h') => k y h')
  | none => .no
noncomputable def gcall (P : Program) (sums : Sums) (lf n : Nat) (f : FuncId) (Ts : List DTr) (T : DTr) : Bool :=
  match lays nwIn Ts h0 with | (xs, h) => isOk (evF P sums lf n (.fn f) xs h (gk T h.next))
end Go.Ev

/-  -/
set_option linter.unusedVariables false
set_option linter.unusedSectionVars false
namespace Go.Ev
open Go.RowKit
variable {P : Program}
/-! ### laying data beside data that is there -/
theorem idf_s {x : FV} (h : idf x = true) : (∀ σ τ, val σ x = val τ x) ∧ ∀ m n, x.ok m → x.ok n := by
  cases x
  case fn f a b =>
    cases a <;> cases b <;> first | exact ⟨fun _ _ => rfl, fun _ _ _ => ⟨trivial, trivial⟩⟩ | cases h
  all_goals first | exact ⟨fun _ _ => rfl, fun _ _ h => h⟩ | cases h
section
variable {B : Nat} {w0 w : World} {σ : Ren} {h : FH} (hR : HR P B w0 σ h w) {ck : Ck} {nw : FH → Blk → FH} {G : List Nat → Ren → FH → Prop}
  (hnx : ∀ h b, (nw h b).next = h.next + 1)
  (hstep : ∀ (S : List Nat) (τ τ' : Ren) (hn : FH) (i : Nat) (t : TypeId) (g m : Nat) (ks ks' : KT FV) (o : Obj), G S τ hn → h.get i = some (.cells t g m ks) → ck g i S = true → w.heap[σ.blk i]? = some o →
    BO P τ' (hn.next + 1) hn.next o (.cells t g m ks') → Ext hn.next τ τ' → τ'.blk hn.next = σ.blk i → G (i :: S) τ' (nw hn (.cells t g m ks')))
include hR hnx hstep
mutual
theorem lay_s : ∀ (T : DTr) (x y : FV) (S S' : List Nat) (τ : Ren) (hn hn' : FH), mt ck h T x S = some S' → x.ok h.next → G S τ hn → lay nw T hn = (y, hn') →
    ∃ τ', Ext hn.next τ τ' ∧ hn.next ≤ hn'.next ∧ G S' τ' hn' ∧ val τ' y = val σ x ∧ y.ok hn'.next ∧ y.flat = x.flat
  | .v c, x, y, S, S', τ, hn, hn', hm, hx, hG, hl => by
    simp only [mt] at hm
    simp only [lay, Prod.mk.injEq] at hl
    obtain ⟨rfl, rfl⟩ := hl
    have hmx := bif_some hm; clear hm; obtain ⟨c0, hm⟩ := hmx
    simp only [Option.some.injEq] at hm; subst hm
    obtain ⟨c1, c2⟩ := and_true' c0
    clear c0
    have := beqV_s _ _ c2; subst this
    exact ⟨τ, Ext.refl _ _, Nat.le_refl _, hG, (idf_s c1).1 _ _, (idf_s c1).2 _ _ hx, rfl⟩
  | .agg l, x, y, S, S', τ, hn, hn', hm, hx, hG, hl => by
    simp only [mt] at hm
    cases x <;> simp only at hm <;> try (cases hm; done)
    rename_i xs
    obtain ⟨ys, hn1, hl1⟩ : ∃ ys hn1, lays nw l hn = (ys, hn1) := ⟨_, _, rfl⟩
    simp only [lay, hl1, Prod.mk.injEq] at hl
    obtain ⟨rfl, rfl⟩ := hl
    obtain ⟨τ', a1, a2, a3, a4, a5, a6⟩ := lays_s l xs ys S S' τ hn hn1 hm hx.1 hG hl1
    refine ⟨τ', a1, a2, a3, by simp only [val, a4], ⟨a5, ?_⟩, rfl⟩
    have := hx.2
    simp only [List.all_eq_true] at this ⊢
    rw [← List.all_eq_true] at this ⊢
    rw [a6]; exact this
  | .tup l, x, y, S, S', τ, hn, hn', hm, hx, hG, hl => by
    simp only [mt] at hm
    cases x <;> simp only at hm <;> try (cases hm; done)
    rename_i xs
    obtain ⟨ys, hn1, hl1⟩ : ∃ ys hn1, lays nw l hn = (ys, hn1) := ⟨_, _, rfl⟩
    simp only [lay, hl1, Prod.mk.injEq] at hl
    obtain ⟨rfl, rfl⟩ := hl
    obtain ⟨τ', a1, a2, a3, a4, a5, a6⟩ := lays_s l xs ys S S' τ hn hn1 hm hx hG hl1
    exact ⟨τ', a1, a2, a3, by simp only [val, a4], a5, rfl⟩
  | .sl t g m off len cx cap cs, x, y, S, S', τ, hn, hn', hm, hx, hG, hl => by
    simp only [mt] at hm
    cases x <;> simp only at hm <;> try (cases hm; done)
    rename_i i o l c d
    have hmx := bif_some hm; clear hm; obtain ⟨c1, hm⟩ := hmx
    obtain ⟨e1, c1a⟩ := and_true' c1
    obtain ⟨e2, c1b⟩ := and_true' c1a
    obtain ⟨e3, e4⟩ := and_true' c1b
    clear c1 c1a c1b
    have e1' := beq e1; have e2' := beq e2; have e4' := beq e4
    have e3' : cx = c := by simpa using e3
    clear e1 e2 e3 e4
    subst e1' e2' e3' e4'
    cases hg : h.get i with
    | none => rw [hg] at hm; cases hm
    | some bl =>
      rw [hg] at hm
      cases bl <;> simp only at hm <;> try (cases hm; done)
      rename_i t' g' m' ks
      have hmx := bif_some hm; clear hm; obtain ⟨c2, hm⟩ := hmx
      obtain ⟨f1, c2a⟩ := and_true' c2
      obtain ⟨f2, c2b⟩ := and_true' c2a
      obtain ⟨f3, f4a⟩ := and_true' c2b
      clear c2 c2a c2b
      have f1' := beq f1; have f2' := beq f2; have f3' := beq f3; have f4 := beq f4a
      clear f1 f2 f3 f4a
      subst f1' f2' f3'
      cases hc : mtc ck h cs ks 0 S with
      | none => rw [hc] at hm; cases hm
      | some S1 =>
        rw [hc] at hm
        simp only at hm
        have hmx := bif_some hm; clear hm; obtain ⟨c3, hm⟩ := hmx
        simp only [Option.some.injEq] at hm; subst hm
        obtain ⟨ys, hn1, hl1⟩ : ∃ ys hn1, lays nw cs hn = (ys, hn1) := ⟨_, _, rfl⟩
        simp only [lay, hl1, Prod.mk.injEq] at hl
        obtain ⟨rfl, rfl⟩ := hl
        obtain ⟨ob, hob, cc, fr, rfl, h2, h3, h4, h5⟩ := hR.blk i _ hg (by simp)
        obtain ⟨τ', a1, a2, a3, a4⟩ := layc_s cs ks 0 ys S S1 τ hn hn1 hc (fun j z hj hz => by
          obtain ⟨_, z2, z3⟩ := h5 j z (by rw [← f4]; simpa using hj) hz
          exact z2) hG hl1
        have hE : Ext hn1.next τ' (τ'.add hn1.next (σ.blk i) (σ.base i) (σ.cap i)) := Ren.add_ext _ _ _ _ _
        refine ⟨τ'.add hn1.next (σ.blk i) (σ.base i) (σ.cap i), a1.trans hE a2, by rw [hnx]; omega, hstep S1 τ' _ hn1 i t g m ks _ _ a3 hg c3 hob ?_ hE (by simp), ?_, by rw [hnx]; simp [FV.ok], rfl⟩
        · refine ⟨cc, fr, rfl, by simpa using h2, h3, fun hg1 => by simpa using h4 hg1, fun j v hj hv => ?_⟩
          rcases KT.get_fill ys 0 .nil j v hv with ⟨_, a⟩ | a
          · simp only [Nat.sub_zero] at a
            obtain ⟨z, k1, k2, k3, k4⟩ := a4 j v a
            simp only [Nat.zero_add] at k1
            obtain ⟨y1, y2, y3⟩ := h5 j z hj k1
            refine ⟨?_, ok_mono (Nat.le_succ _) _ k3, by rw [k4]; exact y3⟩
            rw [Ren.add_base, val_ext hE v k3, k2]; exact y1
          · simp [KT.get_nil] at a
        · simp [val]
theorem lays_s : ∀ (Ts : List DTr) (xs ys : List FV) (S S' : List Nat) (τ : Ren) (hn hn' : FH), mts ck h Ts xs S = some S' → oks h.next xs → G S τ hn → lays nw Ts hn = (ys, hn') →
    ∃ τ', Ext hn.next τ τ' ∧ hn.next ≤ hn'.next ∧ G S' τ' hn' ∧ vals τ' ys = vals σ xs ∧ oks hn'.next ys ∧ ys.all FV.flat = xs.all FV.flat
  | [], xs, ys, S, S', τ, hn, hn', hm, hx, hG, hl => by
    cases xs with
    | nil =>
      simp only [mts, Option.some.injEq] at hm; subst hm
      simp only [lays, Prod.mk.injEq] at hl
      obtain ⟨rfl, rfl⟩ := hl
      exact ⟨τ, Ext.refl _ _, Nat.le_refl _, hG, rfl, trivial, rfl⟩
    | cons x xs => simp [mts] at hm
  | T :: r, xs, ys, S, S', τ, hn, hn', hm, hx, hG, hl => by
    cases xs with
    | nil => simp [mts] at hm
    | cons x xs =>
      simp only [mts] at hm
      cases h1 : mt ck h T x S with
      | none => rw [h1] at hm; cases hm
      | some S1 =>
        rw [h1] at hm
        simp only at hm
        obtain ⟨y, hn1, hl1⟩ : ∃ y hn1, lay nw T hn = (y, hn1) := ⟨_, _, rfl⟩
        obtain ⟨ys1, hn2, hl2⟩ : ∃ ys hn2, lays nw r hn1 = (ys, hn2) := ⟨_, _, rfl⟩
        simp only [lays, hl1, hl2, Prod.mk.injEq] at hl
        obtain ⟨rfl, rfl⟩ := hl
        obtain ⟨τ1, a1, a2, a3, a4, a5, a6⟩ := lay_s T x y S S1 τ hn hn1 h1 hx.1 hG hl1
        obtain ⟨τ2, b1, b2, b3, b4, b5, b6⟩ := lays_s r xs ys1 S1 S' τ1 hn1 hn2 hm hx.2 a3 hl2
        exact ⟨τ2, a1.trans b1 a2, Nat.le_trans a2 b2, b3, by simp only [vals, b4, val_ext b1 y a5, a4], ⟨ok_mono b2 _ a5, b5⟩, by simp only [List.all_cons, a6, b6]⟩
theorem layc_s : ∀ (Ts : List DTr) (ks : KT FV) (j0 : Nat) (ys : List FV) (S S' : List Nat) (τ : Ren) (hn hn' : FH), mtc ck h Ts ks j0 S = some S' → (∀ j z, j < j0 + Ts.length → ks.get j j = some z → z.ok h.next) → G S τ hn → lays nw Ts hn = (ys, hn') →
    ∃ τ', Ext hn.next τ τ' ∧ hn.next ≤ hn'.next ∧ G S' τ' hn' ∧ ∀ j v, ys[j]? = some v → ∃ z, ks.get (j0 + j) (j0 + j) = some z ∧ val τ' v = val σ z ∧ v.ok hn'.next ∧ v.flat = z.flat
  | [], ks, j0, ys, S, S', τ, hn, hn', hm, hx, hG, hl => by
    simp only [mtc, Option.some.injEq] at hm; subst hm
    simp only [lays, Prod.mk.injEq] at hl
    obtain ⟨rfl, rfl⟩ := hl
    exact ⟨τ, Ext.refl _ _, Nat.le_refl _, hG, fun j v hv => by simp at hv⟩
  | T :: r, ks, j0, ys, S, S', τ, hn, hn', hm, hx, hG, hl => by
    simp only [mtc] at hm
    cases hk : ks.get j0 j0 with
    | none => rw [hk] at hm; cases hm
    | some z =>
      rw [hk] at hm
      simp only at hm
      have hmx := bif_some hm; clear hm; obtain ⟨c1, hm⟩ := hmx
      cases h1 : mt ck h T z S with
      | none => rw [h1] at hm; cases hm
      | some S1 =>
        rw [h1] at hm
        simp only at hm
        obtain ⟨y, hn1, hl1⟩ : ∃ y hn1, lay nw T hn = (y, hn1) := ⟨_, _, rfl⟩
        obtain ⟨ys1, hn2, hl2⟩ : ∃ ys hn2, lays nw r hn1 = (ys, hn2) := ⟨_, _, rfl⟩
        simp only [lays, hl1, hl2, Prod.mk.injEq] at hl
        obtain ⟨rfl, rfl⟩ := hl
        obtain ⟨τ1, a1, a2, a3, a4, a5, a6⟩ := lay_s T z y S S1 τ hn hn1 h1 (hx j0 z (by simp) hk) hG hl1
        obtain ⟨τ2, b1, b2, b3, b4⟩ := layc_s r ks (j0 + 1) ys1 S1 S' τ1 hn1 hn2 hm (fun j z hj hz => hx j z (by simp only [List.length_cons]; omega) hz) a3 hl2
        refine ⟨τ2, a1.trans b1 a2, Nat.le_trans a2 b2, b3, fun j v hv => ?_⟩
        cases j with
        | zero =>
          simp only [List.getElem?_cons_zero, Option.some.injEq] at hv; subst hv
          exact ⟨z, by simpa using hk, by rw [val_ext b1 y a5, a4], ok_mono b2 _ a5, a6⟩
        | succ j =>
          simp only [List.getElem?_cons_succ] at hv
          obtain ⟨z', k1, k2⟩ := b4 j v hv
          exact ⟨z', by rw [show j0 + (j + 1) = j0 + 1 + j from by omega]; exact k1, k2⟩
end
end
end Go.Ev

/-  -/
set_option linter.unusedVariables false
namespace Go.Ev
open Go.RowKit
variable {P : Program}
/-! ### ground calls -/
theorem hr0 (P : Program) (σ : Ren) (w : World) : HR P w.heap.size w σ h0 w where
  below := Below.refl _ w
  hB := Nat.le_refl _
  hro := Nat.le_refl _
  lt := fun i b h => by cases h
  blk := fun i b h => by cases h
  own := fun i b h => by cases h
  old := fun i b h => by cases h
  sep := fun i j bi bj h => by cases h
def σ0 : Ren := ⟨fun _ => 0, fun _ => 0, fun _ => 0, fun _ => (⟨0, 0, none⟩, 0)⟩
theorem get_nwIn {h : FH} {j : Nat} {b b' : Blk} (hh : (nwIn h b).get j = some b') : (j = h.next ∧ b' = b) ∨ (j ≠ h.next ∧ h.get j = some b') := KT.get_set hh
theorem get_nwOut {h : FH} {j : Nat} {b b' : Blk} (hh : (nwOut h b).get j = some b') : (j = h.next ∧ b' = b) ∨ (j ≠ h.next ∧ h.get j = some b') := KT.get_set hh
theorem HR.newIn {w : World} {τ τ' : Ren} {hn : FH} (H : HR P w.heap.size w τ hn w) (hro : hn.ro = hn.next) {b : Blk} {o : Obj} (ho : w.heap[τ'.blk hn.next]? = some o) (hb : BO P τ' (hn.next + 1) hn.next o b) (he : Ext hn.next τ τ') :
    HR P w.heap.size w τ' (nwIn hn b) w where
  below := H.below
  hB := H.hB
  hro := by show hn.ro + 1 ≤ hn.next + 1; omega
  lt := fun i b' hi => by
    rcases get_nwIn hi with ⟨a, _⟩ | ⟨_, a⟩
    · subst a; exact Nat.lt_succ_self _
    · exact Nat.lt_succ_of_lt (H.lt i b' a)
  blk := fun i b' hi hd => by
    rcases get_nwIn hi with ⟨a, a'⟩ | ⟨_, a⟩
    · subst a; subst a'; exact ⟨o, ho, hb⟩
    · obtain ⟨o', ho', hbo'⟩ := H.blk i b' a hd
      have hlt := H.lt i b' a
      exact ⟨o', by rw [he.blk i hlt]; exact ho', hbo'.ext he hlt (Nat.le_succ _)⟩
  own := fun i b' hi hd hr => by
    exfalso
    have hr' : hn.ro + 1 ≤ i := hr
    rcases get_nwIn hi with ⟨a, _⟩ | ⟨_, a⟩
    · omega
    · have := H.lt i b' a; omega
  old := fun i b' hi hd hr => by
    rcases get_nwIn hi with ⟨a, _⟩ | ⟨_, a⟩
    · subst a; exact (Array.getElem?_eq_some_iff.1 ho).1
    · rw [he.blk i (H.lt i b' a)]; exact H.bound a hd
  sep := fun i j bi bj hi hj h1 h2 hw h3 h4 h5 => by
    exfalso
    have hr' : hn.ro + 1 ≤ i := h3
    rcases get_nwIn hi with ⟨a, _⟩ | ⟨_, a⟩
    · omega
    · have := H.lt i bi a; omega
theorem HR.later {B : Nat} {w0 w w' : World} {σ : Ren} {h : FH} (H : HR P B w0 σ h w) (hb : Below w.heap.size w w') : HR P B w0 σ h w' where
  below := H.below.trans (hb.mono H.hB)
  hB := Nat.le_trans H.hB hb.size
  hro := H.hro
  lt := H.lt
  blk := fun i b hi hd => by
    obtain ⟨o, ho, hbo⟩ := H.blk i b hi hd
    exact ⟨o, by rw [hb.block _ (H.bound hi hd)]; exact ho, hbo⟩
  own := H.own
  old := H.old
  sep := H.sep
theorem lays_in {B : Nat} {w0 w : World} {σ : Ren} {h : FH} (hR : HR P B w0 σ h w) {Ts : List DTr} {xs ys : List FV} {S' : List Nat} {hn : FH} (hm : mts ckIn h Ts xs [] = some S') (hx : oks h.next xs) (hl : lays nwIn Ts h0 = (ys, hn)) :
    ∃ τ, HR P w.heap.size w τ hn w ∧ hn.ro = hn.next ∧ vals τ ys = vals σ xs ∧ oks hn.next ys := by
  obtain ⟨τ, _, _, ⟨a1, a2⟩, a3, a4, _⟩ := lays_s hR (ck := ckIn) (nw := nwIn) (G := fun _ τ hn => HR P w.heap.size w τ hn w ∧ hn.ro = hn.next) (fun _ _ => rfl)
    (fun S τ τ' hn i t g m ks ks' o hG hi _ ho hb he hblk => ⟨hG.1.newIn hG.2 (by rw [hblk]; exact ho) hb he, by show hn.ro + 1 = hn.next + 1; rw [hG.2]⟩)
    Ts xs ys [] S' σ0 h0 hn hm hx ⟨hr0 P σ0 w, rfl⟩ hl
  exact ⟨τ, a1, a2, a3, a4⟩
structure Out (P : Program) (B : Nat) (w0 : World) (σ : Ren) (h : FH) (w : World) (σ1 : Ren) (h1 : FH) (w' : World) (n0 : Nat) (S : List Nat) (τ : Ren) (hx : FH) : Prop where
  hr : HR P B w0 τ hx w'
  ro : hx.ro = h.ro
  nx : h.next ≤ hx.next
  ext : Ext h.next σ τ
  old : ∀ j b, hx.get j = some b → b ≠ .dead → j < h.next → τ.blk j < w.heap.size
  new : ∀ j b, hx.get j = some b → b ≠ .dead → h.next ≤ j → ∃ z ∈ S, τ.blk j = σ1.blk z ∧ n0 ≤ z ∧ ∃ bz, h1.get z = some bz ∧ bz ≠ .dead
theorem Out.step {B : Nat} {w0 w w' : World} {σ σ1 τ τ' : Ren} {h h1 hx : FH} {n0 i : Nat} {S : List Nat} (hB : B ≤ w.heap.size) (H1 : HR P w.heap.size w σ1 h1 w') (hro : h1.ro = n0) (H : Out P B w0 σ h w σ1 h1 w' n0 S τ hx)
    {b : Blk} {t : TypeId} {g m : Nat} {ks : KT FV} {o : Obj} (hi : h1.get i = some (.cells t g m ks)) (hck : ckOut n0 g i S = true) (ho : w'.heap[σ1.blk i]? = some o) (hb : BO P τ' (hx.next + 1) hx.next o b) (he : Ext hx.next τ τ') (hblk : τ'.blk hx.next = σ1.blk i) :
    Out P B w0 σ h w σ1 h1 w' n0 (i :: S) τ' (nwOut hx b) := by
  obtain ⟨k0, k2⟩ := and_true' hck
  obtain ⟨kw, k1⟩ := and_true' k0
  have hbi : Wr (.cells t g m ks) := ble kw
  have k1 := ble k1
  have k2 : i ∉ S := fun hm => by
    have := List.all_eq_true.1 k2 i hm
    simp [Nat.beq_refl] at this
  have hown : w.heap.size ≤ σ1.blk i := H1.own i _ hi hbi (by rw [hro]; exact k1)
  have fresh : ∀ j bj, hx.get j = some bj → bj ≠ .dead → τ.blk j ≠ σ1.blk i := by
    intro j bj hj hd heq
    by_cases hjn : j < h.next
    · have := H.old j bj hj hd hjn; omega
    · obtain ⟨z, hz, e1, e2, bz, e3, e4⟩ := H.new j bj hj hd (by omega)
      have := H1.sep z i bz _ e3 hi e4 hbi.nd (.inr hbi) (by rw [hro]; exact e2) (by rw [hro]; exact k1) (by rw [← e1]; exact heq)
      subst this; exact k2 hz
  refine ⟨⟨H.hr.below, H.hr.hB, by have := H.hr.hro; show hx.ro ≤ hx.next + 1; omega, ?_, ?_, ?_, ?_, ?_⟩, H.ro, Nat.le_succ_of_le H.nx, H.ext.trans he H.nx, ?_, ?_⟩
  · intro j b' hj
    rcases get_nwOut hj with ⟨a, _⟩ | ⟨_, a⟩
    · subst a; exact Nat.lt_succ_self _
    · exact Nat.lt_succ_of_lt (H.hr.lt j b' a)
  · intro j b' hj hd
    rcases get_nwOut hj with ⟨a, a'⟩ | ⟨_, a⟩
    · subst a; subst a'; exact ⟨o, by rw [hblk]; exact ho, hb⟩
    · obtain ⟨o', ho', hbo'⟩ := H.hr.blk j b' a hd
      have hlt := H.hr.lt j b' a
      exact ⟨o', by rw [he.blk j hlt]; exact ho', hbo'.ext he hlt (Nat.le_succ _)⟩
  · intro j b' hj hd hr
    rcases get_nwOut hj with ⟨a, _⟩ | ⟨_, a⟩
    · subst a; rw [hblk]; omega
    · rw [he.blk j (H.hr.lt j b' a)]; exact H.hr.own j b' a hd hr
  · intro j b' hj hd hr
    have hr' : j < hx.ro := hr
    rcases get_nwOut hj with ⟨a, _⟩ | ⟨_, a⟩
    · have := H.hr.hro; omega
    · rw [he.blk j (H.hr.lt j b' a)]; exact H.hr.old j b' a hd hr
  · intro j k bj bk hj hk d1 d2 hw r1 r2 heq
    rcases get_nwOut hj with ⟨a, _⟩ | ⟨_, a⟩ <;> rcases get_nwOut hk with ⟨c, _⟩ | ⟨_, c⟩
    · rw [a, c]
    · rw [a, hblk, he.blk k (H.hr.lt k bk c)] at heq
      exact absurd heq.symm (fresh k bk c d2)
    · rw [c, hblk, he.blk j (H.hr.lt j bj a)] at heq
      exact absurd heq (fresh j bj a d1)
    · rw [he.blk j (H.hr.lt j bj a), he.blk k (H.hr.lt k bk c)] at heq
      exact H.hr.sep j k bj bk a c d1 d2 hw r1 r2 heq
  · intro j b' hj hd hlt
    rcases get_nwOut hj with ⟨a, _⟩ | ⟨_, a⟩
    · have := H.nx; omega
    · rw [he.blk j (H.hr.lt j b' a)]; exact H.old j b' a hd hlt
  · intro j b' hj hd hge
    rcases get_nwOut hj with ⟨a, _⟩ | ⟨_, a⟩
    · subst a; exact ⟨i, List.mem_cons_self, hblk, k1, _, hi, hbi.nd⟩
    · obtain ⟨z, hz, e⟩ := H.new j b' a hd hge
      exact ⟨z, List.mem_cons_of_mem _ hz, by rw [he.blk j (H.hr.lt j b' a)]; exact e.1, e.2⟩
theorem gsum_s {sums : Sums} {lf n : Nat} {f : FuncId} (hS : ∀ f s, sums f = some s → SumS P f s) {Ts : List DTr} {T : DTr} (he : gcall P sums lf n f Ts T = true) : SumS P f (gsum Ts T) := by
  intro B w0 σ h w args k v hf hR ho hk
  unfold gsum at hk
  cases hm : mts ckIn h Ts args [] with
  | none => rw [hm] at hk; cases hk
  | some S =>
    rw [hm] at hk
    simp only at hk
    obtain ⟨y, hy', hly⟩ : ∃ y hy', lay nwOut T h = (y, hy') := ⟨_, _, rfl⟩
    rw [hly] at hk
    simp only at hk
    obtain ⟨ys, hn, hl⟩ : ∃ ys hn, lays nwIn Ts h0 = (ys, hn) := ⟨_, _, rfl⟩
    unfold gcall at he
    rw [hl] at he
    simp only at he
    obtain ⟨τ, hτ, hro, hv, hok⟩ := lays_in hR hm ho hl
    cases hr : evF P sums lf n (.fn f) ys hn (gk T hn.next) with
    | no => rw [hr] at he; cases he
    | ok v1 hf1 =>
      have hc := (evF_s hS n (.fn f) ys (gk T hn.next) v1 hf1 hτ hok hr).2
      rw [hv] at hc
      refine Calls.mono hc fun e w' hq => ?_
      obtain ⟨u, h1, σ1, z1, z2, z3, z4, z5, z6, rfl⟩ := hq
      unfold gk at z1
      cases hm1 : mt (ckOut hn.next) h1 T u [] with
      | none => rw [hm1] at z1; cases z1
      | some S1 =>
        have hro1 : h1.ro = hn.next := z2.trans hro
        have hout : Out P B w0 σ h w σ1 h1 w' hn.next [] σ h :=
          ⟨hR.later z5.below, rfl, Nat.le_refl _, Ext.refl _ _, fun j b hj hd _ => hR.bound hj hd, fun j b hj hd hge => absurd (hR.lt j b hj) (by omega)⟩
        obtain ⟨τ', a1, a2, a3, a4, a5, a6⟩ := lay_s z5 (ck := ckOut hn.next) (nw := nwOut) (G := fun S τ hx => Out P B w0 σ h w σ1 h1 w' hn.next S τ hx) (fun _ _ => rfl)
          (fun S τ τ' hx i t g m ks ks' o hG hi hck ho hb he hblk => hG.step hR.hB z5 hro1 hi hck ho hb he hblk)
          T u y [] S1 σ h hy' hm1 z6 hout hly
        exact ⟨y, hy', τ', hk, a3.ro, a2, a1, a3.hr, a5, by rw [a4]⟩
def isT (r : Ro) : Bool := match r with | .ok (.bool b) _ => b | _ => false
theorem ground {sums : Sums} {lf n : Nat} {f : FuncId} (hS : ∀ f s, sums f = some s → SumS P f s) (he : isT (evF P sums lf n (.fn f) [] h0 Ro.ok) = true) (w : World) :
    Calls P f #[] w fun e w' => e = .returned (.bool true) ∧ Below w.heap.size w w' := by
  cases hr : evF P sums lf n (.fn f) [] h0 Ro.ok with
  | no => rw [hr] at he; cases he
  | ok v hf =>
    rw [hr] at he
    cases v <;> try (cases he; done)
    rename_i b
    have hb : b = true := he
    subst hb
    have := (evF_s hS n (.fn f) [] Ro.ok _ hf (hr0 P σ0 w) trivial hr).2
    refine Calls.mono this fun e w' hq => ?_
    obtain ⟨u, h1, σ', z1, z2, z3, z4, z5, z6, rfl⟩ := hq
    cases z1
    exact ⟨rfl, z5.below⟩
end Go.Ev

/-  -/
set_option linter.unusedVariables false
namespace Go.Ev
/-! ### calls whose arguments are data are remembered: the data are read in one form alone, so that a checker meets the same term again -/
noncomputable def fN (n : Nat) (k : Nat → Ro) : Ro := @Nat.rec (fun _ => Ro) (k Nat.zero) (fun m _ => k (Nat.succ m)) n
noncomputable def fI (n : Int) (k : Int → Ro) : Ro := @Int.rec (fun _ => Ro) (fun m => fN m fun m => k (.ofNat m)) (fun m => fN m fun m => k (.negSucc m)) n
noncomputable def fB (b : Bool) (k : Bool → Ro) : Ro := @Bool.rec (fun _ => Ro) (k false) (k true) b
noncomputable def fK (x : IntKind) (k : IntKind → Ro) : Ro := @IntKind.rec (fun _ => Ro) (k .i8) (k .i16) (k .i32) (k .i64) (k .u8) (k .u16) (k .u32) (k .u64) x
noncomputable def fS (l : List Nat) : (List Nat → Ro) → Ro := @List.rec Nat (fun _ => (List Nat → Ro) → Ro) (fun k => k []) (fun x _ ih k => fN x fun x => ih fun r => k (x :: r)) l
noncomputable def rdL (rd : FV → (DTr → Ro) → Ro) (l : List FV) : (List DTr → Ro) → Ro :=
  @List.rec FV (fun _ => (List DTr → Ro) → Ro) (fun k => k []) (fun x _ ih k => rd x fun T => ih fun r => k (T :: r)) l
noncomputable def rdC (rd : FV → (DTr → Ro) → Ro) (cs : KT FV) (bad : Ro) (n : Nat) : Nat → (List DTr → Ro) → Ro :=
  @Nat.rec (fun _ => Nat → (List DTr → Ro) → Ro) (fun _ k => k []) (fun _ ih j k => @Option.rec FV (fun _ => Ro) bad (fun x => rd x fun T => ih (Nat.succ j) fun r => k (T :: r)) (cs.get j j)) n
noncomputable def rdB (h : FH) (rd : FV → (DTr → Ro) → Ro) (bad : Ro) (i off len : Nat) (cx : Bool) (cap : Nat) (k : DTr → Ro) : Ro :=
  @Option.rec Blk (fun _ => Ro) bad (fun b => @Blk.rec (fun _ => Ro)
    (fun t g m cs => fN t fun t => fN g fun g => fN m fun m => fN off fun off => fN len fun len => fB cx fun cx => fN cap fun cap => rdC rd cs bad m 0 fun l => k (.sl t g m off len cx cap l))
    (fun _ _ => bad) (fun _ _ _ _ _ _ _ => bad) (fun _ _ => bad) bad bad b) (h.get i)
noncomputable def rdF (h : FH) (bad : Ro) (d : Nat) : FV → (DTr → Ro) → Ro := @Nat.rec (fun _ => FV → (DTr → Ro) → Ro) (fun _ _ => bad)
  (fun _ rd x k => @FV.rec (fun _ => Ro) (fun _ => PUnit)
    (fun kd n => fK kd fun kd => fI n fun n => k (.v (.int kd n)))
    (fun b => fB b fun b => k (.v (.bool b)))
    (fun s => fS s fun s => k (.v (.str s)))
    (fun _ _ => bad)
    (fun i off len cx cap => rdB h rd bad i off len cx cap k)
    (k (.v .nilp)) (k (.v .nils)) (fun _ _ _ _ _ => bad) (fun _ => bad) (k (.v .nilm)) (fun _ _ _ _ _ => bad) (fun _ => bad) (k (.v .nilf))
    (fun l _ => rdL rd l fun l => k (.agg l)) (fun l _ => rdL rd l fun l => k (.tup l)) ⟨⟩ (fun _ _ _ _ => ⟨⟩) x) d
noncomputable def rdA (h : FH) (bad : Ro) (l : List FV) : (List DTr → Ro) → Ro := rdL (rdF h bad 9) l
/-! ### data as values -/
noncomputable def nI (n : Nat) : FV := .int .i64 (.ofNat n)
mutual
noncomputable def encT : DTr → FV
  | .v x => .fn 0 [x] []
  | .agg l => .fn 1 (encTs l) []
  | .tup l => .fn 2 (encTs l) []
  | .sl t g m off len cx cap cs => .fn 3 [nI t, nI g, nI m, nI off, nI len, .bool cx, nI cap] (encTs cs)
noncomputable def encTs : List DTr → List FV
  | [] => []
  | T :: r => encT T :: encTs r
end
noncomputable def nO : FV → Nat | .int _ (.ofNat n) => n | _ => 0
noncomputable def bO : FV → Bool | .bool b => b | _ => false
noncomputable def decT : Nat → FV → DTr
  | 0, x => .v x
  | n + 1, x => match x with
    | .fn f a b => (match f with
      | 0 => .v (a.getD 0 .nilp)
      | 1 => .agg (a.map (decT n))
      | 2 => .tup (a.map (decT n))
      | _ => .sl (nO (a.getD 0 .nilp)) (nO (a.getD 1 .nilp)) (nO (a.getD 2 .nilp)) (nO (a.getD 3 .nilp)) (nO (a.getD 4 .nilp)) (bO (a.getD 5 .nilp)) (nO (a.getD 6 .nilp)) (b.map (decT n)))
    | x => .v x
noncomputable def mkK (n0 : Nat) (v : FV) (h : FH) (T : DTr) : Ro := @Option.rec (List Nat) (fun _ => Ro) .no (fun _ => .ok (encT T) h0) (mt (ckOut n0) h (decT 10 (encT T)) v [])
noncomputable def mk (n0 : Nat) : KV := fun v h => rdF h .no 9 v (mkK n0 v h)
noncomputable def solve (P : Program) (sums : Sums) (lf n : Nat) (f : FuncId) (Ts : List DTr) : Ro :=
  match lays nwIn Ts h0 with | (xs, h) => evF P sums lf n (.fn f) xs h (mk h.next)
noncomputable def msumY (k : KV) (y : FV × FH) : Ro := @Prod.rec FV FH (fun _ => Ro) k y
noncomputable def msumK (P : Program) (sums : Sums) (lf n : Nat) (f : FuncId) (args : List FV) (h : FH) (k : KV) (Ts : List DTr) : Ro :=
  @Option.rec (List Nat) (fun _ => Ro) (evF P sums lf n (.fn f) args h k)
    (fun _ => @Ro.rec (fun _ => Ro) (evF P sums lf n (.fn f) args h k) (fun e _ => msumY k (lay nwOut (decT 10 e) h)) (solve P sums lf n f Ts)) (mts ckIn h Ts args [])
noncomputable def msum (P : Program) (sums : Sums) (lf n : Nat) (f : FuncId) : HL := fun args h k => rdA h (evF P sums lf n (.fn f) args h k) args (msumK P sums lf n f args h k)
noncomputable def memo (P : Program) (base : Sums) (lf n : Nat) (l : List FuncId) : Sums := @List.rec FuncId (fun _ => Sums) base
  (fun g _ ih f => @Bool.rec (fun _ => Option HL) (ih f) (some (msum P ih lf n g)) (Nat.beq f g)) l
end Go.Ev

/-  -/
set_option linter.unusedVariables false
namespace Go.Ev
open Go.RowKit
variable {P : Program}
theorem fN_eq (n : Nat) (k : Nat → Ro) : fN n k = k n := by cases n <;> rfl
theorem fI_eq (n : Int) (k : Int → Ro) : fI n k = k n := by
  cases n with
  | ofNat m => exact fN_eq m (fun m => k (.ofNat m))
  | negSucc m => exact fN_eq m (fun m => k (.negSucc m))
theorem fB_eq (n : Bool) (k : Bool → Ro) : fB n k = k n := by cases n <;> rfl
theorem fK_eq (n : IntKind) (k : IntKind → Ro) : fK n k = k n := by cases n <;> rfl
theorem fS_eq : ∀ (l : List Nat) (k : List Nat → Ro), fS l k = k l
  | [], k => rfl
  | x :: l, k => by
    show fN x (fun x => fS l fun r => k (x :: r)) = _
    rw [fN_eq, fS_eq l]
def RdP (bad : Ro) (rd : FV → (DTr → Ro) → Ro) : Prop := ∀ x k, rd x k = bad ∨ ∃ T, rd x k = k T
theorem rdL_s {bad : Ro} {rd : FV → (DTr → Ro) → Ro} (hr : RdP bad rd) : ∀ (l : List FV) (k : List DTr → Ro), rdL rd l k = bad ∨ ∃ Ts, rdL rd l k = k Ts
  | [], k => .inr ⟨[], rfl⟩
  | x :: l, k => by
    show rd x (fun T => rdL rd l fun r => k (T :: r)) = bad ∨ ∃ Ts, rd x (fun T => rdL rd l fun r => k (T :: r)) = k Ts
    rcases hr x (fun T => rdL rd l fun r => k (T :: r)) with h | ⟨T, h⟩
    · exact .inl h
    · rw [h]
      rcases rdL_s hr l (fun r => k (T :: r)) with h | ⟨Ts, h⟩
      · exact .inl h
      · exact .inr ⟨_, h⟩
theorem rdC_s {bad : Ro} {rd : FV → (DTr → Ro) → Ro} (hr : RdP bad rd) (cs : KT FV) : ∀ (n j : Nat) (k : List DTr → Ro), rdC rd cs bad n j k = bad ∨ ∃ Ts, rdC rd cs bad n j k = k Ts
  | 0, j, k => .inr ⟨[], rfl⟩
  | n + 1, j, k => by
    have e : rdC rd cs bad (n + 1) j k = @Option.rec FV (fun _ => Ro) bad (fun x => rd x fun T => rdC rd cs bad n (Nat.succ j) fun r => k (T :: r)) (cs.get j j) := rfl
    rw [e]
    cases cs.get j j with
    | none => exact .inl rfl
    | some x =>
      show rd x (fun T => rdC rd cs bad n (Nat.succ j) fun r => k (T :: r)) = bad ∨ ∃ Ts, rd x (fun T => rdC rd cs bad n (Nat.succ j) fun r => k (T :: r)) = k Ts
      rcases hr x (fun T => rdC rd cs bad n (Nat.succ j) fun r => k (T :: r)) with h | ⟨T, h⟩
      · exact .inl h
      · rw [h]
        rcases rdC_s hr cs n (Nat.succ j) (fun r => k (T :: r)) with h | ⟨Ts, h⟩
        · exact .inl h
        · exact .inr ⟨_, h⟩
theorem rdF_s (h : FH) (bad : Ro) : ∀ d, RdP bad (rdF h bad d)
  | 0 => fun x k => .inl rfl
  | d + 1 => fun x k => by
    have hd := rdF_s h bad d
    cases x with
    | int kd n =>
      have e : rdF h bad (d + 1) (.int kd n) k = fK kd fun kd => fI n fun n => k (.v (.int kd n)) := rfl
      exact .inr ⟨_, by rw [e, fK_eq, fI_eq]⟩
    | bool b =>
      have e : rdF h bad (d + 1) (.bool b) k = fB b fun b => k (.v (.bool b)) := rfl
      exact .inr ⟨_, by rw [e, fB_eq]⟩
    | str s =>
      have e : rdF h bad (d + 1) (.str s) k = fS s fun s => k (.v (.str s)) := rfl
      exact .inr ⟨_, by rw [e, fS_eq]⟩
    | slice i off len cx cap =>
      have e : rdF h bad (d + 1) (.slice i off len cx cap) k = rdB h (rdF h bad d) bad i off len cx cap k := rfl
      rw [e]; unfold rdB
      cases h.get i with
      | none => exact .inl rfl
      | some b =>
        cases b with
        | cells t g m cs =>
          simp only [fN_eq, fB_eq]
          rcases rdC_s hd cs m 0 (fun l => k (.sl t g m off len cx cap l)) with h | ⟨Ts, h⟩
          · exact .inl h
          · exact .inr ⟨_, h⟩
        | _ => exact .inl rfl
    | agg l =>
      have e : rdF h bad (d + 1) (.agg l) k = rdL (rdF h bad d) l fun l => k (.agg l) := rfl
      rw [e]
      rcases rdL_s hd l (fun l => k (.agg l)) with h | ⟨Ts, h⟩
      · exact .inl h
      · exact .inr ⟨_, h⟩
    | tup l =>
      have e : rdF h bad (d + 1) (.tup l) k = rdL (rdF h bad d) l fun l => k (.tup l) := rfl
      rw [e]
      rcases rdL_s hd l (fun l => k (.tup l)) with h | ⟨Ts, h⟩
      · exact .inl h
      · exact .inr ⟨_, h⟩
    | nilp => exact .inr ⟨_, rfl⟩
    | nils => exact .inr ⟨_, rfl⟩
    | nilm => exact .inr ⟨_, rfl⟩
    | nilf => exact .inr ⟨_, rfl⟩
    | _ => exact .inl rfl
theorem rdA_s (h : FH) (bad : Ro) (l : List FV) (k : List DTr → Ro) : rdA h bad l k = bad ∨ ∃ Ts, rdA h bad l k = k Ts := rdL_s (rdF_s h bad 9) l k
theorem solve_s {sums : Sums} {lf n : Nat} {f : FuncId} (hS : ∀ f s, sums f = some s → SumS P f s) {Ts : List DTr} {e : FV} {hf : FH} (he : solve P sums lf n f Ts = .ok e hf) : SumS P f (gsum Ts (decT 10 e)) := by
  intro B w0 σ h w args k v hf' hR ho hk
  unfold gsum at hk
  cases hm : mts ckIn h Ts args [] with
  | none => rw [hm] at hk; cases hk
  | some S =>
    rw [hm] at hk
    simp only at hk
    obtain ⟨y, hy', hly⟩ : ∃ y hy', lay nwOut (decT 10 e) h = (y, hy') := ⟨_, _, rfl⟩
    rw [hly] at hk
    simp only at hk
    obtain ⟨ys, hn, hl⟩ : ∃ ys hn, lays nwIn Ts h0 = (ys, hn) := ⟨_, _, rfl⟩
    unfold solve at he
    rw [hl] at he
    simp only at he
    obtain ⟨τ, hτ, hro, hv, hok⟩ := lays_in hR hm ho hl
    have hc := (evF_s hS n (.fn f) ys (mk hn.next) e hf hτ hok he).2
    rw [hv] at hc
    refine Calls.mono hc fun e1 w' hq => ?_
    obtain ⟨u, h1, σ1, z1, z2, z3, z4, z5, z6, rfl⟩ := hq
    unfold mk at z1
    rcases rdF_s h1 .no 9 u (mkK hn.next u h1) with hb | ⟨T, hb⟩
    · rw [hb] at z1; cases z1
    rw [hb] at z1
    unfold mkK at z1
    cases hm1 : mt (ckOut hn.next) h1 (decT 10 (encT T)) u [] with
    | none => rw [hm1] at z1; cases z1
    | some S1 =>
      rw [hm1] at z1
      injection z1 with z1 _
      rw [z1] at hm1
      have hro1 : h1.ro = hn.next := z2.trans hro
      have hout : Out P B w0 σ h w σ1 h1 w' hn.next [] σ h :=
        ⟨hR.later z5.below, rfl, Nat.le_refl _, Ext.refl _ _, fun j b hj hd _ => hR.bound hj hd, fun j b hj hd hge => absurd (hR.lt j b hj) (by omega)⟩
      obtain ⟨τ', a1, a2, a3, a4, a5, a6⟩ := lay_s z5 (ck := ckOut hn.next) (nw := nwOut) (G := fun S τ hx => Out P B w0 σ h w σ1 h1 w' hn.next S τ hx) (fun _ _ => rfl)
        (fun S τ τ' hx i t g m ks ks' o hG hi hck ho hb he hblk => hG.step hR.hB z5 hro1 hi hck ho hb he hblk)
        (decT 10 e) u y [] S1 σ h hy' hm1 z6 hout hly
      exact ⟨y, hy', τ', hk, a3.ro, a2, a1, a3.hr, a5, by rw [a4]⟩
theorem msum_s {sums : Sums} {lf n : Nat} {f : FuncId} (hS : ∀ f s, sums f = some s → SumS P f s) : SumS P f (msum P sums lf n f) := by
  intro B w0 σ h w args k v hf hR ho hk
  have fb : evF P sums lf n (.fn f) args h k = .ok v hf → Calls P f (vals σ args).toArray w (Ret P B w0 σ h k v hf) := fun he => (evF_s hS n (.fn f) args k v hf hR ho he).2
  unfold msum at hk
  rcases rdA_s h (evF P sums lf n (.fn f) args h k) args (msumK P sums lf n f args h k) with hb | ⟨Ts, hb⟩
  · rw [hb] at hk; exact fb hk
  rw [hb] at hk
  unfold msumK at hk
  cases hm : mts ckIn h Ts args [] with
  | none => rw [hm] at hk; exact fb hk
  | some S =>
    rw [hm] at hk
    cases hr : solve P sums lf n f Ts with
    | no => rw [hr] at hk; exact fb hk
    | ok e hf1 =>
      rw [hr] at hk
      refine solve_s hS hr args k v hf hR ho ?_
      unfold gsum
      rw [hm]
      have hk' : msumY k (lay nwOut (decT 10 e) h) = .ok v hf := hk
      unfold msumY at hk'
      cases hl : lay nwOut (decT 10 e) h with
      | mk y h' => rw [hl] at hk'; exact hk'
theorem memo_s {base : Sums} {lf n : Nat} (hB : ∀ f s, base f = some s → SumS P f s) : ∀ (l : List FuncId) f s, memo P base lf n l f = some s → SumS P f s
  | [], f, s, h => hB f s h
  | g :: l, f, s, h => by
    have h' : @Bool.rec (fun _ => Option HL) (memo P base lf n l f) (some (msum P (memo P base lf n l) lf n g)) (Nat.beq f g) = some s := h
    cases hb : Nat.beq f g with
    | false => rw [hb] at h'; exact memo_s hB l f s h'
    | true =>
      rw [hb] at h'
      have := Nat.eq_of_beq_eq_true hb; subst this
      injection h' with h'; subst h'
      exact msum_s (memo_s hB l)
end Go.Ev

/-  -/
set_option linter.unusedVariables false
set_option linter.unusedSectionVars false
namespace Go.Ev
open Go.RowKit
/-! ### data in a world: contracts proved by hand as summaries -/
noncomputable def flatT : DTr → Bool
  | .v x => x.flat
  | .agg _ => false
  | .tup _ => false
  | .sl .. => true
def DatX (P : Program) (t : TypeId) (g m : Nat) (cx : Bool) (cap capv base sz : Nat) (fr : Nat × Nat) (cs : List DTr) : Prop :=
  (g ≤ 1 → fr = (0, 0)) ∧ cs.all flatT = true ∧ ∃ cap0, (cx = false → capv = cap0 - cap) ∧ (g = 1 → m ≤ cap0 * P.cellsOf t ∧ base + cap0 * P.cellsOf t ≤ sz)
mutual
def DatV (P : Program) (w : World) : DTr → Value → Prop
  | .v x, v => v = val σ0 x ∧ x.ok 0
  | .agg l, v => ∃ vs : List Value, v = .agg vs.toArray ∧ DatVs P w l vs ∧ l.all flatT = true
  | .tup l, v => ∃ vs : List Value, v = .tuple vs.toArray ∧ DatVs P w l vs
  | .sl t g m off len cx cap cs, v => ∃ (b base capv : Nat) (c : Array Value) (fr : Nat × Nat), v = .slice (some ⟨b, base + off, none⟩) len capv ∧ (cx = true → capv = cap) ∧ w.heap[b]? = some (.cells c t fr) ∧ base + m ≤ c.size ∧ cs.length = m ∧ DatX P t g m cx cap capv base c.size fr cs ∧
      DatVs P w cs ((c.toList.drop base).take m)
def DatVs (P : Program) (w : World) : List DTr → List Value → Prop
  | [], vs => vs = []
  | T :: r, vs => ∃ v vs', vs = v :: vs' ∧ DatV P w T v ∧ DatVs P w r vs'
end
theorem mt_flat {ck : Ck} {h : FH} : ∀ (T : DTr) (x : FV) (S S' : List Nat), mt ck h T x S = some S' → x.flat = flatT T
  | .v c, x, S, S', hm => by
    simp only [mt] at hm
    have hmx := bif_some hm; obtain ⟨c0, hm⟩ := hmx
    obtain ⟨c1, c2⟩ := and_true' c0
    have := beqV_s _ _ c2; subst this; rfl
  | .agg l, x, S, S', hm => by
    simp only [mt] at hm
    cases x <;> simp only at hm <;> first | rfl | cases hm
  | .tup l, x, S, S', hm => by
    simp only [mt] at hm
    cases x <;> simp only at hm <;> first | rfl | cases hm
  | .sl t g m off len cx cap cs, x, S, S', hm => by
    simp only [mt] at hm
    cases x <;> simp only at hm <;> first | rfl | cases hm
theorem mtc_flat {ck : Ck} {h : FH} : ∀ (Ts : List DTr) (ks : KT FV) (j : Nat) (S S' : List Nat), mtc ck h Ts ks j S = some S' → Ts.all flatT = true
  | [], ks, j, S, S', hm => rfl
  | T :: r, ks, j, S, S', hm => by
    simp only [mtc] at hm
    cases hk : ks.get j j with
    | none => rw [hk] at hm; cases hm
    | some z =>
      rw [hk] at hm
      simp only at hm
      have hmx := bif_some hm; clear hm; obtain ⟨c1, hm⟩ := hmx
      cases h1 : mt ck h T z S with
      | none => rw [h1] at hm; cases hm
      | some S1 =>
        rw [h1] at hm
        simp only at hm
        rw [List.all_cons, mtc_flat r ks (j + 1) S1 S' hm, ← mt_flat T z S S1 h1, c1]; rfl
theorem mts_flat {ck : Ck} {h : FH} : ∀ (Ts : List DTr) (xs : List FV) (S S' : List Nat), mts ck h Ts xs S = some S' → xs.all FV.flat = Ts.all flatT
  | [], xs, S, S', hm => by
    cases xs with
    | nil => rfl
    | cons x xs => simp [mts] at hm
  | T :: r, xs, S, S', hm => by
    cases xs with
    | nil => simp [mts] at hm
    | cons x xs =>
      simp only [mts] at hm
      cases h1 : mt ck h T x S with
      | none => rw [h1] at hm; cases hm
      | some S1 =>
        rw [h1] at hm
        simp only [List.all_cons, mt_flat T x S S1 h1, mts_flat r xs S1 S' hm]
theorem idf_ok {x : FV} (h : idf x = true) {n : Nat} (ho : x.ok n) : x.ok 0 := (idf_s h).2 n 0 ho
section
variable {P : Program} {B : Nat} {w0 w : World} {σ : Ren} {h : FH} (hR : HR P B w0 σ h w) {ck : Ck}
include hR
mutual
theorem mt_dat : ∀ (T : DTr) (x : FV) (S S' : List Nat), mt ck h T x S = some S' → x.ok h.next → DatV P w T (val σ x)
  | .v c, x, S, S', hm, hx => by
    simp only [mt] at hm
    have hmx := bif_some hm; obtain ⟨c0, hm⟩ := hmx
    obtain ⟨c1, c2⟩ := and_true' c0
    have := beqV_s _ _ c2; subst this
    exact ⟨(idf_s c1).1 _ _, idf_ok c1 hx⟩
  | .agg l, x, S, S', hm, hx => by
    simp only [mt] at hm
    cases x <;> simp only at hm <;> try (cases hm; done)
    rename_i xs
    exact ⟨_, rfl, mts_dat l xs S S' hm hx.1, by rw [← mts_flat l xs S S' hm]; exact hx.2⟩
  | .tup l, x, S, S', hm, hx => by
    simp only [mt] at hm
    cases x <;> simp only at hm <;> try (cases hm; done)
    rename_i xs
    exact ⟨_, rfl, mts_dat l xs S S' hm hx⟩
  | .sl t g m off len cx cap cs, x, S, S', hm, hx => by
    simp only [mt] at hm
    cases x <;> simp only at hm <;> try (cases hm; done)
    rename_i i o l c d
    have hmx := bif_some hm; clear hm; obtain ⟨c1, hm⟩ := hmx
    obtain ⟨e1, c1a⟩ := and_true' c1
    obtain ⟨e2, c1b⟩ := and_true' c1a
    obtain ⟨e3, e4⟩ := and_true' c1b
    clear c1 c1a c1b
    have e1' := beq e1; have e2' := beq e2; have e4' := beq e4
    have e3' : cx = c := by simpa using e3
    clear e1 e2 e3 e4
    subst e1' e2' e3' e4'
    cases hg : h.get i with
    | none => rw [hg] at hm; cases hm
    | some bl =>
      rw [hg] at hm
      cases bl <;> simp only at hm <;> try (cases hm; done)
      rename_i t' g' m' ks
      have hmx := bif_some hm; clear hm; obtain ⟨c2, hm⟩ := hmx
      obtain ⟨f1, c2a⟩ := and_true' c2
      obtain ⟨f2, c2b⟩ := and_true' c2a
      obtain ⟨f3, f4a⟩ := and_true' c2b
      clear c2 c2a c2b
      have f1' := beq f1; have f2' := beq f2; have f3' := beq f3; have f4 := beq f4a
      clear f1 f2 f3 f4a
      subst f1' f2' f3'
      cases hc : mtc ck h cs ks 0 S with
      | none => rw [hc] at hm; cases hm
      | some S1 =>
        obtain ⟨ob, hob, cc, fr, rfl, h2, h3, h4, h5⟩ := hR.blk i _ hg (by simp)
        refine ⟨σ.blk i, σ.base i, _, cc, fr, rfl, fun hh => by simp [hh], hob, h2, f4, ⟨h3, mtc_flat cs ks 0 S S1 hc, σ.cap i, fun hh => by simp [hh], h4⟩, ?_⟩
        have := mtc_dat cs ks 0 S S1 cc (σ.base i) hc (fun j z hj hz => h5 j z (by rw [← f4]; simpa using hj) hz)
        rw [← f4]; simpa using this
theorem mts_dat : ∀ (Ts : List DTr) (xs : List FV) (S S' : List Nat), mts ck h Ts xs S = some S' → oks h.next xs → DatVs P w Ts (vals σ xs)
  | [], xs, S, S', hm, hx => by
    cases xs with
    | nil => rfl
    | cons x xs => simp [mts] at hm
  | T :: r, xs, S, S', hm, hx => by
    cases xs with
    | nil => simp [mts] at hm
    | cons x xs =>
      simp only [mts] at hm
      cases h1 : mt ck h T x S with
      | none => rw [h1] at hm; cases hm
      | some S1 =>
        rw [h1] at hm
        exact ⟨_, _, rfl, mt_dat T x S S1 h1 hx.1, mts_dat r xs S1 S' hm hx.2⟩
theorem mtc_dat : ∀ (Ts : List DTr) (ks : KT FV) (j0 : Nat) (S S' : List Nat) (cc : Array Value) (base : Nat), mtc ck h Ts ks j0 S = some S' → (∀ j z, j < j0 + Ts.length → ks.get j j = some z → cc[base + j]? = some (val σ z) ∧ z.ok h.next ∧ z.flat = true) →
    DatVs P w Ts ((cc.toList.drop (base + j0)).take Ts.length)
  | [], ks, j0, S, S', cc, base, hm, hz => by simp [DatVs]
  | T :: r, ks, j0, S, S', cc, base, hm, hz => by
    simp only [mtc] at hm
    cases hk : ks.get j0 j0 with
    | none => rw [hk] at hm; cases hm
    | some z =>
      rw [hk] at hm
      simp only at hm
      have hmx := bif_some hm; clear hm; obtain ⟨c1, hm⟩ := hmx
      cases h1 : mt ck h T z S with
      | none => rw [h1] at hm; cases hm
      | some S1 =>
        rw [h1] at hm
        simp only at hm
        obtain ⟨a1, a2, a3⟩ := hz j0 z (by simp) hk
        have hr := mtc_dat r ks (j0 + 1) S1 S' cc base hm (fun j y hj hy => hz j y (by simp only [List.length_cons]; omega) hy)
        have hcons : (cc.toList.drop (base + j0)).take (r.length + 1) = val σ z :: (cc.toList.drop (base + (j0 + 1))).take r.length := by
          have hlt : base + j0 < cc.toList.length := by
            have := (Array.getElem?_eq_some_iff.1 a1).1; simpa using this
          rw [List.drop_eq_getElem_cons hlt, List.take_succ_cons]
          have : cc.toList[base + j0] = val σ z := by
            have := (Array.getElem?_eq_some_iff.1 a1).2; simpa using this
          rw [this]; rfl
        rw [List.length_cons, hcons]
        exact ⟨_, _, rfl, mt_dat T z S S1 h1 a2, hr⟩
end
end
/-! ### what comes out -/
mutual
def OutV (P : Program) (w w' : World) : DTr → Value → List Nat → List Nat → Prop
  | .v x, v, S, S' => v = val σ0 x ∧ idf x = true ∧ x.ok 0 ∧ S' = S
  | .agg l, v, S, S' => ∃ vs : List Value, v = .agg vs.toArray ∧ l.all flatT = true ∧ OutVs P w w' l vs S S'
  | .tup l, v, S, S' => ∃ vs : List Value, v = .tuple vs.toArray ∧ OutVs P w w' l vs S S'
  | .sl t g m off len cx cap cs, v, S, S' => ∃ (b base cap0 : Nat) (c : Array Value) (S1 : List Nat), v = .slice (some ⟨b, base + off, none⟩) len (if cx then cap else cap0 - cap) ∧ w'.heap[b]? = some (.cells c t (0, 0)) ∧ w.heap.size ≤ b ∧
      base + m ≤ c.size ∧ cs.length = m ∧ cs.all flatT = true ∧ (g = 1 → m ≤ cap0 * P.cellsOf t ∧ base + cap0 * P.cellsOf t ≤ c.size) ∧ OutVs P w w' cs ((c.toList.drop base).take m) S S1 ∧ b ∉ S1 ∧ S' = b :: S1
def OutVs (P : Program) (w w' : World) : List DTr → List Value → List Nat → List Nat → Prop
  | [], vs, S, S' => vs = [] ∧ S' = S
  | T :: r, vs, S, S' => ∃ v vs' S1, vs = v :: vs' ∧ OutV P w w' T v S S1 ∧ OutVs P w w' r vs' S1 S'
end
structure Gro (P : Program) (B : Nat) (w0 : World) (σ : Ren) (h : FH) (w w' : World) (S : List Nat) (τ : Ren) (hx : FH) : Prop where
  hr : HR P B w0 τ hx w'
  ro : hx.ro = h.ro
  nx : h.next ≤ hx.next
  ext : Ext h.next σ τ
  old : ∀ j b, hx.get j = some b → b ≠ .dead → j < h.next → τ.blk j < w.heap.size
  new : ∀ j b, hx.get j = some b → b ≠ .dead → h.next ≤ j → τ.blk j ∈ S
variable {P : Program}
theorem Gro.step {B : Nat} {w0 w w' : World} {σ τ τ' : Ren} {h hx : FH} {S : List Nat} (hB : B ≤ w.heap.size) (H : Gro P B w0 σ h w w' S τ hx)
    {b : Blk} {o : Obj} {b0 : Nat} (hlt : w.heap.size ≤ b0) (hS : b0 ∉ S) (ho : w'.heap[b0]? = some o) (hb : BO P τ' (hx.next + 1) hx.next o b) (hd0 : b ≠ .dead) (he : Ext hx.next τ τ') (hblk : τ'.blk hx.next = b0) :
    Gro P B w0 σ h w w' (b0 :: S) τ' (nwOut hx b) := by
  have fresh : ∀ j bj, hx.get j = some bj → bj ≠ .dead → τ.blk j ≠ b0 := by
    intro j bj hj hd heq
    by_cases hjn : j < h.next
    · have := H.old j bj hj hd hjn; omega
    · exact hS (heq ▸ H.new j bj hj hd (by omega))
  refine ⟨⟨H.hr.below, H.hr.hB, by have := H.hr.hro; show hx.ro ≤ hx.next + 1; omega, ?_, ?_, ?_, ?_, ?_⟩, H.ro, Nat.le_succ_of_le H.nx, H.ext.trans he H.nx, ?_, ?_⟩
  · intro j b' hj
    rcases get_nwOut hj with ⟨a, _⟩ | ⟨_, a⟩
    · subst a; exact Nat.lt_succ_self _
    · exact Nat.lt_succ_of_lt (H.hr.lt j b' a)
  · intro j b' hj hd
    rcases get_nwOut hj with ⟨a, a'⟩ | ⟨_, a⟩
    · subst a; subst a'; exact ⟨o, by rw [hblk]; exact ho, hb⟩
    · obtain ⟨o', ho', hbo'⟩ := H.hr.blk j b' a hd
      have hlt := H.hr.lt j b' a
      exact ⟨o', by rw [he.blk j hlt]; exact ho', hbo'.ext he hlt (Nat.le_succ _)⟩
  · intro j b' hj hd hr
    rcases get_nwOut hj with ⟨a, _⟩ | ⟨_, a⟩
    · subst a; rw [hblk]; omega
    · rw [he.blk j (H.hr.lt j b' a)]; exact H.hr.own j b' a hd hr
  · intro j b' hj hd hr
    have hr' : j < hx.ro := hr
    rcases get_nwOut hj with ⟨a, _⟩ | ⟨_, a⟩
    · have := H.hr.hro; omega
    · rw [he.blk j (H.hr.lt j b' a)]; exact H.hr.old j b' a hd hr
  · intro j k bj bk hj hk d1 d2 hw r1 r2 heq
    rcases get_nwOut hj with ⟨a, _⟩ | ⟨_, a⟩ <;> rcases get_nwOut hk with ⟨c, _⟩ | ⟨_, c⟩
    · rw [a, c]
    · rw [a, hblk, he.blk k (H.hr.lt k bk c)] at heq
      exact absurd heq.symm (fresh k bk c d2)
    · rw [c, hblk, he.blk j (H.hr.lt j bj a)] at heq
      exact absurd heq (fresh j bj a d1)
    · rw [he.blk j (H.hr.lt j bj a), he.blk k (H.hr.lt k bk c)] at heq
      exact H.hr.sep j k bj bk a c d1 d2 hw r1 r2 heq
  · intro j b' hj hd hlt
    rcases get_nwOut hj with ⟨a, _⟩ | ⟨_, a⟩
    · have := H.nx; omega
    · rw [he.blk j (H.hr.lt j b' a)]; exact H.old j b' a hd hlt
  · intro j b' hj hd hge
    rcases get_nwOut hj with ⟨a, _⟩ | ⟨_, a⟩
    · subst a; rw [hblk]; exact List.mem_cons_self
    · rw [he.blk j (H.hr.lt j b' a)]; exact List.mem_cons_of_mem _ (H.new j b' a hd hge)
section
variable {B : Nat} {w0 w w' : World} {σ : Ren} {h : FH} (hB : B ≤ w.heap.size)
include hB
mutual
theorem lay_o : ∀ (T : DTr) (v : Value) (S S' : List Nat) (τ : Ren) (hn : FH) (y : FV) (hn' : FH), OutV P w w' T v S S' → Gro P B w0 σ h w w' S τ hn → lay nwOut T hn = (y, hn') →
    ∃ τ', Ext hn.next τ τ' ∧ hn.next ≤ hn'.next ∧ Gro P B w0 σ h w w' S' τ' hn' ∧ val τ' y = v ∧ y.ok hn'.next ∧ y.flat = flatT T
  | .v c, v, S, S', τ, hn, y, hn', ho, hG, hl => by
    obtain ⟨rfl, a1, a2, rfl⟩ := ho
    simp only [lay, Prod.mk.injEq] at hl
    obtain ⟨rfl, rfl⟩ := hl
    exact ⟨τ, Ext.refl _ _, Nat.le_refl _, hG, (idf_s a1).1 _ _, (idf_s a1).2 _ _ a2, rfl⟩
  | .agg l, v, S, S', τ, hn, y, hn', ho, hG, hl => by
    obtain ⟨vs, rfl, a1, a2⟩ := ho
    obtain ⟨ys, hn1, hl1⟩ : ∃ ys hn1, lays nwOut l hn = (ys, hn1) := ⟨_, _, rfl⟩
    simp only [lay, hl1, Prod.mk.injEq] at hl
    obtain ⟨rfl, rfl⟩ := hl
    obtain ⟨τ', b1, b2, b3, b4, b5, b6⟩ := lays_o l vs S S' τ hn ys hn1 a2 hG hl1
    exact ⟨τ', b1, b2, b3, by simp only [val, b4], ⟨b5, by rw [b6]; exact a1⟩, rfl⟩
  | .tup l, v, S, S', τ, hn, y, hn', ho, hG, hl => by
    obtain ⟨vs, rfl, a2⟩ := ho
    obtain ⟨ys, hn1, hl1⟩ : ∃ ys hn1, lays nwOut l hn = (ys, hn1) := ⟨_, _, rfl⟩
    simp only [lay, hl1, Prod.mk.injEq] at hl
    obtain ⟨rfl, rfl⟩ := hl
    obtain ⟨τ', b1, b2, b3, b4, b5, b6⟩ := lays_o l vs S S' τ hn ys hn1 a2 hG hl1
    exact ⟨τ', b1, b2, b3, by simp only [val, b4], b5, rfl⟩
  | .sl t g m off len cx cap cs, v, S, S', τ, hn, y, hn', ho, hG, hl => by
    obtain ⟨b, base, cap0, c, S1, rfl, a1, a2, a3, a4, a5, a6, a7, a8, rfl⟩ := ho
    obtain ⟨ys, hn1, hl1⟩ : ∃ ys hn1, lays nwOut cs hn = (ys, hn1) := ⟨_, _, rfl⟩
    simp only [lay, hl1, Prod.mk.injEq] at hl
    obtain ⟨rfl, rfl⟩ := hl
    obtain ⟨τ', b1, b2, b3, b4, b5, b6⟩ := lays_o cs _ S S1 τ hn ys hn1 a7 hG hl1
    have hE : Ext hn1.next τ' (τ'.add hn1.next b base cap0) := Ren.add_ext _ _ _ _ _
    refine ⟨τ'.add hn1.next b base cap0, b1.trans hE b2, by show hn.next ≤ hn1.next + 1; omega, b3.step hB a2 a8 a1 ?_ (by simp) hE (by simp), by simp [val], by simp [FV.ok, nwOut], rfl⟩
    refine ⟨c, (0, 0), rfl, by simpa using a3, fun _ => rfl, fun hg => by simpa using a6 hg, fun j v hj hv => ?_⟩
    rcases KT.get_fill ys 0 .nil j v hv with ⟨_, hy⟩ | hy
    · simp only [Nat.sub_zero] at hy
      have hvj : (vals τ' ys)[j]? = some (val τ' v) := by rw [vals_eq, List.getElem?_map, hy]; rfl
      rw [b4, List.getElem?_take_of_lt hj, List.getElem?_drop] at hvj
      have hvo := oks_iff.1 b5 v (List.mem_of_getElem? hy)
      refine ⟨?_, ok_mono (Nat.le_succ _) _ hvo, ?_⟩
      · rw [Ren.add_base, val_ext hE v hvo]; simpa using hvj
      · have : ys.all FV.flat = true := by rw [b6]; exact a5
        exact List.all_eq_true.1 this v (List.mem_of_getElem? hy)
    · simp [KT.get_nil] at hy
theorem lays_o : ∀ (Ts : List DTr) (vs : List Value) (S S' : List Nat) (τ : Ren) (hn : FH) (ys : List FV) (hn' : FH), OutVs P w w' Ts vs S S' → Gro P B w0 σ h w w' S τ hn → lays nwOut Ts hn = (ys, hn') →
    ∃ τ', Ext hn.next τ τ' ∧ hn.next ≤ hn'.next ∧ Gro P B w0 σ h w w' S' τ' hn' ∧ vals τ' ys = vs ∧ oks hn'.next ys ∧ ys.all FV.flat = Ts.all flatT
  | [], vs, S, S', τ, hn, ys, hn', ho, hG, hl => by
    obtain ⟨rfl, rfl⟩ := ho
    simp only [lays, Prod.mk.injEq] at hl
    obtain ⟨rfl, rfl⟩ := hl
    exact ⟨τ, Ext.refl _ _, Nat.le_refl _, hG, rfl, trivial, rfl⟩
  | T :: r, vs, S, S', τ, hn, ys, hn', ho, hG, hl => by
    obtain ⟨v, vs', S1, rfl, a1, a2⟩ := ho
    obtain ⟨y, hn1, hl1⟩ : ∃ y hn1, lay nwOut T hn = (y, hn1) := ⟨_, _, rfl⟩
    obtain ⟨ys1, hn2, hl2⟩ : ∃ ys hn2, lays nwOut r hn1 = (ys, hn2) := ⟨_, _, rfl⟩
    simp only [lays, hl1, hl2, Prod.mk.injEq] at hl
    obtain ⟨rfl, rfl⟩ := hl
    obtain ⟨τ1, b1, b2, b3, b4, b5, b6⟩ := lay_o T v S S1 τ hn y hn1 a1 hG hl1
    obtain ⟨τ2, d1, d2, d3, d4, d5, d6⟩ := lays_o r vs' S1 S' τ1 hn1 ys1 hn2 a2 b3 hl2
    exact ⟨τ2, b1.trans d1 b2, Nat.le_trans b2 d2, d3, by simp only [vals, d4, val_ext d1 y b5, b4], ⟨ok_mono d2 _ b5, d5⟩, by simp only [List.all_cons, b6, d6]⟩
end
end
theorem hand_s {f : FuncId} {Ts : List DTr} {T : DTr} (H : ∀ (w : World) (vs : List Value), DatVs P w Ts vs → Calls P f vs.toArray w fun e w' => ∃ v S', e = .returned v ∧ OutV P w w' T v [] S' ∧ Below w.heap.size w w') : SumS P f (gsum Ts T) := by
  intro B w0 σ h w args k v hf hR ho hk
  unfold gsum at hk
  cases hm : mts ckIn h Ts args [] with
  | none => rw [hm] at hk; cases hk
  | some S =>
    rw [hm] at hk
    simp only at hk
    obtain ⟨y, hy', hly⟩ : ∃ y hy', lay nwOut T h = (y, hy') := ⟨_, _, rfl⟩
    rw [hly] at hk
    simp only at hk
    refine Calls.mono (H w (vals σ args) (mts_dat hR Ts args [] S hm ho)) fun e w' hq => ?_
    obtain ⟨v', S', rfl, h1, h2⟩ := hq
    have hG : Gro P B w0 σ h w w' [] σ h := ⟨hR.later h2, rfl, Nat.le_refl _, Ext.refl _ _, fun j b hj hd _ => hR.bound hj hd, fun j b hj hd hge => absurd (hR.lt j b hj) (by omega)⟩
    obtain ⟨τ', a1, a2, a3, a4, a5, a6⟩ := lay_o hR.hB T v' [] S' σ h y hy' h1 hG hly
    exact ⟨y, hy', τ', hk, a3.ro, a2, a1, a3.hr, a5, by rw [a4]⟩
noncomputable def handGo (dec : List DTr → Option DTr) (args : List FV) (h : FH) (k : KV) (Ts : List DTr) : Ro := @Option.rec DTr (fun _ => Ro) .no (fun T => gsum Ts T args h k) (dec Ts)
noncomputable def handK (dec : List DTr → Option DTr) : HL := fun args h k => rdA h .no args (handGo dec args h k)
theorem handK_s {f : FuncId} {dec : List DTr → Option DTr} (H : ∀ Ts T, dec Ts = some T → ∀ (w : World) (vs : List Value), DatVs P w Ts vs → Calls P f vs.toArray w fun e w' => ∃ v S', e = .returned v ∧ OutV P w w' T v [] S' ∧ Below w.heap.size w w') : SumS P f (handK dec) := by
  intro B w0 σ h w args k v hf hR ho hk
  unfold handK at hk
  rcases rdA_s h .no args (handGo dec args h k) with hb | ⟨Ts, hb⟩
  · rw [hb] at hk; cases hk
  · rw [hb] at hk
    unfold handGo at hk
    cases hd : dec Ts with
    | none => rw [hd] at hk; cases hk
    | some T =>
      rw [hd] at hk
      exact hand_s (H Ts T hd) args k v hf hR ho hk
theorem outvs_atoms {w w' : World} {S : List Nat} : ∀ (l : List FV), (∀ x ∈ l, idf x = true ∧ x.ok 0) → OutVs P w w' (l.map DTr.v) (l.map (val σ0)) S S
  | [], _ => ⟨rfl, rfl⟩
  | x :: l, h => ⟨_, _, S, rfl, ⟨rfl, (h x List.mem_cons_self).1, (h x List.mem_cons_self).2, rfl⟩, outvs_atoms l fun y hy => h y (List.mem_cons_of_mem _ hy)⟩
end Go.Ev

/-  -/
set_option linter.unusedVariables false
namespace Go.Ev
open Go.RowKit
/-! ### hand contracts that lean on a call which the evaluator has run -/
noncomputable def isZ (r : Ro) : Bool := match r with | .ok e _ => (match decT 10 e with | .v (.int .i64 (.ofNat 0)) => true | _ => false) | .no => false
variable {P : Program}
theorem solve_dat {sums : Sums} {lf n : Nat} {f : FuncId} (hS : ∀ f s, sums f = some s → SumS P f s) {Ts : List DTr} {e : FV} {hf : FH} (hr : solve P sums lf n f Ts = .ok e hf)
    {B : Nat} {w0 w : World} {σ : Ren} {h : FH} (hR : HR P B w0 σ h w) {args : List FV} {S : List Nat} (hm : mts ckIn h Ts args [] = some S) (ho : oks h.next args) :
    Calls P f (vals σ args).toArray w fun e1 w' => ∃ v, e1 = .returned v ∧ DatV P w' (decT 10 e) v ∧ Below w.heap.size w w' := by
  obtain ⟨ys, hn, hl⟩ : ∃ ys hn, lays nwIn Ts h0 = (ys, hn) := ⟨_, _, rfl⟩
  unfold solve at hr
  rw [hl] at hr
  simp only at hr
  obtain ⟨τ, hτ, hro, hv, hok⟩ := lays_in hR hm ho hl
  have hc := (evF_s hS n (.fn f) ys (mk hn.next) e hf hτ hok hr).2
  rw [hv] at hc
  refine Calls.mono hc fun e1 w' hq => ?_
  obtain ⟨u, h1', σ1, z1, z2, z3, z4, z5, z6, rfl⟩ := hq
  refine ⟨_, rfl, ?_, z5.below⟩
  unfold mk at z1
  rcases rdF_s h1' .no 9 u (mkK hn.next u h1') with hb | ⟨T, hb⟩
  · rw [hb] at z1; cases z1
  rw [hb] at z1
  unfold mkK at z1
  cases hm1 : mt (ckOut hn.next) h1' (decT 10 (encT T)) u [] with
  | none => rw [hm1] at z1; cases z1
  | some S1 =>
    rw [hm1] at z1
    injection z1 with z1 _
    rw [z1] at hm1
    exact mt_dat z5 _ u [] S1 hm1 z6
theorem isZ_s {sums : Sums} {lf n : Nat} {f : FuncId} (hS : ∀ f s, sums f = some s → SumS P f s) {Ts : List DTr} (hz : isZ (solve P sums lf n f Ts) = true)
    {B : Nat} {w0 w : World} {σ : Ren} {h : FH} (hR : HR P B w0 σ h w) {args : List FV} {S : List Nat} (hm : mts ckIn h Ts args [] = some S) (ho : oks h.next args) :
    Calls P f (vals σ args).toArray w fun e w' => e = .returned (.int .i64 0) ∧ Below w.heap.size w w' := by
  cases hr : solve P sums lf n f Ts with
  | no => rw [hr] at hz; cases hz
  | ok e hf =>
    rw [hr] at hz
    have h1 : decT 10 e = .v (.int .i64 0) := by
      unfold isZ at hz
      simp only at hz
      split at hz
      · assumption
      · cases hz
    refine Calls.mono (solve_dat hS hr hR hm ho) fun e1 w' hq => ?_
    obtain ⟨v, rfl, hd, hb⟩ := hq
    rw [h1] at hd
    exact ⟨by rw [show v = _ from hd.1]; rfl, hb⟩
noncomputable def handCgo (P : Program) (sums : Sums) (lf n : Nat) (f' : FuncId) (dec : List DTr → Option DTr) (args : List FV) (h : FH) (k : KV) (Ts : List DTr) : Ro :=
  @Bool.rec (fun _ => Ro) .no (handGo dec args h k Ts) (isZ (solve P sums lf n f' Ts))
noncomputable def handC (P : Program) (sums : Sums) (lf n : Nat) (f' : FuncId) (dec : List DTr → Option DTr) : HL := fun args h k => rdA h .no args (handCgo P sums lf n f' dec args h k)
theorem handC_s {sums : Sums} {lf n : Nat} {f f' : FuncId} {dec : List DTr → Option DTr} (hS : ∀ f s, sums f = some s → SumS P f s)
    (H : ∀ Ts T, dec Ts = some T → ∀ (w : World) (vs : List Value), DatVs P w Ts vs → (∀ W, Below w.heap.size w W → Calls P f' vs.toArray W fun e w' => e = .returned (.int .i64 0) ∧ Below W.heap.size W w') →
      Calls P f vs.toArray w fun e w' => ∃ v S', e = .returned v ∧ OutV P w w' T v [] S' ∧ Below w.heap.size w w') : SumS P f (handC P sums lf n f' dec) := by
  intro B w0 σ h w args k v hf hR ho hk
  unfold handC at hk
  rcases rdA_s h .no args (handCgo P sums lf n f' dec args h k) with hb | ⟨Ts, hb⟩
  · rw [hb] at hk; cases hk
  · rw [hb] at hk
    unfold handCgo at hk
    cases hz : isZ (solve P sums lf n f' Ts) with
    | false => rw [hz] at hk; cases hk
    | true =>
      rw [hz] at hk
      have hk' : handGo dec args h k Ts = .ok v hf := hk
      unfold handGo at hk'
      cases hd : dec Ts with
      | none => rw [hd] at hk'; cases hk'
      | some T =>
        rw [hd] at hk'
        have hk2 : gsum Ts T args h k = .ok v hf := hk'
        have hk0 := hk2
        unfold gsum at hk2
        cases hm : mts ckIn h Ts args [] with
        | none => rw [hm] at hk2; cases hk2
        | some S =>
          rw [hm] at hk2
          simp only at hk2
          obtain ⟨y, hy', hly⟩ : ∃ y hy', lay nwOut T h = (y, hy') := ⟨_, _, rfl⟩
          rw [hly] at hk2
          simp only at hk2
          have hC : ∀ W, Below w.heap.size w W → Calls P f' (vals σ args).toArray W fun e w' => e = .returned (.int .i64 0) ∧ Below W.heap.size W w' := by
            intro W hW
            exact isZ_s hS hz (hR.later hW) hm ho
          refine Calls.mono (H Ts T hd w (vals σ args) (mts_dat hR Ts args [] S hm ho) hC) fun e w' hq => ?_
          obtain ⟨v', S', rfl, h1, h2⟩ := hq
          have hG : Gro P B w0 σ h w w' [] σ h := ⟨hR.later h2, rfl, Nat.le_refl _, Ext.refl _ _, fun j b hj hd _ => hR.bound hj hd, fun j b hj hd hge => absurd (hR.lt j b hj) (by omega)⟩
          obtain ⟨τ', a1, a2, a3, a4, a5, a6⟩ := lay_o hR.hB T v' [] S' σ h y hy' h1 hG hly
          exact ⟨y, hy', τ', hk2, a3.ro, a2, a1, a3.hr, a5, by rw [a4]⟩
end Go.Ev

/- look.Join at the looks of a finite set, run by the evaluator. -/
namespace Go.Proofs.YtjnmkdahbcmfaaaGreat
open Go.ChangeShapes Go.WideShapes Go.ChangeAt Go.RowKit Go.Ev
set_option linter.unusedVariables false
set_option maxRecDepth 100000
noncomputable def intD (n : Int) : DTr := .v (.int .i64 n)
noncomputable def lkT (x : Lk) : DTr := .agg [intD x.n, intD x.a, intD x.b, intD x.c, intD x.d]
noncomputable def lkF (x : Lk) : FV := .agg [.int .i64 x.n, .int .i64 x.a, .int .i64 x.b, .int .i64 x.c, .int .i64 x.d]
noncomputable def tupJ : DTr → Option Lk
  | .tup [.agg [.v (.int .i64 n), .v (.int .i64 a), .v (.int .i64 b), .v (.int .i64 c), .v (.int .i64 d)], .v (.int .i64 (.ofNat 0))] => some ⟨n, a, b, c, d⟩
  | _ => none
noncomputable def isJ (r : Ro) (z : Lk) : Bool := match r with | .ok e _ => (match tupJ (decT 10 e) with | some y => decide (y = z) | none => false) | .no => false
theorem tupJ_s {P : Program} {w : World} {T : DTr} {z : Lk} {v : Value} (h : tupJ T = some z) (hd : DatV P w T v) : v = .tuple #[z.v, .int .i64 0] := by
  unfold tupJ at h
  split at h
  · cases h
    obtain ⟨vs, rfl, v1, r1, rfl, ⟨us, rfl, hu, -⟩, v2, r2, rfl, ⟨rfl, _⟩, hr⟩ := hd
    have hr : r2 = [] := hr
    subst hr
    obtain ⟨a1, s1, rfl, ⟨rfl, _⟩, a2, s2, rfl, ⟨rfl, _⟩, a3, s3, rfl, ⟨rfl, _⟩, a4, s4, rfl, ⟨rfl, _⟩, a5, s5, rfl, ⟨rfl, _⟩, hs⟩ := hu
    have hs : s5 = [] := hs
    subst hs
    simp [val, Lk.v]
  · cases h
theorem beq_int (n : Int) : beqV (.int .i64 n) (.int .i64 n) = true := by
  have : keq .i64 .i64 = true := rfl
  simp [beqV, ieq_eq, this]
theorem mt_int {ck : Ck} {h : FH} (n : Int) (S : List Nat) : mt ck h (intD n) (.int .i64 n) S = some S := by
  unfold intD
  simp only [Go.Ev.mt, beq_int]
  rfl
theorem mt_lk {ck : Ck} {h : FH} (x : Lk) (S : List Nat) : mt ck h (lkT x) (lkF x) S = some S := by
  unfold lkT lkF
  simp only [Go.Ev.mt, mts, mt_int]
theorem join_at {sums : Sums} {lf n : Nat} {f : FuncId} (hS : ∀ f s, sums f = some s → SumS Tryz.prog f s) {k : Int} {x y z : Lk} (h : isJ (solve Tryz.prog sums lf n f [intD k, lkT x, lkT y]) z = true) (W : World) :
    Calls Tryz.prog f #[.int .i64 k, x.v, y.v] W fun e W' => e = .returned (.tuple #[z.v, .int .i64 0]) ∧ Below W.heap.size W W' := by
  cases hr : solve Tryz.prog sums lf n f [intD k, lkT x, lkT y] with
  | no => rw [hr] at h; cases h
  | ok e hf =>
    rw [hr] at h
    unfold isJ at h
    simp only at h
    cases hj : tupJ (decT 10 e) with
    | none => rw [hj] at h; cases h
    | some y' =>
      rw [hj] at h
      have hz : y' = z := of_decide_eq_true h
      subst hz
      have hm : mts ckIn h0 [intD k, lkT x, lkT y] [.int .i64 k, lkF x, lkF y] [] = some [] := by simp only [mts, mt_int, mt_lk]
      have ho : oks h0.next [.int .i64 k, lkF x, lkF y] := by
        refine ⟨trivial, ⟨⟨trivial, trivial, trivial, trivial, trivial, trivial⟩, rfl⟩, ⟨⟨trivial, trivial, trivial, trivial, trivial, trivial⟩, rfl⟩, trivial⟩
      have hc := solve_dat hS hr (hr0 Tryz.prog σ0 W) hm ho
      have hv : (vals σ0 [.int .i64 k, lkF x, lkF y]).toArray = #[.int .i64 k, x.v, y.v] := by simp [vals, val, lkF, Lk.v]
      rw [hv] at hc
      refine Calls.mono hc fun e1 w' hq => ?_
      obtain ⟨v, rfl, hd, hb⟩ := hq
      exact ⟨by rw [tupJ_s hj hd], hb⟩
def lists (t : Nat) : Nat → List (List Int)
  | 0 => [[]]
  | k + 1 => [] :: (List.range t).flatMap fun (s : Nat) => (lists t k).map fun l => Int.ofNat s :: l
def allU (t k : Nat) : List Lk := (lists t k).map Lk.of
noncomputable def jOK (sums : Sums) (lf n : Nat) (k : Nat) (UL : List Lk) : Bool :=
  UL.all fun x => decide (lchk x 8 = 0) && (decide (x.n = (k : Int)) || UL.all fun y => memL (lplus k x y) UL && isJ (solve Tryz.prog sums lf n 308 [intD k, lkT x, lkT y]) (lplus k x y))
theorem jOK_s {sums : Sums} {lf n : Nat} (hS : ∀ f s, sums f = some s → SumS Tryz.prog f s) {k : Nat} {UL : List Lk} (h : jOK sums lf n k UL = true) : UJ k (lplus k) (· ∈ UL) ∧ ∀ x ∈ UL, x.right 8 := by
  have h1 : ∀ x ∈ UL, lchk x 8 = 0 ∧ (x.n ≠ (k : Int) → ∀ y ∈ UL, lplus k x y ∈ UL ∧ isJ (solve Tryz.prog sums lf n 308 [intD k, lkT x, lkT y]) (lplus k x y) = true) := by
    intro x hx
    have := List.all_eq_true.1 h x hx
    rw [Bool.and_eq_true, Bool.or_eq_true, decide_eq_true_eq, decide_eq_true_eq, List.all_eq_true] at this
    refine ⟨this.1, fun hk y hy => ?_⟩
    have h2 := (this.2.resolve_left hk) y hy
    rw [Bool.and_eq_true] at h2
    exact ⟨memL_s h2.1, h2.2⟩
  exact ⟨⟨fun x hx => right_wf (h1 x hx).1, fun x hx hk y hy => ⟨((h1 x hx).2 hk y hy).1, fun W => join_at hS ((h1 x hx).2 hk y hy).2 W⟩⟩, fun x hx => (h1 x hx).1⟩
end Go.Proofs.YtjnmkdahbcmfaaaGreat

/- Data of the evaluator as grammars in memory. -/
namespace Go.Proofs.YtjnmkdahbcmfaaaGreat
open Go.ChangeShapes Go.WideShapes Go.ChangeAt Go.RowKit Go.Ev
set_option linter.unusedVariables false
theorem datvs_get {P : Program} {w : World} : ∀ {Ts : List DTr} {vs : List Value}, DatVs P w Ts vs → ∀ (i : Nat) (T : DTr), Ts[i]? = some T → ∃ v, vs[i]? = some v ∧ DatV P w T v
  | [], vs, h, i, T, hi => by simp at hi
  | T0 :: Ts, vs, h, i, T, hi => by
    obtain ⟨v, vs', rfl, h1, h2⟩ := h
    cases i with
    | zero => simp at hi; subst hi; exact ⟨v, rfl, h1⟩
    | succ i => simpa using datvs_get h2 i T (by simpa using hi)
theorem dat_cell {P : Program} {w : World} {b base m : Nat} {c : Array Value} {t : TypeId} {fr : Nat × Nat} {cs : List DTr} (hb : w.heap[b]? = some (.cells c t fr)) (h : DatVs P w cs ((c.toList.drop base).take m)) (i : Nat) (T : DTr) (hi : cs[i]? = some T) :
    ∃ v, w.cell? ⟨b, base + i, none⟩ = some v ∧ DatV P w T v := by
  obtain ⟨v, h1, h2⟩ := datvs_get h i T hi
  refine ⟨v, ?_, h2⟩
  rw [cell_of_row w b (base + i) c t fr hb]
  rw [List.getElem?_take] at h1
  split at h1
  · rw [List.getElem?_drop] at h1; simpa using h1
  · cases h1
noncomputable def intT : DTr → Option Int | .v (.int .i64 n) => some n | _ => none
noncomputable def lenT : DTr → Option Nat | .sl _ _ _ _ len _ _ _ => some len | .v .nils => some 0 | _ => none
noncomputable def intsL : List DTr → Nat → Option (List Int)
  | _, 0 => some []
  | [], _ + 1 => none
  | T :: r, n + 1 => match intT T, intsL r n with | some x, some l => some (x :: l) | _, _ => none
noncomputable def intsT : DTr → Option (List Int) | .sl _ _ _ off len _ _ cs => intsL (cs.drop off) len | .v .nils => some [] | _ => none
noncomputable def prodsL : List DTr → Nat → Option (List Pr)
  | _, 0 => some []
  | T :: U :: r, n + 1 => (match intT T, intsT U, prodsL r n with | some x, some l, some q => some (⟨x, l⟩ :: q) | _, _, _ => none)
  | _, _ + 1 => none
noncomputable def prodsT : DTr → Option (List Pr) | .sl _ _ _ off len _ _ cs => prodsL (cs.drop off) len | .v .nils => some [] | _ => none
theorem intT_s {P : Program} {w : World} {T : DTr} {v : Value} {n : Int} (h : DatV P w T v) (hi : intT T = some n) : v = .int .i64 n := by
  unfold intT at hi
  split at hi
  · cases hi; exact h.1
  · cases hi
theorem lenT_s {P : Program} {w : World} {T : DTr} {v : Value} {n : Nat} (h : DatV P w T v) (hi : lenT T = some n) : ∃ A c, v = .slice A n c := by
  cases T <;> simp only [lenT] at hi <;> try (cases hi; done)
  case v x =>
    cases x <;> simp only at hi <;> try (cases hi; done)
    cases hi
    exact ⟨none, 0, h.1⟩
  case sl t g m off len cx cap cs =>
    cases hi
    obtain ⟨b, base, capv, c, fr, rfl, _⟩ := h
    exact ⟨_, _, rfl⟩
theorem intsL_s : ∀ {l : List DTr} {n : Nat} {q : List Int}, intsL l n = some q → q.length = n ∧ ∀ (i : Nat) (x : Int), q[i]? = some x → ∃ T, l[i]? = some T ∧ intT T = some x
  | _, 0, q, h => by simp [intsL] at h; subst h; simp
  | [], n + 1, q, h => by simp [intsL] at h
  | T :: r, n + 1, q, h => by
    simp only [intsL] at h
    cases h1 : intT T with
    | none => rw [h1] at h; cases h
    | some x =>
      cases h2 : intsL r n with
      | none => rw [h1, h2] at h; cases h
      | some q' =>
        rw [h1, h2] at h
        simp only [Option.some.injEq] at h
        subst h
        obtain ⟨a, b⟩ := intsL_s h2
        refine ⟨by simp [a], fun i y hy => ?_⟩
        cases i with
        | zero => simp at hy; subst hy; exact ⟨T, rfl, h1⟩
        | succ i => simpa using b i y (by simpa using hy)
theorem intsT_s {P : Program} {w : World} {T : DTr} {v : Value} {q : List Int} (h : DatV P w T v) (hi : intsT T = some q) : ∃ A c, v = .slice A q.length c ∧ Rd1 w w.heap.size A q.length (ints q) := by
  cases T <;> simp only [intsT] at hi <;> try (cases hi; done)
  case v x =>
    cases x <;> simp only at hi <;> try (cases hi; done)
    cases hi
    exact ⟨none, 0, h.1, ⟨rfl, .inl rfl⟩⟩
  case sl t g m off len cx cap cs =>
    obtain ⟨b, base, capv, c, fr, rfl, _, hb, _, _, _, hd⟩ := h
    obtain ⟨e1, e2⟩ := intsL_s hi
    refine ⟨_, _, by rw [e1], ⟨by simp [ints], .inr ⟨b, base + off, rfl, (Array.getElem?_eq_some_iff.1 hb).1, fun i u hu => ?_⟩⟩⟩
    rw [ints, List.getElem?_map] at hu
    cases hq : q[i]? with
    | none => rw [hq] at hu; cases hu
    | some x =>
      rw [hq] at hu; cases hu
      obtain ⟨T, h1, h2⟩ := e2 i x hq
      rw [List.getElem?_drop] at h1
      obtain ⟨v, h3, h4⟩ := dat_cell hb hd (off + i) T h1
      rw [intT_s h4 h2] at h3
      rw [show base + off + i = base + (off + i) by omega]; exact h3
theorem prodsL_s : ∀ {n : Nat} {l : List DTr} {q : List Pr}, prodsL l n = some q → q.length = n ∧ ∀ (i : Nat) (p : Pr), q[i]? = some p → ∃ T U, l[i * 2]? = some T ∧ l[i * 2 + 1]? = some U ∧ intT T = some p.left ∧ intsT U = some p.right
  | 0, l, q, h => by
    have : q = [] := by cases l with | nil => simp [prodsL] at h; exact h | cons T r => cases r <;> (simp [prodsL] at h; exact h)
    subst this; simp
  | n + 1, [], q, h => by simp [prodsL] at h
  | n + 1, [T], q, h => by simp [prodsL] at h
  | n + 1, T :: U :: r, q, h => by
    simp only [prodsL] at h
    cases h1 : intT T with
    | none => rw [h1] at h; cases h
    | some x =>
      cases h2 : intsT U with
      | none => rw [h1, h2] at h; cases h
      | some l =>
        cases h3 : prodsL r n with
        | none => rw [h1, h2, h3] at h; cases h
        | some q' =>
          rw [h1, h2, h3] at h
          simp only [Option.some.injEq] at h
          subst h
          obtain ⟨a, b⟩ := prodsL_s h3
          refine ⟨by simp [a], fun i p hp => ?_⟩
          cases i with
          | zero => simp at hp; subst hp; exact ⟨T, U, rfl, rfl, h1, h2⟩
          | succ i =>
            obtain ⟨T', U', c1, c2, c3⟩ := b i p (by simpa using hp)
            exact ⟨T', U', by rw [show (i + 1) * 2 = i * 2 + 1 + 1 by omega]; simpa using c1, by rw [show (i + 1) * 2 + 1 = i * 2 + 1 + 1 + 1 by omega]; simpa using c2, c3⟩
theorem prodsT_s {P : Program} {w : World} {T : DTr} {v : Value} {q : List Pr} (h : DatV P w T v) (hi : prodsT T = some q) : ∃ A c, v = .slice A q.length c ∧ RdQ w w.heap.size A q.length q := by
  cases T <;> simp only [prodsT] at hi <;> try (cases hi; done)
  case v x =>
    cases x <;> simp only at hi <;> try (cases hi; done)
    cases hi
    exact ⟨none, 0, h.1, ⟨rfl, .inl rfl⟩⟩
  case sl t g m off len cx cap cs =>
    obtain ⟨b, base, capv, c, fr, rfl, _, hb, _, _, _, hd⟩ := h
    obtain ⟨e1, e2⟩ := prodsL_s hi
    refine ⟨_, _, by rw [e1], ⟨rfl, .inr ⟨b, base + off, rfl, (Array.getElem?_eq_some_iff.1 hb).1, fun i p hp => ?_⟩⟩⟩
    obtain ⟨T, U, h1, h2, h3, h4⟩ := e2 i p hp
    rw [List.getElem?_drop] at h1 h2
    obtain ⟨v, k1, k2⟩ := dat_cell hb hd _ T h1
    obtain ⟨u, k3, k4⟩ := dat_cell hb hd _ U h2
    rw [intT_s k2 h3] at k1
    obtain ⟨A', c', rfl, hr⟩ := intsT_s k4 h4
    exact ⟨by rw [show base + off + i * 2 = base + (off + i * 2) by omega]; exact k1, A', c', by rw [show base + off + i * 2 + 1 = base + (off + (i * 2 + 1)) by omega]; exact k3, hr⟩
noncomputable def grT : DTr → Option Gr
  | .agg [K, T, .v (.str s), N, S, Q] => (match intT K, lenT T, lenT N, intT S, prodsT Q with
    | some k, some t, some n, some st, some ps => some ⟨k, List.replicate t ⟨#[]⟩, bytesOf s, List.replicate n ⟨#[]⟩, st, ps⟩
    | _, _, _, _, _ => none)
  | _ => none
theorem grT_s {P : Program} {w : World} {T : DTr} {v : Value} {g : Gr} (h : DatV P w T v) (hi : grT T = some g) : ∃ a, v = gval g a ∧ GrR w w.heap.size g a := by
  unfold grT at hi
  split at hi
  · rename_i K T s N S Q
    cases h1 : intT K with
    | none => rw [h1] at hi; cases hi
    | some k =>
      cases h2 : lenT T with
      | none => rw [h1, h2] at hi; cases hi
      | some t =>
        cases h3 : lenT N with
        | none => rw [h1, h2, h3] at hi; cases hi
        | some n =>
          cases h4 : intT S with
          | none => rw [h1, h2, h3, h4] at hi; cases hi
          | some st =>
            cases h5 : prodsT Q with
            | none => rw [h1, h2, h3, h4, h5] at hi; cases hi
            | some ps =>
              rw [h1, h2, h3, h4, h5] at hi
              simp only [Option.some.injEq] at hi
              subst hi
              obtain ⟨vs, rfl, hd, -⟩ := h
              obtain ⟨v1, r1, rfl, d1, v2, r2, rfl, d2, v3, r3, rfl, d3, v4, r4, rfl, d4, v5, r5, rfl, d5, v6, r6, rfl, d6, hr⟩ := hd
              have hr : r6 = [] := hr
              subst hr
              have e1 := intT_s d1 h1
              obtain ⟨ta, tc, e2⟩ := lenT_s d2 h2
              have e3 : v3 = .string (bytesOf s) := d3.1
              obtain ⟨na, nc, e4⟩ := lenT_s d4 h3
              have e5 := intT_s d5 h4
              obtain ⟨pa, pc, e6, hq⟩ := prodsT_s d6 h5
              subst e1 e2 e3 e4 e5 e6
              exact ⟨⟨ta, tc, na, nc, pa, pc⟩, by simp [gval, gcells], ⟨hq⟩⟩
  · cases hi
end Go.Proofs.YtjnmkdahbcmfaaaGreat

/- (follow.set).sorted as a summary. -/
namespace Go.Proofs.YtjnmkdahbcmfaaaGreat
open Go.ChangeShapes Go.WideShapes Go.ChangeAt Go.RowKit Go.Ev
set_option linter.unusedVariables false
set_option maxRecDepth 100000
noncomputable def lkV : FV → Option Lk
  | .agg [.int .i64 n, .int .i64 a, .int .i64 b, .int .i64 c, .int .i64 d] => some ⟨n, a, b, c, d⟩
  | _ => none
theorem lkV_s {σ : Ren} {x : FV} {l : Lk} (h : lkV x = some l) : val σ x = l.v := by
  unfold lkV at h
  split at h
  · cases h; simp [val, vals, Lk.v]
  · cases h
noncomputable def keysF : List (FV × FV × Nat) → Option (List Lk)
  | [] => some []
  | (a, v, _) :: r => (match lkV a, v, keysF r with | some x, .bool true, some l => some (x :: l) | _, _, _ => none)
theorem keysF_s {σ : Ren} : ∀ {es : List (FV × FV × Nat)} {l : List Lk}, keysF es = some l → (es.map (mE σ)).map (·.key) = l.map Lk.v ∧ ∀ e ∈ es.map (mE σ), e.val = .bool true
  | [], l, h => by simp [keysF] at h; subst h; simp
  | (a, v, b) :: r, l, h => by
    simp only [keysF] at h
    split at h
    · rename_i x l' h1 h2
      cases h
      obtain ⟨e1, e2⟩ := keysF_s (σ := σ) h2
      refine ⟨by simp [mE, lkV_s h1, e1] at e1 ⊢, fun e he => ?_⟩
      rcases List.mem_cons.1 he with rfl | he
      · simp [mE, val]
      · exact e2 e he
    · cases h
def okE (es : List (FV × FV × Nat)) (ck : Nat) (l : List Lk) : Bool :=
  (es.all fun e => decide (e.2.2 < ck)) && (decide ((es.map (·.2.2)).Nodup) && (decide l.Nodup && (decide (l.length ≤ 100000) && l.all fun x => decide (lchk x 8 = 0))))
def atomsL (l : List Lk) : List FV := l.flatMap fun x => [.int .i64 x.n, .int .i64 x.a, .int .i64 x.b, .int .i64 x.c, .int .i64 x.d]
theorem atomsL_val (l : List Lk) : (atomsL l).map (val σ0) = cellsL l := by
  induction l with
  | nil => rfl
  | cons x l ih =>
    have : atomsL (x :: l) = [.int .i64 x.n, .int .i64 x.a, .int .i64 x.b, .int .i64 x.c, .int .i64 x.d] ++ atomsL l := rfl
    rw [this, List.map_append, ih]
    simp [val, cellsL, Lk.cells]
theorem atomsL_id (l : List Lk) : ∀ x ∈ atomsL l, idf x = true ∧ x.ok 0 := by
  intro x hx
  unfold atomsL at hx
  obtain ⟨y, _, hy⟩ := List.mem_flatMap.1 hx
  simp at hy
  rcases hy with rfl | rfl | rfl | rfl | rfl <;> exact ⟨rfl, trivial⟩
theorem atomsL_flat (l : List Lk) : ((atomsL l).map DTr.v).all flatT = true := by
  rw [List.all_eq_true]
  intro T hT
  obtain ⟨x, hx, rfl⟩ := List.mem_map.1 hT
  unfold atomsL at hx
  obtain ⟨y, _, hy⟩ := List.mem_flatMap.1 hx
  simp at hy
  rcases hy with rfl | rfl | rfl | rfl | rfl <;> rfl
theorem atomsL_len (l : List Lk) : (atomsL l).length = l.length * 5 := by
  have := congrArg List.length (atomsL_val l)
  rw [List.length_map, cellsL_len] at this; exact this
noncomputable def looksT (l : List Lk) : DTr := .sl 45 1 (l.length * 5) 0 l.length false 0 ((atomsL l).map DTr.v)
theorem cellsLook : Tryz.prog.cellsOf 45 = 5 := by kernel_rfl
theorem out_looks {w w' : World} {v : Value} {l : List Lk} (hl : l ≠ []) (ho : OwnL w' w.heap.size v l) : ∃ S', OutV Tryz.prog w w' (looksT l) v [] S' := by
  rcases ho.2 with ⟨_, h0⟩ | ⟨g, cap, cur, rfl, hb, hg, hnc, hcm, hcs, ht⟩
  · exact absurd (List.eq_nil_of_length_eq_zero h0) hl
  · have hsz : 0 + l.length * 5 ≤ cur.size := by rw [hcs]; have := Nat.mul_le_mul_right 5 hnc; omega
    have hln : ((atomsL l).map DTr.v).length = l.length * 5 := by rw [List.length_map, atomsL_len]
    have hat : OutVs Tryz.prog w w' ((atomsL l).map DTr.v) ((cur.toList.drop 0).take (l.length * 5)) [] [] := by
      rw [List.drop_zero, ht, ← atomsL_val]
      exact outvs_atoms _ (atomsL_id l)
    have hcap : (1 : Nat) = 1 → l.length * 5 ≤ cap * Tryz.prog.cellsOf 45 ∧ 0 + cap * Tryz.prog.cellsOf 45 ≤ cur.size := fun _ => by
      rw [cellsLook, hcs]
      exact ⟨Nat.mul_le_mul_right 5 hnc, by omega⟩
    exact ⟨_, g, 0, cap, cur, [], rfl, hg, hb, hsz, hln, atomsL_flat l, hcap, hat, by simp, rfl⟩
theorem ret_out {P : Program} {B : Nat} {w0 w w' : World} {σ : Ren} {h : FH} {k : KV} {v : FV} {hf : FH} (hR : HR P B w0 σ h w) {T : DTr} {u : Value} {S' : List Nat} (h1 : OutV P w w' T u [] S') (h2 : Below w.heap.size w w')
    {y : FV} {hy : FH} (hly : lay nwOut T h = (y, hy)) (hk : k y hy = .ok v hf) : Ret P B w0 σ h k v hf (.returned u) w' := by
  have hG : Gro P B w0 σ h w w' [] σ h := ⟨hR.later h2, rfl, Nat.le_refl _, Ext.refl _ _, fun j b hj hd _ => hR.bound hj hd, fun j b hj hd hge => absurd (hR.lt j b hj) (by omega)⟩
  obtain ⟨τ', a1, a2, a3, a4, a5, a6⟩ := lay_o hR.hB T u [] S' σ h y hy h1 hG hly
  exact ⟨y, hy, τ', hk, a3.ro, a2, a1, a3.hr, a5, by rw [a4]⟩
noncomputable def sortedGo (h : FH) (k : KV) (es : List (FV × FV × Nat)) (ck : Nat) : Ro := @Option.rec (List Lk) (fun _ => Ro) .no (fun l => iff' (okE es ck l && !l.isEmpty) (msumY k (lay nwOut (looksT (lset l)) h))) (keysF es)
noncomputable def sortedH : HL := fun args h k => match args with
  | [.map i] => h.map i fun es ck => sortedGo h k es ck
  | _ => .no
theorem sorted_sum : SumS Tryz.prog 272 sortedH := by
  intro B w0 σ h w args k v hf hR ho hk
  unfold sortedH at hk
  split at hk
  · rename_i i
    obtain ⟨es, ck, hi, hk⟩ := map_ok' hk
    unfold sortedGo at hk
    cases hl : keysF es with
    | none => rw [hl] at hk; cases hk
    | some l =>
      rw [hl] at hk
      obtain ⟨c1, hk⟩ := iff_ok hk
      obtain ⟨c2, c3⟩ := and_true' c1
      unfold okE at c2
      simp only [Bool.and_eq_true, decide_eq_true_eq, List.all_eq_true] at c2
      obtain ⟨d1, d2, d3, d4, d5⟩ := c2
      obtain ⟨o, hob, hbo⟩ := hR.blk i _ hi (by simp)
      obtain ⟨rfl, _⟩ := hbo
      obtain ⟨e1, e2⟩ := keysF_s (σ := σ) hl
      have hr : ∀ x ∈ l, x.right 8 := d5
      have hnk : ((es.map (mE σ)).map (·.key)).Nodup := by
        rw [e1]
        exact List.Pairwise.map _ (fun a b hab he => hab (Lk.v_inj he)) d3
      have e3 : (es.map (mE σ)).toArray.toList = es.map (mE σ) := rfl
      have hst : MapKept.Stamped (es.map (mE σ)).toArray ck := by
        refine ⟨fun x hx => ?_, ?_, ?_⟩
        · rw [e3] at hx
          obtain ⟨e, he, rfl⟩ := List.mem_map.1 hx
          exact d1 e he
        · rw [e3, List.map_map]; exact d2
        · rw [e3]; exact hnk
      have hm : MapK lookKey w (σ.blk i) l := ⟨_, ck, hob, by rw [e3]; exact e1, by rw [e3]; exact e2, fun x hx => right_wf (hr x hx), d3, hst⟩
      have hne : lset l ≠ [] := by
        intro h0
        cases l with
        | nil => cases c3
        | cons x l =>
          have := (lset_mem hr (z := x)).2 List.mem_cons_self
          rw [h0] at this; cases this
      refine Calls.mono (sorted_any (σ.blk i) l w hm hr (by omega)) fun e w' hq => ?_
      obtain ⟨u, rfl, hown, hb⟩ := hq
      obtain ⟨S', hout⟩ := out_looks hne hown
      cases hly : lay nwOut (looksT (lset l)) h with
      | mk y hy =>
        rw [hly] at hk
        exact ret_out hR hout hb hly hk
  · cases hk
end Go.Proofs.YtjnmkdahbcmfaaaGreat
