/- Walks and plain laws, part 6 of 30: ; ; ; ; ; ; . Conditions: none beyond those that each theorem states. -/
import Derived.Test.YtjnmkdahbcmfaaaGreatB5
import Derived.Laws.Small
import Derived.Laws.Entries
import Derived.ChangeKeysEq
import Derived.Laws.Strings
import Derived.Laws.BitsLemmas
import Derived.DeepKeys
import Derived.Laws.Tables
import Derived.Laws.MakeOwn
import Derived.Laws.BytesString
import Derived.Laws.Slices
import Derived.Laws.Append
import Derived.Laws.AppendOwn
/-  -/
set_option linter.unusedVariables false
namespace Go.Ev
open Go.RowKit
/-! ### what is asked of an operation -/
def FW (r : Option Nat) : Fence := { Fence.wide with round := r }
def Ret (P : Program) (B : Nat) (w0 : World) (σ : Ren) (h : FH) (k : KV) (v : FV) (hf : FH) : Ending → World → Prop :=
  fun e w' => ∃ u h1 σ', k u h1 = .ok v hf ∧ h1.ro = h.ro ∧ h.next ≤ h1.next ∧ Ext h.next σ σ' ∧ HR P B w0 σ' h1 w' ∧ u.ok h1.next ∧ e = .returned (val σ' u)
def CallS (P : Program) (call : CallT) : Prop :=
  ∀ ⦃B : Nat⦄ ⦃w0 : World⦄ ⦃σ : Ren⦄ ⦃h : FH⦄ ⦃w : World⦄ (c : Cal) (args : List FV) (k : KV) (v : FV) (hf : FH), HR P B w0 σ h w → oks h.next args → call c args h k = .ok v hf →
      (match c with
       | .fn f => okF P f = true ∧ Calls P f (vals σ args).toArray w (Ret P B w0 σ h k v hf)
       | .yl l => ∃ f tmps a b, (Instr.yield (σ.blk l) (vals σ args).toArray).run P w = .ok (.round (σ.blk l) f tmps a b) w ∧ ∀ r n, RoundIn (FW r) n P (σ.blk l) f tmps a b w (Ret P B w0 σ h k v hf)
       | .df f => okF P f = true ∧ ∀ n u, CallsDIn (FW none) n P f (vals σ args).toArray u w fun e u' w' => u' = u ∧ Ret P B w0 σ h k v hf e w')
def OpS (P : Program) (N : Nat) (o : Oper) (f : OpT) : Prop :=
  ∀ ⦃B : Nat⦄ ⦃w0 : World⦄ ⦃σ : Ren⦄ ⦃ts : T3⦄ ⦃h : FH⦄ ⦃a : Act⦄ ⦃w : World⦄ (call : CallT) (k : KV) (v : FV) (hf : FH), CallS P call → HR P B w0 σ h w → TR σ h.next N ts a.tmps → f call ts h k = .ok v hf →
      ∀ r n nx Q, (∀ u h1 σ' w', k u h1 = .ok v hf → h1.ro = h.ro → h.next ≤ h1.next → Ext h.next σ σ' → HR P B w0 σ' h1 w' → u.ok h1.next → nx (a.put o.dst (val σ' u)) w') → o.wpIn (FW r) n P a w nx Q
def OBS (P : Program) (N : Nat) (o : Oper) (b : OBox) : Prop := ∀ f, b = .mk f → OpS P N o f
theorem OBS.mk {P : Program} {N : Nat} {o : Oper} {f : OpT} (h : OpS P N o f) : OBS P N o (.mk f) := fun g e => by cases e; exact h
theorem opS_no (P : Program) (N : Nat) (o : Oper) : OpS P N o opNo := fun _ _ _ _ _ _ _ call k v hf _ _ _ h => by cases h
theorem OBS.no {P : Program} {N : Nat} {o : Oper} : OBS P N o (.mk opNo) := .mk (opS_no P N o)
def Ran (P : Program) (s : Sem Next) (w : World) (V : Value) (w' : World) : Prop := s.run P w = .ok (.value V) w' ∨ (s.run P w = .ok .skip w' ∧ V = undef)
theorem wpIn_of_ran {P : Program} {o : Oper} {a : Act} {w w' : World} {V : Value} {r : Option Nat} {n : Nat} {nx : Act → World → Prop} {Q : Exit → Act → World → Prop}
    (hd : ∀ c, o.op ≠ .defer c) (hr : Ran P (execOp a.eval o) w V w') (hn : nx (a.put o.dst V) w') : o.wpIn (FW r) n P a w nx Q := by
  refine ⟨fun _ _ => trivial, ?_⟩
  rw [Oper.semAt_eq _ _ _ hd]
  rcases hr with hr | ⟨hr, rfl⟩ <;> rw [hr] <;> exact hn
def Fin (P : Program) (B : Nat) (w0 : World) (σ : Ren) (h : FH) (w : World) (s : Sem Next) (k : KV) (v : FV) (hf : FH) : Prop :=
  ∃ u h1 σ' w', k u h1 = .ok v hf ∧ h1.ro = h.ro ∧ h.next ≤ h1.next ∧ Ext h.next σ σ' ∧ HR P B w0 σ' h1 w' ∧ u.ok h1.next ∧ Ran P s w (val σ' u) w'
theorem opS_of_fin {P : Program} {N : Nat} {o : Oper} {f : OpT} (hd : ∀ c, o.op ≠ .defer c)
    (H : ∀ ⦃B : Nat⦄ ⦃w0 : World⦄ ⦃σ : Ren⦄ ⦃ts : T3⦄ ⦃h : FH⦄ ⦃a : Act⦄ ⦃w : World⦄ (call : CallT) (k : KV) (v : FV) (hf : FH), HR P B w0 σ h w → TR σ h.next N ts a.tmps → f call ts h k = .ok v hf →
      Fin P B w0 σ h w (execOp a.eval o) k v hf) : OpS P N o f := by
  intro B w0 σ ts h a w call k v hf _ hR hT he
  obtain ⟨u, h1, σ', w', e1, e2, e3, e4, e5, e6, e7⟩ := H call k v hf hR hT he
  exact fun r n nx Q hn => wpIn_of_ran hd e7 (hn u h1 σ' w' e1 e2 e3 e4 e5 e6)
/-! ### taking continuations apart -/
section
variable {v : FV} {hf : FH}
theorem opt_ok {α : Type} {x : Option α} {k : α → Ro} (h : opt x k = .ok v hf) : ∃ y, x = some y ∧ k y = .ok v hf := by
  cases x with
  | none => cases h
  | some y => exact ⟨y, rfl, h⟩
theorem iff_ok {b : Bool} {r : Ro} (h : iff' b r = .ok v hf) : b = true ∧ r = .ok v hf := by
  cases b with
  | false => cases h
  | true => exact ⟨rfl, h⟩
theorem asInt_ok {x : FV} {k : IntKind → Int → Ro} (h : x.asInt k = .ok v hf) : ∃ j n, x = .int j n ∧ k j n = .ok v hf := by
  cases x <;> first | exact ⟨_, _, rfl, h⟩ | cases h
theorem asBool_ok {x : FV} {k : Bool → Ro} (h : x.asBool k = .ok v hf) : ∃ b, x = .bool b ∧ k b = .ok v hf := by
  cases x <;> first | exact ⟨_, rfl, h⟩ | cases h
theorem asPtr_ok {x : FV} {k : Nat → Nat → Ro} (h : x.asPtr k = .ok v hf) : ∃ i o, x = .ptr i o ∧ k i o = .ok v hf := by
  cases x <;> first | exact ⟨_, _, rfl, h⟩ | cases h
theorem asAgg_ok {x : FV} {k : List FV → Ro} (h : x.asAgg k = .ok v hf) : ∃ l, x = .agg l ∧ k l = .ok v hf := by
  cases x <;> first | exact ⟨_, rfl, h⟩ | cases h
theorem asTup_ok {x : FV} {k : List FV → Ro} (h : x.asTup k = .ok v hf) : ∃ l, x = .tup l ∧ k l = .ok v hf := by
  cases x <;> first | exact ⟨_, rfl, h⟩ | cases h
theorem asSlice_ok {x : FV} {k : Nat → Nat → Nat → Bool → Nat → Ro} (h : x.asSlice k = .ok v hf) : ∃ i o l c d, x = .slice i o l c d ∧ k i o l c d = .ok v hf := by
  cases x <;> first | exact ⟨_, _, _, _, _, rfl, h⟩ | cases h
theorem asNat_ok {x : FV} {k : Nat → Ro} (h : asNat x k = .ok v hf) : ∃ j n, x = .int j (.ofNat n) ∧ k n = .ok v hf := by
  obtain ⟨j, n, rfl, h⟩ := asInt_ok h
  cases n with
  | ofNat n => exact ⟨j, n, rfl, h⟩
  | negSucc n => cases h
theorem cells_ok' {h : FH} {i : Nat} {k : TypeId → Nat → Nat → KT FV → Ro} (hh : h.cells i k = .ok v hf) : ∃ t g m cs, h.get i = some (.cells t g m cs) ∧ k t g m cs = .ok v hf := by
  unfold FH.cells at hh
  cases hg : h.get i with
  | none => rw [hg] at hh; cases hh
  | some b =>
    rw [hg] at hh
    cases b <;> first | exact ⟨_, _, _, _, rfl, hh⟩ | cases hh
theorem map_ok' {h : FH} {i : Nat} {k : List (FV × FV × Nat) → Nat → Ro} (hh : h.map i k = .ok v hf) : ∃ es c, h.get i = some (.map es c) ∧ k es c = .ok v hf := by
  unfold FH.map at hh
  cases hg : h.get i with
  | none => rw [hg] at hh; cases hh
  | some b =>
    rw [hg] at hh
    cases b <;> first | exact ⟨_, _, rfl, hh⟩ | cases hh
end
theorem ble {a b : Nat} (h : Nat.ble a b = true) : a ≤ b := Nat.le_of_ble_eq_true h
theorem beq {a b : Nat} (h : Nat.beq a b = true) : a = b := Nat.eq_of_beq_eq_true h
theorem and_true' {a b : Bool} (h : (a && b) = true) : a = true ∧ b = true := by simpa using h
/-! ### operands -/
theorem Act.getD_of {a : Act} {t : Nat} {V : Value} (h : a.tmps[t]? = some V) : a.eval (.tmp t) = V := by
  simp [Act.eval, h]
theorem ev_sound {N n : Nat} {σ : Ren} {ts : T3} {a : Act} (hT : TR σ n N ts a.tmps) {x : Operand} {k : FV → Ro} {v : FV} {hf : FH} (h : (cO N x).ev ts k = .ok v hf) :
    ∃ u, k u = .ok v hf ∧ a.eval x = val σ u ∧ u.ok n := by
  cases x with
  | tmp t =>
    simp only [cO] at h
    rw [cP_eq] at h
    by_cases hc : t + 1 ≤ N ∧ t ≤ 215
    · rw [if_pos hc] at h
      have h' : (@Option.rec FV (fun _ => Ro) .no k (getP t ts)) = .ok v hf := h
      cases hg : getP t ts with
      | none => rw [hg] at h'; cases h'
      | some u =>
        rw [hg] at h'
        obtain ⟨e1, e2⟩ := hT.2 t u hc.1 hc.2 hg
        exact ⟨u, h', Act.getD_of e1, e2⟩
    · rw [if_neg hc] at h; cases h
  | const V =>
    simp only [cO] at h
    cases hc : cv V with
    | none => rw [hc] at h; cases h
    | some u =>
      rw [hc] at h
      obtain ⟨e1, e2⟩ := cv_val (n := n) σ V u hc
      exact ⟨u, h, e1.symm, e2⟩
  | func f => exact ⟨_, h, rfl, by simp [FV.ok, oks]⟩
  | global g => cases h
theorem evL_sound {N n : Nat} {σ : Ren} {ts : T3} {a : Act} (hT : TR σ n N ts a.tmps) : ∀ (l : List Operand) {k : List FV → Ro} {v : FV} {hf : FH}, evL (l.map (cO N)) ts k = .ok v hf →
    ∃ us, k us = .ok v hf ∧ l.map a.eval = vals σ us ∧ oks n us
  | [], k, v, hf, h => ⟨[], h, rfl, trivial⟩
  | x :: l, k, v, hf, h => by
    have h' : (cO N x).ev ts (fun v => evL (l.map (cO N)) ts fun r => k (v :: r)) = .ok v hf := h
    obtain ⟨u, e1, e2, e3⟩ := ev_sound hT h'
    obtain ⟨us, f1, f2, f3⟩ := evL_sound hT l e1
    exact ⟨u :: us, f1, by simp only [List.map_cons, vals, e2, f2], ⟨e3, f3⟩⟩
def H1S (P : Program) (f : H1) (sem : Value → Sem Next) : Prop :=
  ∀ ⦃B : Nat⦄ ⦃w0 : World⦄ ⦃σ : Ren⦄ ⦃h : FH⦄ ⦃w : World⦄ (x : FV) (k : KV) (v : FV) (hf : FH), HR P B w0 σ h w → x.ok h.next → f x h k = .ok v hf → Fin P B w0 σ h w (sem (val σ x)) k v hf
def H2S (P : Program) (f : H2) (sem : Value → Value → Sem Next) : Prop :=
  ∀ ⦃B : Nat⦄ ⦃w0 : World⦄ ⦃σ : Ren⦄ ⦃h : FH⦄ ⦃w : World⦄ (x y : FV) (k : KV) (v : FV) (hf : FH), HR P B w0 σ h w → x.ok h.next → y.ok h.next → f x y h k = .ok v hf → Fin P B w0 σ h w (sem (val σ x) (val σ y)) k v hf
def H3S (P : Program) (f : H3) (sem : Value → Value → Value → Sem Next) : Prop :=
  ∀ ⦃B : Nat⦄ ⦃w0 : World⦄ ⦃σ : Ren⦄ ⦃h : FH⦄ ⦃w : World⦄ (x y z : FV) (k : KV) (v : FV) (hf : FH), HR P B w0 σ h w → x.ok h.next → y.ok h.next → z.ok h.next → f x y z h k = .ok v hf → Fin P B w0 σ h w (sem (val σ x) (val σ y) (val σ z)) k v hf
def HLS (P : Program) (f : HL) (sem : List Value → Sem Next) : Prop :=
  ∀ ⦃B : Nat⦄ ⦃w0 : World⦄ ⦃σ : Ren⦄ ⦃h : FH⦄ ⦃w : World⦄ (x : List FV) (k : KV) (v : FV) (hf : FH), HR P B w0 σ h w → oks h.next x → f x h k = .ok v hf → Fin P B w0 σ h w (sem (vals σ x)) k v hf
theorem op1_sound {P : Program} {N : Nat} {o : Oper} {f : H1} {sem : Value → Sem Next} {x : Operand} (hf : H1S P f sem) (hd : ∀ c, o.op ≠ .defer c) (he : ∀ ρ, execOp ρ o = sem (ρ x)) : OpS P N o (op1 (cO N x) f) :=
  opS_of_fin hd fun _ _ _ _ _ _ _ call k v hf' hR hT h => by
    obtain ⟨u, e1, e2, e3⟩ := ev_sound hT h
    rw [he, e2]; exact hf u k v hf' hR e3 e1
theorem op2_sound {P : Program} {N : Nat} {o : Oper} {f : H2} {sem : Value → Value → Sem Next} {x y : Operand} (hf : H2S P f sem) (hd : ∀ c, o.op ≠ .defer c) (he : ∀ ρ, execOp ρ o = sem (ρ x) (ρ y)) : OpS P N o (op2 (cO N x) (cO N y) f) :=
  opS_of_fin hd fun _ _ _ _ _ _ _ call k v hf' hR hT h => by
    obtain ⟨u, e1, e2, e3⟩ := ev_sound hT h
    obtain ⟨u', f1, f2, f3⟩ := ev_sound hT e1
    rw [he, e2, f2]; exact hf u u' k v hf' hR e3 f3 f1
theorem op3_sound {P : Program} {N : Nat} {o : Oper} {f : H3} {sem : Value → Value → Value → Sem Next} {x y z : Operand} (hf : H3S P f sem) (hd : ∀ c, o.op ≠ .defer c) (he : ∀ ρ, execOp ρ o = sem (ρ x) (ρ y) (ρ z)) : OpS P N o (op3 (cO N x) (cO N y) (cO N z) f) :=
  opS_of_fin hd fun _ _ _ _ _ _ _ call k v hf' hR hT h => by
    obtain ⟨u, e1, e2, e3⟩ := ev_sound hT h
    obtain ⟨u', f1, f2, f3⟩ := ev_sound hT e1
    obtain ⟨u'', g1, g2, g3⟩ := ev_sound hT f1
    rw [he, e2, f2, g2]; exact hf u u' u'' k v hf' hR e3 f3 g3 g1
theorem opL_sound {P : Program} {N : Nat} {o : Oper} {f : HL} {sem : List Value → Sem Next} {l : List Operand} (hf : HLS P f sem) (hd : ∀ c, o.op ≠ .defer c) (he : ∀ ρ, execOp ρ o = sem (l.map ρ)) : OpS P N o (opL (l.map (cO N)) f) :=
  opS_of_fin hd fun _ _ _ _ _ _ _ call k v hf' hR hT h => by
    obtain ⟨us, e1, e2, e3⟩ := evL_sound hT l h
    rw [he, e2]; exact hf us k v hf' hR e3 e1
def FinP (P : Program) (σ : Ren) (h : FH) (w : World) (s : Sem Next) (k : KV) (v : FV) (hf : FH) : Prop := ∃ u, k u h = .ok v hf ∧ u.ok h.next ∧ Ran P s w (val σ u) w
theorem FinP.here {P : Program} {B : Nat} {w0 : World} {σ : Ren} {h : FH} {w : World} {s : Sem Next} {k : KV} {v u : FV} {hf : FH} (hR : HR P B w0 σ h w) (hu : u.ok h.next) (hk : k u h = .ok v hf) (hs : s.run P w = .ok (.value (val σ u)) w) : FinP P σ h w s k v hf :=
  ⟨u, hk, hu, .inl hs⟩
theorem FinP.fin {P : Program} {B : Nat} {w0 : World} {σ : Ren} {h : FH} {w : World} {s : Sem Next} {k : KV} {v : FV} {hf : FH} (H : FinP P σ h w s k v hf) (hR : HR P B w0 σ h w) : Fin P B w0 σ h w s k v hf :=
  ⟨H.choose, h, σ, w, H.choose_spec.1, rfl, Nat.le_refl _, Ext.refl _ _, hR, H.choose_spec.2.1, H.choose_spec.2.2⟩
def PurS (P : Program) (N : Nat) (o : Oper) (f : OpT) : Prop :=
  ∀ ⦃B : Nat⦄ ⦃w0 : World⦄ ⦃σ : Ren⦄ ⦃ts : T3⦄ ⦃h : FH⦄ ⦃a : Act⦄ ⦃w : World⦄ (call : CallT) (k : KV) (v : FV) (hf : FH), HR P B w0 σ h w → TR σ h.next N ts a.tmps → f call ts h k = .ok v hf → FinP P σ h w (execOp a.eval o) k v hf
def PBS (P : Program) (N : Nat) (o : Oper) (b : OBox) : Prop := (∀ c, o.op ≠ .defer c) ∧ ∀ f, b = .mk f → PurS P N o f
def H1P (P : Program) (f : H1) (sem : Value → Sem Next) : Prop :=
  ∀ ⦃B : Nat⦄ ⦃w0 : World⦄ ⦃σ : Ren⦄ ⦃h : FH⦄ ⦃w : World⦄ (x : FV) (k : KV) (v : FV) (hf : FH), HR P B w0 σ h w → x.ok h.next → f x h k = .ok v hf → FinP P σ h w (sem (val σ x)) k v hf
theorem H1P.toS {P : Program} {f : H1} {sem : Value → Sem Next} (H : H1P P f sem) : H1S P f sem := fun B w0 σ h w x k v hf hR hx he => (H x k v hf hR hx he).fin hR
def H2P (P : Program) (f : H2) (sem : Value → Value → Sem Next) : Prop :=
  ∀ ⦃B : Nat⦄ ⦃w0 : World⦄ ⦃σ : Ren⦄ ⦃h : FH⦄ ⦃w : World⦄ (x y : FV) (k : KV) (v : FV) (hf : FH), HR P B w0 σ h w → x.ok h.next → y.ok h.next → f x y h k = .ok v hf → FinP P σ h w (sem (val σ x) (val σ y)) k v hf
theorem H2P.toS {P : Program} {f : H2} {sem : Value → Value → Sem Next} (H : H2P P f sem) : H2S P f sem := fun B w0 σ h w x y k v hf hR hx hy he => (H x y k v hf hR hx hy he).fin hR
def H3P (P : Program) (f : H3) (sem : Value → Value → Value → Sem Next) : Prop :=
  ∀ ⦃B : Nat⦄ ⦃w0 : World⦄ ⦃σ : Ren⦄ ⦃h : FH⦄ ⦃w : World⦄ (x y z : FV) (k : KV) (v : FV) (hf : FH), HR P B w0 σ h w → x.ok h.next → y.ok h.next → z.ok h.next → f x y z h k = .ok v hf → FinP P σ h w (sem (val σ x) (val σ y) (val σ z)) k v hf
theorem H3P.toS {P : Program} {f : H3} {sem : Value → Value → Value → Sem Next} (H : H3P P f sem) : H3S P f sem := fun B w0 σ h w x y z k v hf hR hx hy hz he => (H x y z k v hf hR hx hy hz he).fin hR
def HLP (P : Program) (f : HL) (sem : List Value → Sem Next) : Prop :=
  ∀ ⦃B : Nat⦄ ⦃w0 : World⦄ ⦃σ : Ren⦄ ⦃h : FH⦄ ⦃w : World⦄ (x : List FV) (k : KV) (v : FV) (hf : FH), HR P B w0 σ h w → oks h.next x → f x h k = .ok v hf → FinP P σ h w (sem (vals σ x)) k v hf
theorem HLP.toS {P : Program} {f : HL} {sem : List Value → Sem Next} (H : HLP P f sem) : HLS P f sem := fun B w0 σ h w x k v hf hR hx he => (H x k v hf hR hx he).fin hR
theorem opP_of_fin {P : Program} {N : Nat} {o : Oper} {f : OpT} (hd : ∀ c, o.op ≠ .defer c)
    (H : ∀ ⦃B : Nat⦄ ⦃w0 : World⦄ ⦃σ : Ren⦄ ⦃ts : T3⦄ ⦃h : FH⦄ ⦃a : Act⦄ ⦃w : World⦄ (call : CallT) (k : KV) (v : FV) (hf : FH), HR P B w0 σ h w → TR σ h.next N ts a.tmps → f call ts h k = .ok v hf →
      FinP P σ h w (execOp a.eval o) k v hf) : PBS P N o (.mk f) := ⟨hd, fun g e => by cases e; exact H⟩
theorem PBS.obs {P : Program} {N : Nat} {o : Oper} {b : OBox} (H : PBS P N o b) : OBS P N o b := fun f e => opS_of_fin H.1 fun B w0 σ ts h a w call k v hf hR hT he => (H.2 f e call k v hf hR hT he).fin hR
theorem PBS.no {P : Program} {N : Nat} {o : Oper} (hd : ∀ c, o.op ≠ .defer c := by simp [*]) : PBS P N o (.mk opNo) := ⟨hd, fun f e => by cases e; intro B w0 σ ts h a w call k v hf _ _ he; cases he⟩
theorem op1_pure {P : Program} {N : Nat} {o : Oper} {f : H1} {sem : Value → Sem Next} {x : Operand} (hf : H1P P f sem) (hd : ∀ c, o.op ≠ .defer c) (he : ∀ ρ, execOp ρ o = sem (ρ x)) : PBS P N o (.mk (op1 (cO N x) f)) :=
  opP_of_fin hd fun _ _ _ _ _ _ _ call k v hf' hR hT h => by
    obtain ⟨u, e1, e2, e3⟩ := ev_sound hT h
    rw [he, e2]; exact hf u k v hf' hR e3 e1
theorem op2_pure {P : Program} {N : Nat} {o : Oper} {f : H2} {sem : Value → Value → Sem Next} {x y : Operand} (hf : H2P P f sem) (hd : ∀ c, o.op ≠ .defer c) (he : ∀ ρ, execOp ρ o = sem (ρ x) (ρ y)) : PBS P N o (.mk (op2 (cO N x) (cO N y) f)) :=
  opP_of_fin hd fun _ _ _ _ _ _ _ call k v hf' hR hT h => by
    obtain ⟨u, e1, e2, e3⟩ := ev_sound hT h
    obtain ⟨u', f1, f2, f3⟩ := ev_sound hT e1
    rw [he, e2, f2]; exact hf u u' k v hf' hR e3 f3 f1
theorem opL_pure {P : Program} {N : Nat} {o : Oper} {f : HL} {sem : List Value → Sem Next} {l : List Operand} (hf : HLP P f sem) (hd : ∀ c, o.op ≠ .defer c) (he : ∀ ρ, execOp ρ o = sem (l.map ρ)) : PBS P N o (.mk (opL (l.map (cO N)) f)) :=
  opP_of_fin hd fun _ _ _ _ _ _ _ call k v hf' hR hT h => by
    obtain ⟨us, e1, e2, e3⟩ := evL_sound hT l h
    rw [he, e2]; exact hf us k v hf' hR e3 e1
theorem Fin.here {P : Program} {B : Nat} {w0 : World} {σ : Ren} {h : FH} {w : World} {s : Sem Next} {k : KV} {v u : FV} {hf : FH} (hR : HR P B w0 σ h w) (hu : u.ok h.next) (hk : k u h = .ok v hf) (hs : s.run P w = .ok (.value (val σ u)) w) : Fin P B w0 σ h w s k v hf :=
  ⟨u, h, σ, w, hk, rfl, Nat.le_refl _, Ext.refl _ _, hR, hu, .inl hs⟩
theorem Fin.new {P : Program} {B : Nat} {w0 : World} {σ σ' : Ren} {h : FH} {w : World} {s : Sem Next} {k : KV} {v u : FV} {hf : FH} {o : Obj} {b : Blk} (hR : HR P B w0 σ h w) (he : Ext h.next σ σ') (hb : σ'.blk h.next = w.heap.size)
    (hbo : BO P σ' (h.next + 1) h.next o b) (hu : u.ok (h.next + 1)) (hk : k u (h.new b) = .ok v hf) (hs : s.run P w = .ok (.value (val σ' u)) (w.alloc o)) : Fin P B w0 σ h w s k v hf :=
  ⟨u, h.new b, σ', w.alloc o, hk, rfl, Nat.le_succ _, he, hR.new he hb hbo, hu, .inl hs⟩
theorem Fin.newD {P : Program} {B : Nat} {w0 : World} {σ σ' : Ren} {h : FH} {w : World} {s : Sem Next} {k : KV} {v u : FV} {hf : FH} {o : Obj} {b : Blk} (hR : HR P B w0 σ h w) (he : Ext h.next σ σ') (hb : σ'.blk h.next = w.heap.size)
    (hbo : BO P σ' (h.next + 1) h.next o b) (hu : u.ok (h.next + 1)) (hk : k u (h.new b) = .ok v hf) (hs : s.run P w = .ok (.value (val σ' u)) (w.drew.alloc o)) : Fin P B w0 σ h w s k v hf :=
  ⟨u, h.new b, σ', w.drew.alloc o, hk, rfl, Nat.le_succ _, he, hR.drew.new he hb hbo, hu, .inl hs⟩
theorem Fin.put {P : Program} {B : Nat} {w0 : World} {σ : Ren} {h : FH} {w w' : World} {s : Sem Next} {k : KV} {v u : FV} {hf : FH} {i : Nat} {b b0 : Blk} {o : Obj} (hR : HR P B w0 σ h w) (hi : h.get i = some b0) (hb0 : Wr b0) (hr : h.ro ≤ i)
    (hU : Upd (σ.blk i) o w w') (hbo : BO P σ h.next i o b) (hu : u.ok h.next) (hk : k u (h.put i b) = .ok v hf) (hs : Ran P s w (val σ u) w') : Fin P B w0 σ h w s k v hf :=
  ⟨u, h.put i b, σ, w', hk, rfl, Nat.le_refl _, Ext.refl _ _, hR.put hi hb0 hr hU hbo, hu, hs⟩
theorem BO.row {P : Program} {σ : Ren} {n : Nat} (l : List FV) (t : TypeId) (m : Nat) (hm : m ≤ l.length) (hl : ∀ v ∈ l, v.ok n ∧ v.flat = true) (b c : Nat) :
    BO P (σ.add n b 0 c) (n + 1) n (.cells (vals σ l).toArray t) (.cells t 0 m (KT.fill l 0 .nil)) := by
  refine ⟨_, _, rfl, by simp [vals_eq]; omega, fun _ => rfl, fun hg => (by cases hg), fun j v hj hv => ?_⟩
  rcases KT.get_fill l 0 .nil j v hv with ⟨_, a⟩ | a
  · have hmem := List.mem_of_getElem? a
    refine ⟨?_, ok_mono (Nat.le_succ n) _ (hl v hmem).1, (hl v hmem).2⟩
    rw [Ren.add_base, val_ext (Ren.add_ext σ n b 0 c) v (hl v hmem).1]
    simp only [vals_eq, Nat.zero_add, List.getElem?_toArray, List.getElem?_map]
    simp only [Nat.sub_zero] at a
    rw [a]; rfl
  · simp [KT.get_nil] at a
end Go.Ev

/-  -/
set_option linter.unusedVariables false
namespace Go.Ev
open Go.RowKit
variable {P : Program} {N : Nat}
theorem info_size {t : TypeId} {n : Nat} (h : sizeT P t = some n) : ∃ i, P.info? t = some i ∧ i.size = n := by
  unfold sizeT at h
  cases hi : P.info? t with
  | none => rw [hi] at h; cases h
  | some i => rw [hi] at h; exact ⟨i, rfl, Option.some.inj h⟩
theorem run_sizeT {t : TypeId} {n : Nat} (h : sizeT P t = some n) (w : World) : (sizeOf t).run P w = .ok n w := by
  obtain ⟨i, h1, h2⟩ := info_size h
  simp [sizeOf, typeInfo, h1, h2]
theorem run_aggT {t : TypeId} {b : Bool} (h : aggT P t = some b) (w : World) : (isAgg t).run P w = .ok b w := by
  unfold aggT at h
  cases hu : P.underlying t with
  | none => rw [hu] at h; cases h
  | some d =>
    rw [hu] at h
    simp only [Option.map_some, Option.some.injEq] at h
    subst h
    cases d <;> simp [isAgg, run_underlying hu, aggD]
theorem zero_of {t : TypeId} {z : FV} (h : zeroT P t = some z) : ∃ V, (∀ w, (zeroValue t).run P w = .ok V w) ∧ ∀ n σ, val σ z = V ∧ z.ok n := by
  unfold zeroT at h
  cases hi : P.info? t with
  | none => rw [hi] at h; cases h
  | some i =>
    rw [hi] at h
    cases hz : i.zero with
    | none => simp [hz] at h
    | some V =>
      simp [hz] at h
      exact ⟨V, fun w => by simp [zeroValue, typeInfo, hi, hz], fun n σ => cv_val σ V z h⟩
/-! ### moves -/
theorem fMove_s : H1P P fMove fun x => pure (.value x) := fun _ _ _ _ _ x k v hf hR hx h => FinP.here hR hx h rfl
theorem cMove_s {o : Oper} {x : Operand} (ho : o.op = .move x) : PBS P N o (cMove P N x) :=
  (op1_pure fMove_s (by simp [ho]) fun ρ => by simp [execOp, ho])
theorem cAssign_s {o : Oper} {x : Operand} (ho : o.op = .assign x) : PBS P N o (cAssign P N x) :=
  (op1_pure fMove_s (by simp [ho]) fun ρ => by simp [execOp, ho])
theorem cPick_s {o : Oper} {c x y : Operand} (ho : o.op = .pick c x y) : PBS P N o (cPick P N c x y) :=
  (opP_of_fin (by simp [ho]) fun B w0 σ ts h a w call k v hf hR hT he => by
    obtain ⟨u, e1, e2, e3⟩ := ev_sound hT he
    obtain ⟨b, rfl, e4⟩ := asBool_ok e1
    have hx : (execOp a.eval o) = (do pure (.value (if ← asBool (a.eval c) then a.eval x else a.eval y))) := by simp [execOp, ho]
    rw [hx, e2]
    cases b with
    | true =>
      obtain ⟨u, f1, f2, f3⟩ := ev_sound hT (show (cO N x).ev ts (fun v => k v h) = .ok v hf from e4)
      exact FinP.here hR f3 f1 (by simp [val, asBool, f2])
    | false =>
      obtain ⟨u, f1, f2, f3⟩ := ev_sound hT (show (cO N y).ev ts (fun v => k v h) = .ok v hf from e4)
      exact FinP.here hR f3 f1 (by simp [val, asBool, f2]))
/-! ### new variables -/
theorem newVar_run {V : Value} (t : TypeId) (w : World) : (newVar t V).run P w = .ok ⟨w.heap.size, 0, none⟩ (w.alloc (.cells V.cells t)) := by
  simp [newVar, newRow]
theorem cAlloc_s {o : Oper} {t : TypeId} (ho : o.op = .alloc t) : OBS P N o (cAlloc P N t) := by
  unfold cAlloc
  cases hz : zeroT P t with
  | none => exact .no
  | some z =>
    obtain ⟨V, hV, hz'⟩ := zero_of hz
    cases hcell : z.cell with
    | false => simp only [hcell, cond_false]; exact .no
    | true =>
    simp only [hcell, cond_true]
    refine .mk (opS_of_fin (by simp [ho]) fun B w0 σ ts h a w call k v hf hR hT he => ?_)
    refine Fin.new (σ' := σ.add h.next w.heap.size 0 0) (o := .cells (vals σ z.cells).toArray t) hR (Ren.add_ext _ _ _ _ _) (Ren.add_blk _ _ _ _ _) (BO.row z.cells t _ (Nat.le_refl _) (cells_ok (hz' h.next σ).2 hcell) _ _) (by simp [FV.ok]) he ?_
    have := hV w
    simp [execOp, ho, Instr.alloc, this, newVar_run, val, ← (hz' h.next σ).1, val_cells, vals_eq]
theorem fBox_s (t : TypeId) : H1S P (fBox t) fun x => (do pure (.value (← Instr.box t x))) := fun B w0 σ h w x k v hf hR hx he => by
  obtain ⟨e1, e2⟩ := iff_ok he
  refine Fin.new (σ' := σ.add h.next w.heap.size 0 0) (o := .cells (vals σ x.cells).toArray t) hR (Ren.add_ext _ _ _ _ _) (Ren.add_blk _ _ _ _ _) (BO.row x.cells t _ (Nat.le_refl _) (cells_ok hx e1) _ _) (by simp [FV.ok]) e2 ?_
  simp [Instr.box, newVar_run, val, val_cells, vals_eq]
theorem cBox_s {o : Oper} {t : TypeId} {x : Operand} (ho : o.op = .box t x) : OBS P N o (cBox P N t x) :=
  .mk (op1_sound (f := boxK t) (by rw [boxK_eq]; exact fBox_s t) (by simp [ho]) fun ρ => by simp [execOp, ho])
/-! ### loads and stores -/
theorem BO.read {σ : Ren} {n i : Nat} {o : Obj} {t : TypeId} {g m : Nat} {cs : KT FV} (h : BO P σ n i o (.cells t g m cs)) {off k : Nat} (hm : off + k ≤ m) {l : List FV} (hl : readN cs off k = some l) :
    ∃ c fr, o = .cells c t fr ∧ l.length = k ∧ (∀ v ∈ l, v.ok n ∧ v.flat = true) ∧ (∀ j v, (vals σ l)[j]? = some v → c[σ.base i + off + j]? = some v) := by
  obtain ⟨c, fr, h1, h2, h3, h4, h5⟩ := h
  obtain ⟨r1, r2⟩ := readN_some k off l hl
  refine ⟨c, fr, h1, r1, fun v hv => ?_, fun j v hj => ?_⟩
  · obtain ⟨j, hj⟩ := List.getElem?_of_mem hv
    have hlt : j < k := by have := (List.getElem?_eq_some_iff.1 hj).1; omega
    obtain ⟨u, a, b⟩ := r2 j hlt
    rw [hj] at a; cases a
    obtain ⟨_, x, y⟩ := h5 (off + j) v (by omega) b
    exact ⟨x, y⟩
  · rw [vals_eq, List.getElem?_map] at hj
    cases hq : l[j]? with
    | none => rw [hq] at hj; cases hj
    | some u =>
      rw [hq] at hj; cases hj
      have hlt : j < k := by have := (List.getElem?_eq_some_iff.1 hq).1; omega
      obtain ⟨u', a, b⟩ := r2 j hlt
      rw [hq] at a; cases a
      obtain ⟨x, _, _⟩ := h5 (off + j) u (by omega) b
      rw [show σ.base i + off + j = σ.base i + (off + j) from by omega]; exact x
theorem HR.loadCells {B : Nat} {w0 : World} {σ : Ren} {h : FH} {w : World} (H : HR P B w0 σ h w) {i : Nat} {t : TypeId} {g m : Nat} {cs : KT FV} (hi : h.get i = some (.cells t g m cs)) {off k : Nat} (hm : off + k ≤ m) {l : List FV} (hl : readN cs off k = some l) :
    (loadCells ⟨σ.blk i, σ.base i + off, none⟩ k).run P w = .ok (vals σ l).toArray w ∧ (∀ v ∈ l, v.ok h.next ∧ v.flat = true) ∧ l.length = k := by
  obtain ⟨o, ho, hb⟩ := H.blk i _ hi (by simp)
  obtain ⟨c, fr, e1, e2, e3, e4⟩ := hb.read hm hl
  subst e1
  have := run_read (P := P) ho (vals σ l) (o := σ.base i + off) (fun j v hj => by exact e4 j v hj)
  rw [show (vals σ l).length = k from by rw [vals_eq]; simpa using e2] at this
  exact ⟨this, e3, e2⟩
theorem fLoadN_s {t : TypeId} {n : Nat} (h1 : sizeT P t = some n) (h2 : aggT P t = some true) : H1P P (fLoadN n) fun a => (do pure (.value (← Instr.loadAt t a))) := fun B w0 σ h w x k v hf hR hx he => by
  obtain ⟨i, off, rfl, e⟩ := asPtr_ok he
  obtain ⟨u, g, m, cs, hi, e⟩ := cells_ok' e
  obtain ⟨hm, e⟩ := iff_ok e
  obtain ⟨l, hl, e⟩ := opt_ok e
  obtain ⟨r1, r2, r3⟩ := hR.loadCells hi (ble hm) hl
  refine FinP.here hR ?_ e ?_
  · simp only [FV.ok, List.all_eq_true]
    exact ⟨oks_iff.2 fun v hv => (r2 v hv).1, fun v hv => (r2 v hv).2⟩
  · simp [Instr.loadAt, Instr.sureAddr, loadVar, val, run_aggT h2, run_sizeT h1, r1]
theorem fLoad1_s {t : TypeId} (h2 : aggT P t = some false) : H1P P fLoad1 fun a => (do pure (.value (← Instr.loadAt t a))) := fun B w0 σ h w x k v hf hR hx he => by
  obtain ⟨i, off, rfl, e⟩ := asPtr_ok he
  obtain ⟨u, g, m, cs, hi, e⟩ := cells_ok' e
  obtain ⟨hm, e⟩ := iff_ok e
  obtain ⟨l, hl, e⟩ := opt_ok e
  obtain ⟨o, ho, c, fr, rfl, h2', h3, h4, h5⟩ := hR.blk i _ hi (by simp)
  obtain ⟨a1, a2, a3⟩ := h5 off l (by have := ble hm; omega) hl
  refine FinP.here hR a2 e ?_
  have hc : w.cell? ⟨σ.blk i, σ.base i + off, none⟩ = some (val σ l) := by rw [cell_of_row w _ _ c u fr ho]; exact a1
  simp [Instr.loadAt, Instr.sureAddr, loadVar, val, run_aggT h2, hc]
theorem cLoad_s {o : Oper} {t : TypeId} {x : Operand} (ho : o.op = .load t x) : PBS P N o (cLoad P N t x) := by
  unfold cLoad
  cases h1 : sizeT P t with
  | none => exact .no
  | some n =>
    cases h2 : aggT P t with
    | none => exact .no
    | some b =>
      cases b with
      | true => exact (op1_pure (f := loadNK n) (by rw [loadNK_eq]; exact fLoadN_s h1 h2) (by simp [ho]) fun ρ => by simp [execOp, ho])
      | false => exact (op1_pure (fLoad1_s h2) (by simp [ho]) fun ρ => by simp [execOp, ho])
theorem BO.write {σ : Ren} {n i : Nat} {c : Array Value} {t : TypeId} {fr : Nat × Nat} {g m : Nat} {cs : KT FV} (h : BO P σ n i (.cells c t fr) (.cells t g m cs)) {off : Nat} {l : List FV} (hm : off + l.length ≤ m) (hl : ∀ v ∈ l, v.ok n ∧ v.flat = true) :
    BO P σ n i (.cells (c.toList.take (σ.base i + off) ++ vals σ l ++ c.toList.drop (σ.base i + off + l.length)).toArray t fr) (.cells t g m (writeN cs off l)) := by
  obtain ⟨c', fr', h1, h2, h3, h4, h5⟩ := h
  cases h1
  have hsz : (c.toList.take (σ.base i + off) ++ vals σ l ++ c.toList.drop (σ.base i + off + l.length)).toArray.size = c.size := by
    simp [vals_eq]; omega
  refine ⟨_, _, rfl, by rw [hsz]; exact h2, h3, fun hg => by rw [hsz]; exact h4 hg, fun j v hj hv => ?_⟩
  rcases writeN_get l off cs j v hv with ⟨a, b⟩ | ⟨a, b⟩
  · have hmem := List.mem_of_getElem? b
    have hlt : j - off < l.length := (List.getElem?_eq_some_iff.1 b).1
    refine ⟨?_, hl v hmem⟩
    rw [List.getElem?_toArray, List.append_assoc, List.getElem?_append_right (by simp; omega), List.getElem?_append_left (by simp [vals_eq]; omega)]
    simp only [List.length_take, Array.length_toList]
    rw [show σ.base i + j - min (σ.base i + off) c.size = j - off from by omega, vals_eq, List.getElem?_map, b]; rfl
  · obtain ⟨x, y⟩ := h5 j v hj b
    refine ⟨?_, y⟩
    rw [← x, List.getElem?_toArray, List.append_assoc]
    rcases a with a | a
    · rw [List.getElem?_append_left (by simp; omega), List.getElem?_take_of_lt (by omega)]; simp
    · rw [List.getElem?_append_right (by simp; omega), List.getElem?_append_right (by simp [vals_eq]; omega)]
      simp only [List.length_take, Array.length_toList, List.getElem?_drop, vals_eq, List.length_map]
      rw [show σ.base i + off + l.length + (σ.base i + j - min (σ.base i + off) c.size - l.length) = σ.base i + j from by omega]; simp
theorem flat_all {σ : Ren} {l : List FV} {n : Nat} (hl : ∀ v ∈ l, v.ok n ∧ v.flat = true) : ∀ V ∈ vals σ l, V.oneCell' = true := by
  intro V hV
  rw [vals_eq] at hV
  obtain ⟨u, hu, rfl⟩ := List.mem_map.1 hV
  exact flat_oneCell (hl u hu).2
theorem HR.storeCells {B : Nat} {w0 : World} {σ : Ren} {h : FH} {w : World} (H : HR P B w0 σ h w) {i : Nat} {t : TypeId} {g m : Nat} {cs : KT FV} (hi : h.get i = some (.cells t g m cs)) (hg : g ≤ 1) {off : Nat} {l : List FV} (hm : off + l.length ≤ m)
    (hl : ∀ v ∈ l, v.ok h.next ∧ v.flat = true) : ∃ o w', (storeCells ⟨σ.blk i, σ.base i + off, none⟩ (vals σ l)).run P w = .ok () w' ∧ Upd (σ.blk i) o w w' ∧ BO P σ h.next i o (.cells t g m (writeN cs off l)) := by
  obtain ⟨o, ho, hb⟩ := H.blk i _ hi (by simp)
  have hb' := hb
  obtain ⟨c, fr, rfl, h2, h3, h4, h5⟩ := hb
  have hfr := h3 hg
  subst hfr
  have hst := run_storeCells_at P (σ.blk i) (σ.base i + off) t (vals σ l) 0 c w ho (by simp [vals_eq]; omega) (flat_all hl)
  refine ⟨_, _, hst, upd_setRow ho, ?_⟩
  have := hb'.write hm hl
  simpa [vals_eq] using this
theorem fStore_s {t : TypeId} {n : Nat} (h1 : sizeT P t = some n) : H2S P (fStore n) fun a x => (do Instr.storeAt t a x; pure .skip) := fun B w0 σ h w x y k v hf hR hx hy he => by
  obtain ⟨i, off, rfl, e⟩ := asPtr_ok he
  obtain ⟨u, g, m, cs, hi, e⟩ := cells_ok' e
  obtain ⟨hn, e⟩ := iff_ok e
  obtain ⟨hc, e⟩ := iff_ok e
  obtain ⟨hm, hc⟩ := and_true' hc
  obtain ⟨hc, hg⟩ := and_true' hc
  obtain ⟨hg, hr⟩ := and_true' hg
  have hn' := beq hn
  obtain ⟨o, w', s1, s2, s3⟩ := hR.storeCells hi (ble hg) (off := off) (l := y.cells) (by have := ble hm; omega) (cells_ok hy hc)
  refine Fin.put hR hi (ble hg) (ble hr) s2 s3 (by simp [FV.ok, oks]) e (.inr ⟨?_, rfl⟩)
  have hsz : (val σ y).cells.size = n := by rw [val_cells]; simpa using hn'
  have e3 : (val σ y).cells.toList = vals σ y.cells := by rw [val_cells, vals_eq]
  simp [Instr.storeAt, Instr.sureAddr, storeVar, val, run_sizeT h1, hsz, e3, s1]
theorem cStore_s {o : Oper} {t : TypeId} {x y : Operand} (ho : o.op = .store t x y) : OBS P N o (cStore P N t x y) := by
  unfold cStore
  cases h1 : sizeT P t with
  | none => exact .no
  | some n => exact .mk (op2_sound (f := stoK n) (by rw [stoK_eq]; exact fStore_s h1) (by simp [ho]) fun ρ => by simp [execOp, ho])
/-! ### places -/
theorem fieldT {t : TypeId} {f o s : Nat} {ft : TypeId} (h : Tfield P t f = some (o, s, ft)) : ∃ fs fd, P.underlying t = some (.struct fs) ∧ fs[f]? = some fd ∧ fd.offset = o ∧ fd.type = ft ∧ sizeT P ft = some s := by
  unfold Tfield at h
  cases hu : P.underlying t with
  | none => rw [hu] at h; cases h
  | some d =>
    rw [hu] at h
    cases d <;> try (cases h; done)
    rename_i fs
    simp only at h
    cases hf : fs[f]? with
    | none => rw [hf] at h; cases h
    | some fd =>
      rw [hf] at h
      simp only at h
      cases hs : sizeT P fd.type with
      | none => rw [hs] at h; cases h
      | some s' =>
        rw [hs] at h
        simp only [Option.map_some, Option.some.injEq, Prod.mk.injEq] at h
        obtain ⟨rfl, rfl, rfl⟩ := h
        exact ⟨fs, fd, rfl, hf, rfl, rfl, hs⟩
theorem addr_add (b o k : Nat) : (⟨b, o, none⟩ : Addr).add k = ⟨b, o + k, none⟩ := by unfold Addr.add; split <;> simp_all
theorem cFieldAddr_s {o : Oper} {t : TypeId} {x : Operand} {f : Nat} (ho : o.op = .fieldAddr t x f) : PBS P N o (cFieldAddr P N t x f) := by
  unfold cFieldAddr
  cases h1 : Tfield P t f with
  | none => exact .no
  | some q =>
    obtain ⟨off, s, ft⟩ := q
    obtain ⟨fs, fd, hu, hf, rfl, rfl, hs⟩ := fieldT h1
    cases hz : Nat.beq s 0 with
    | true => simp only [hz, cond_true]; exact .no
    | false =>
      simp only [hz, cond_false]
      have hne : s ≠ 0 := fun e => by subst e; cases hz
      refine (op1_pure (sem := fun x => (do pure (.value (← Instr.fieldAt t x f)))) (fun B w0 σ h w x k v hf' hR hx he => ?_) (by simp [ho]) fun ρ => by simp [execOp, ho])
      obtain ⟨i, off, rfl, e⟩ := asPtr_ok he
      refine FinP.here hR (by simpa [FV.ok] using hx) e ?_
      simp [Instr.fieldAt, Instr.sureAddr, val, run_underlying hu, hf, fieldPlace, run_sizeT hs, hne, addr_add, Nat.add_assoc]
theorem part_s {t : TypeId} {b : Bool} {n off : Nat} {cs : List FV} {u : FV} (h1 : aggT P t = some b) (h2 : sizeT P t = some n) (h : part b n cs off = some u) (σ : Ren) (w : World) {m : Nat} (hc : (FV.agg cs).ok m) :
    (Go.part t (vals σ cs).toArray off).run P w = .ok (val σ u) w ∧ u.ok m := by
  simp only [FV.ok, List.all_eq_true] at hc
  cases b with
  | true =>
    simp only [part, cond_true, Option.some.injEq] at h
    subst h
    refine ⟨?_, ?_⟩
    · simp only [Go.part, Sem.run_bind, run_aggT h1, Result.andThen_ok, if_true, run_sizeT h2, Sem.run_pure, val, vals_eq, List.map_take, List.map_drop]
      congr 2
      simp [List.extract_toArray, List.extract_eq_take_drop]
    · simp only [FV.ok, List.all_eq_true]
      exact ⟨oks_iff.2 fun v hv => oks_iff.1 hc.1 v (List.mem_of_mem_drop (List.mem_of_mem_take hv)), fun v hv => hc.2 v (List.mem_of_mem_drop (List.mem_of_mem_take hv))⟩
  | false =>
    simp only [part, cond_false] at h
    refine ⟨?_, oks_iff.1 hc.1 u (List.mem_of_getElem? h)⟩
    simp [Go.part, run_aggT h1, vals_eq, h]
theorem fField_s {t : TypeId} {f : Nat} {off s : Nat} {ft : TypeId} {b : Bool} (h1 : Tfield P t f = some (off, s, ft)) (h2 : aggT P ft = some b) : H1P P (fField b s off) fun x => (do pure (.value (← Instr.field t x f))) := fun B w0 σ h w x k v hf hR hx he => by
  obtain ⟨fs, fd, hu, hfd, rfl, rfl, hs⟩ := fieldT h1
  obtain ⟨cs, rfl, e⟩ := asAgg_ok he
  obtain ⟨u, hu', e⟩ := opt_ok e
  obtain ⟨r1, r2⟩ := part_s h2 hs hu' σ w hx
  exact FinP.here hR r2 e (by simp [Instr.field, val, run_underlying hu, hfd, asAgg, r1])
theorem cField_s {o : Oper} {t : TypeId} {x : Operand} {f : Nat} (ho : o.op = .field t x f) : PBS P N o (cField P N t x f) := by
  unfold cField
  cases h1 : Tfield P t f with
  | none => exact .no
  | some q =>
    obtain ⟨off, s, ft⟩ := q
    cases h2 : aggT P ft with
    | none => simp only [h2]; exact .no
    | some b => simp only [h2]; exact (op1_pure (f := fldB b s off) (by rw [fldB_eq]; exact fField_s h1 h2) (by simp [ho]) fun ρ => by simp [execOp, ho])
theorem sliceT {t e : TypeId} {s : Nat} (h : Tslice P t = some (e, s)) : P.underlying t = some (.slice e) ∧ sizeT P e = some s := by
  unfold Tslice at h
  cases hu : P.underlying t with
  | none => rw [hu] at h; cases h
  | some d =>
    rw [hu] at h
    cases d <;> try (cases h; done)
    rename_i e'
    simp only at h
    cases hs : sizeT P e' with
    | none => rw [hs] at h; cases h
    | some s' =>
      rw [hs] at h
      simp only [Option.map_some, Option.some.injEq, Prod.mk.injEq] at h
      obtain ⟨rfl, rfl⟩ := h
      exact ⟨rfl, hs⟩
theorem arrT {t e : TypeId} {n s : Nat} (h : Tarr P t = some (n, e, s)) : P.underlying t = some (.array n e) ∧ sizeT P e = some s := by
  unfold Tarr at h
  cases hu : P.underlying t with
  | none => rw [hu] at h; cases h
  | some d =>
    rw [hu] at h
    cases d <;> try (cases h; done)
    rename_i n' e'
    simp only at h
    cases hs : sizeT P e' with
    | none => rw [hs] at h; cases h
    | some s' =>
      rw [hs] at h
      simp only [Option.map_some, Option.some.injEq, Prod.mk.injEq] at h
      obtain ⟨rfl, rfl, rfl⟩ := h
      exact ⟨rfl, hs⟩
theorem cIndexAddr_s {o : Oper} {t : TypeId} {x y : Operand} (ho : o.op = .indexAddr t x y) : PBS P N o (cIndexAddr P N t x y) := by
  unfold cIndexAddr
  cases h1 : Tslice P t with
  | some q =>
    obtain ⟨e, s⟩ := q
    obtain ⟨hu, hs⟩ := sliceT h1
    refine (op2_pure (sem := fun x i => (do pure (.value (← Instr.indexAt t x i)))) (fun B w0 σ h w x y k v hf' hR hx hy he => ?_) (by simp [ho]) fun ρ => by simp [execOp, ho])
    obtain ⟨j, n, rfl, e⟩ := asNat_ok he
    obtain ⟨i, off, len, cx, cap, rfl, e⟩ := asSlice_ok e
    obtain ⟨hn, e⟩ := iff_ok e
    have hn' := ble hn
    refine FinP.here hR (by simpa [FV.ok] using hx) e ?_
    simp [Instr.indexAt, val, run_underlying hu, asIntOf, run_sizeT hs, addr_add, Nat.add_assoc]; exact fun hle => absurd hle (by omega)
  | none =>
    cases h2 : Tarr P t with
    | none => exact .no
    | some q =>
      obtain ⟨n, e, s⟩ := q
      obtain ⟨hu, hs⟩ := arrT h2
      refine (op2_pure (sem := fun x i => (do pure (.value (← Instr.indexAt t x i)))) (fun B w0 σ h w x y k v hf' hR hx hy he => ?_) (by simp [ho]) fun ρ => by simp [execOp, ho])
      obtain ⟨j, m, rfl, e⟩ := asNat_ok he
      obtain ⟨i, off, rfl, e⟩ := asPtr_ok e
      obtain ⟨hn, e⟩ := iff_ok e
      have hn' := ble hn
      refine FinP.here hR (by simpa [FV.ok] using hx) e ?_
      simp [Instr.indexAt, Instr.sureAddr, val, run_underlying hu, asIntOf, run_sizeT hs, addr_add, Nat.add_assoc]; exact fun hle => absurd hle (by omega)
theorem cIndex_s {o : Oper} {t : TypeId} {x y : Operand} (ho : o.op = .index t x y) : PBS P N o (cIndex P N t x y) := by
  have arr : PBS P N o (match Tarr P t with | some (n, e, s) => (match aggT P e with | some b => .mk (op2 (cO N x) (cO N y) (fIndexA b n s)) | none => .mk opNo) | none => .mk opNo) := by
    cases h2 : Tarr P t with
    | none => exact .no
    | some q =>
      obtain ⟨n, e, s⟩ := q
      obtain ⟨hu, hs⟩ := arrT h2
      cases h3 : aggT P e with
      | none => simp only [h3]; exact .no
      | some b =>
        simp only [h3]
        refine (op2_pure (sem := fun x i => (do pure (.value (← Instr.index t x i)))) (fun B w0 σ h w x y k v hf' hR hx hy he => ?_) (by simp [ho]) fun ρ => by simp [execOp, ho])
        obtain ⟨j, m, rfl, e⟩ := asNat_ok he
        obtain ⟨cs, rfl, e⟩ := asAgg_ok e
        obtain ⟨hn, e⟩ := iff_ok e
        obtain ⟨u, hu', e⟩ := opt_ok e
        obtain ⟨r1, r2⟩ := part_s h3 hs hu' σ w hx
        have hn' := ble hn
        exact FinP.here hR r2 e (by simp [Instr.index, val, run_underlying hu, asIntOf, run_sizeT hs, r1]; exact fun hle => absurd hle (by omega))
  unfold cIndex
  split
  · rename_i hu
    refine (op2_pure (sem := fun x i => (do pure (.value (← Instr.index t x i)))) (fun B w0 σ h w x y k v hf' hR hx hy he => ?_) (by simp [ho]) fun ρ => by simp [execOp, ho])
    obtain ⟨j, m, rfl, e⟩ := asNat_ok he
    cases x <;> try (cases e; done)
    rename_i s
    obtain ⟨b, hb, e⟩ := opt_ok e
    obtain ⟨hb', e⟩ := iff_ok e
    refine FinP.here hR (by simp [FV.ok]) e ?_
    have hlt : m < s.length := (List.getElem?_eq_some_iff.1 hb).1
    have hlt' : m < (bytesOf s).size := by simp [bytesOf, ByteArray.size]; exact hlt
    have hg : (bytesOf s)[m]? = some b.toUInt8 := by
      rw [getElem?_pos (bytesOf s) m hlt']
      congr 1
      have hs : s[m] = b := by have := (List.getElem?_eq_some_iff.1 hb).2; exact this
      simp [bytesOf, ByteArray.getElem_eq_getElem_data, hs]
    have hb2 : b.toUInt8.toNat = b := by have := ble hb'; simp; omega
    simp [Instr.index, val, run_underlying hu, asIntOf, hg, hb2]
  · exact arr
/-! ### tuples, functions, maps -/
theorem cExtract_s {o : Oper} {x : Operand} {i : Nat} (ho : o.op = .extract x i) : PBS P N o (cExtract P N x i) := by
  refine (op1_pure (sem := fun x => (do pure (.value (← Instr.extract x i)))) (fun B w0 σ h w x k v hf' hR hx he => ?_) (by simp [ho]) fun ρ => by simp [execOp, ho])
  obtain ⟨l, rfl, e⟩ := asTup_ok he
  obtain ⟨u, hu, e⟩ := opt_ok e
  rw [nthK_eq] at hu
  simp only [FV.ok] at hx
  exact FinP.here hR (oks_iff.1 hx u (List.mem_of_getElem? hu)) e (by simp [Instr.extract, val, vals_eq, hu])
theorem cNilCheck_s {o : Oper} {x : Operand} (ho : o.op = .nilCheck x) : PBS P N o (cNilCheck P N x) := by
  refine (opP_of_fin (by simp [ho]) fun B w0 σ ts h a w call k v hf hR hT he => ?_)
  obtain ⟨u, e1, e2, e3⟩ := ev_sound hT he
  cases u <;> try (cases e1; done)
  · exact FinP.here hR e3 e1 (by simp [execOp, ho, e2, val])
  · exact FinP.here hR e3 e1 (by simp [execOp, ho, e2, val])
theorem cMakeFunc_s {o : Oper} {f : FuncId} {first cap : Array Operand} (ho : o.op = .makeFunc (.func f) first cap) : PBS P N o (cMakeFunc P N f first cap) := by
  refine (opL_pure (sem := fun l => pure (.value (.func (.func f) (l.take first.size).toArray (l.drop first.size).toArray))) (fun B w0 σ h w x k v hf' hR hx he => ?_) (by simp [ho]) fun ρ => ?_)
  · have hx' := oks_iff.1 hx
    refine FinP.here hR (u := .fn f (x.take first.size) (x.drop first.size)) ?_ he ?_
    · simp only [FV.ok]
      exact ⟨oks_iff.2 fun v hv => hx' v (List.mem_of_mem_take hv), oks_iff.2 fun v hv => hx' v (List.mem_of_mem_drop hv)⟩
    · simp [val, vals_eq, List.map_take, List.map_drop]
  · simp only [execOp, ho, Instr.makeFunc]
    have e1 : ∀ A : Array Operand, A.map ρ = (A.toList.map ρ).toArray := fun A => by rw [← Array.toList_map]
    simp [e1]
theorem cMakeMap_s {o : Oper} {t : TypeId} (ho : o.op = .makeMap t none) : OBS P N o (cMakeMap P N) := by
  refine .mk (opS_of_fin (by simp [ho]) fun B w0 σ ts h a w call k v hf hR hT he => ?_)
  refine Fin.new (σ' := σ.add h.next w.heap.size 0 0) (o := .map #[] 0) (b := .map [] 0) hR (Ren.add_ext _ _ _ _ _) (Ren.add_blk _ _ _ _ _) ⟨by simp, by simp⟩ (by simp [FV.ok]) he ?_
  simp [execOp, ho, Instr.makeMap, val]
theorem fConvI_s {s d : TypeId} {j q : IntKind} (hs : P.underlying s = some (.int q)) (hd : P.underlying d = some (.int j)) (hw : ∀ n, wrap j n = j.wrap n) : H1P P (fConvI j) fun x => (do pure (.value (← convert s d x))) := fun B w0 σ h w x k v hf hR hx he => by
  obtain ⟨i, n, rfl, e⟩ := asInt_ok he
  refine FinP.here hR (by simp [FV.ok]) e ?_
  simp [convert, run_underlying hs, run_underlying hd, val, Conv.intToInt, hw]
end Go.Ev

/-  -/
set_option linter.unusedVariables false
namespace Go.Ev
open Go.RowKit
variable {P : Program} {N : Nat}
/-! ### numbers -/
theorem wrap_in (n : Int) (h0 : -9223372036854775808 ≤ n) (h1 : n ≤ 9223372036854775807) : IntKind.i64.wrap n = n := by
  rw [IntKind.wrap_i64]; omega
theorem lim63_eq : lim63 = 9223372036854775807 := rfl
theorem wrap_pos (m : Nat) (h : m ≤ 9223372036854775807) : IntKind.i64.wrap (Int.ofNat m) = Int.ofNat m := wrap_in _ (by have e : (Int.ofNat m) = (m : Int) := rfl; rw [e]; omega) (by have e : (Int.ofNat m) = (m : Int) := rfl; rw [e]; omega)
theorem wrap_neg (m : Nat) (h : m ≤ 9223372036854775807) : IntKind.i64.wrap (Int.negSucc m) = Int.negSucc m := wrap_in _ (by rw [Int.negSucc_eq]; omega) (by rw [Int.negSucc_eq]; omega)
theorem wrap64_pos (m : Nat) : wrap64 (.ofNat m) = @Bool.rec (fun _ => Int) (wrapS .i64 (.ofNat m)) (.ofNat m) (Nat.ble m lim63) := rfl
theorem wrap64_neg (m : Nat) : wrap64 (.negSucc m) = @Bool.rec (fun _ => Int) (wrapS .i64 (.negSucc m)) (.negSucc m) (Nat.ble m lim63) := rfl
theorem wrap64_eq (n : Int) : wrap64 n = IntKind.i64.wrap n := by
  cases n with
  | ofNat m =>
    rw [wrap64_pos]
    cases h : Nat.ble m lim63 with
    | false => simp only [wrapS]
    | true => have h := ble h; rw [lim63_eq] at h; exact (wrap_pos m h).symm
  | negSucc m =>
    rw [wrap64_neg]
    cases h : Nat.ble m lim63 with
    | false => simp only [wrapS]
    | true => have h := ble h; rw [lim63_eq] at h; exact (wrap_neg m h).symm
theorem wrap_eq (k : IntKind) (n : Int) : wrap k n = k.wrap n := by
  cases k
  case i64 => exact wrap64_eq n
  all_goals rfl
theorem keq_ok {k l : IntKind} (h : keq k l = true) : k = l := by
  cases k <;> cases l <;> first | rfl | (exact absurd h (by decide))
theorem ieq_eq (a b : Int) : ieq a b = (a == b) := by
  cases a <;> cases b <;> simp only [ieq]
  · rename_i a b
    cases h : Nat.beq a b with
    | true => have := beq h; subst this; simp
    | false =>
      have hn : a ≠ b := fun e => by subst e; rw [Nat.beq_refl] at h; cases h
      symm; rw [beq_eq_false_iff_ne]; intro e; exact hn (Int.ofNat.inj e)
  · symm; rw [beq_eq_false_iff_ne]; intro e; cases e
  · symm; rw [beq_eq_false_iff_ne]; intro e; cases e
  · rename_i a b
    cases h : Nat.beq a b with
    | true => have := beq h; subst this; simp
    | false =>
      have hn : a ≠ b := fun e => by subst e; rw [Nat.beq_refl] at h; cases h
      symm; rw [beq_eq_false_iff_ne]; intro e; exact hn (Int.negSucc.inj e)
theorem nble_eq (a b : Nat) : Nat.ble a b = decide (a ≤ b) := by
  by_cases h : a ≤ b
  · rw [Nat.ble_eq_true_of_le h]; simp [h]
  · cases e : Nat.ble a b
    · simp [h]
    · exact absurd (ble e) h
theorem ilt_eq (a b : Int) : ilt a b = decide (a < b) := by
  cases a <;> cases b <;> simp only [ilt, nble_eq]
  · rename_i a b
    apply decide_eq_decide.2
    simp only [Int.ofNat_eq_natCast]; omega
  · rename_i a b
    symm; rw [decide_eq_false_iff_not, Int.negSucc_eq, Int.ofNat_eq_natCast]; omega
  · rename_i a b
    symm; rw [decide_eq_true_eq, Int.negSucc_eq, Int.ofNat_eq_natCast]; omega
  · rename_i a b
    apply decide_eq_decide.2; rw [Int.negSucc_eq, Int.negSucc_eq]; omega
/-! ### bytes -/
theorem bytesOf_toList (a : List Nat) : (bytesOf a).toList = a.map Nat.toUInt8 := by
  rw [ByteArray.toList_eq]; simp [bytesOf]
theorem bytes_inj {a b : List Nat} (ha : ∀ x ∈ a, x < 256) (hb : ∀ x ∈ b, x < 256) (h : a.map Nat.toUInt8 = b.map Nat.toUInt8) : a = b := by
  induction a generalizing b with
  | nil => cases b <;> simp_all
  | cons x a ih =>
    cases b with
    | nil => simp at h
    | cons y b =>
      simp only [List.map_cons, List.cons.injEq] at h
      have hx := ha x (by simp); have hy := hb y (by simp)
      have e : x = y := by
        have := congrArg UInt8.toNat h.1
        simp at this; omega
      have ih' := ih (b := b) (fun z hz => ha z (by simp [hz])) (fun z hz => hb z (by simp [hz])) h.2
      rw [e, ih']
theorem seq_iff (a b : List Nat) : seq a b = true ↔ a = b := by
  induction a generalizing b with
  | nil => cases b <;> simp [seq]
  | cons x a ih =>
    cases b with
    | nil => simp [seq]
    | cons y b =>
      simp only [seq]
      cases h : Nat.beq x y with
      | true => have := beq h; subst this; simp [ih]
      | false =>
        have hn : x ≠ y := fun e => by subst e; rw [Nat.beq_refl] at h; cases h
        simp [hn]
theorem seq_eq {a b : List Nat} (ha : ∀ x ∈ a, x < 256) (hb : ∀ x ∈ b, x < 256) : ((bytesOf a).toList == (bytesOf b).toList) = seq a b := by
  rw [bytesOf_toList, bytesOf_toList]
  cases h : seq a b with
  | true => rw [(seq_iff a b).1 h]; simp
  | false =>
    rw [beq_eq_false_iff_ne]
    intro e
    have := (seq_iff a b).2 (bytes_inj ha hb e)
    rw [h] at this; cases this
theorem slt_eq {a b : List Nat} (ha : ∀ x ∈ a, x < 256) (hb : ∀ x ∈ b, x < 256) : Op.bytesLess (bytesOf a).toList (bytesOf b).toList = slt a b := by
  rw [bytesOf_toList, bytesOf_toList]
  induction a generalizing b with
  | nil => cases b <;> simp [Op.bytesLess, slt]
  | cons x a ih =>
    cases b with
    | nil => simp [Op.bytesLess, slt]
    | cons y b =>
      have hx := ha x (by simp); have hy := hb y (by simp)
      simp only [List.map_cons, Op.bytesLess, slt]
      have hlt : (x.toUInt8 < y.toUInt8) ↔ x < y := by rw [UInt8.lt_iff_toNat_lt]; simp; omega
      have heq : (x.toUInt8 == y.toUInt8) = decide (x = y) := by
        by_cases e : x = y
        · simp [e]
        · rw [decide_eq_false e, beq_eq_false_iff_ne]; intro h; have := congrArg UInt8.toNat h; simp at this; omega
      cases h : Nat.beq x y with
      | true =>
        have := beq h; subst this
        have ih' := ih (b := b) (fun z hz => ha z (by simp [hz])) (fun z hz => hb z (by simp [hz]))
        simp [ih']
      | false =>
        have hn : x ≠ y := fun e => by subst e; rw [Nat.beq_refl] at h; cases h
        simp [hlt, heq, hn, nble_eq]; omega
theorem bytesOf_append (a b : List Nat) : bytesOf (a ++ b) = bytesOf a ++ bytesOf b := by
  apply ByteArray.ext
  simp [bytesOf]
@[simp] theorem bytesOf_size (a : List Nat) : (bytesOf a).size = a.length := by simp [bytesOf, ByteArray.size]
/-! ### operators -/
theorem guard_plain {op : BinOp} (h1 : op ≠ .eql) (h2 : op ≠ .neq) (t : TypeId) (x y : Operand) (a b : Value) (w : World) : (eqGuard op t x y a b).run P w = .ok () w := by
  cases op <;> first | exact absurd rfl h1 | exact absurd rfl h2 | simp [eqGuard]
def binSem (op : BinOp) (t : TypeId) (x y : Operand) (a b : Value) : Sem Next := do pure (.value (← (do eqGuard op t x y a b; binOp op t a b)))
theorem binRun {op : BinOp} (h1 : op ≠ .eql) (h2 : op ≠ .neq) {t : TypeId} {x y : Operand} {a b r : Value} {w : World} (h : (binOp op t a b).run P w = .ok r w) : (binSem op t x y a b).run P w = .ok (.value r) w := by
  simp [binSem, guard_plain h1 h2, h]
theorem int_bin {op : BinOp} {t : TypeId} {k : IntKind} {a b : Int} {w : World} (h1 : op ≠ .shl) (h2 : op ≠ .shr) : (binOp op t (.int k a) (.int k b)).run P w =
    (match op with | .add | .sub | .mul => Op.intArith op k a b | .quo | .rem => Op.intDiv op k a b | .and | .or | .xor | .andNot => Op.intBits op k a b | _ => Op.intCmp op a b).run P w := by
  cases op <;> first | exact absurd rfl h1 | exact absurd rfl h2 | simp [binOp]
theorem iArith_s {op : BinOp} {f : Int → Int → Int} (hop : (op = .add ∧ f = Int.add) ∨ (op = .sub ∧ f = Int.sub) ∨ (op = .mul ∧ f = Int.mul)) (t : TypeId) (x y : Operand) : H2P P (p2 (iArith f)) (binSem op t x y) := fun B w0 σ h w X Y k v hf hR hx hy he => by
  obtain ⟨u, hu, e⟩ := opt_ok he
  cases X <;> simp only [iArith] at hu <;> try (cases hu; done)
  cases Y <;> simp only at hu <;> try (cases hu; done)
  rename_i j a l b
  cases hk : keq j l with
  | false => rw [hk] at hu; cases hu
  | true =>
    rw [hk] at hu; cases keq_ok hk
    simp only [cond_true, Option.some.injEq] at hu; subst hu
    refine FinP.here hR (by simp [FV.ok]) e ?_
    rcases hop with ⟨rfl, rfl⟩ | ⟨rfl, rfl⟩ | ⟨rfl, rfl⟩ <;> exact binRun (by simp) (by simp) (by simp [val, int_bin, Op.intArith, wrap_eq] <;> rfl)
theorem iArithK_s {op : BinOp} {f : Int → Int → Int} (hop : (op = .sub ∧ f = Int.sub) ∨ (op = .mul ∧ f = Int.mul)) (t : TypeId) (x y : Operand) : H2P P (iArithK f) (binSem op t x y) := fun B w0 σ h w X Y k v hf hR hx hy he => by
  obtain ⟨j, a, rfl, e1⟩ := asInt_ok he
  obtain ⟨l, b, rfl, e2⟩ := asInt_ok e1
  obtain ⟨hk, e3⟩ := iff_ok e2
  have hkl := keq_ok hk
  subst hkl
  refine FinP.here hR (by simp [FV.ok]) e3 ?_
  rcases hop with ⟨rfl, rfl⟩ | ⟨rfl, rfl⟩ <;> exact binRun (by simp) (by simp) (by simp [val, int_bin, Op.intArith, wrap_eq] <;> rfl)
theorem add_s (t : TypeId) (x y : Operand) : H2P P (p2 add2) (binSem .add t x y) := fun B w0 σ h w X Y k v hf hR hx hy he => by
  cases hX : X with
  | int j a => subst hX; exact iArith_s (f := Int.add) (.inl ⟨rfl, rfl⟩) t x y _ _ _ _ _ hR hx hy he
  | str a =>
    subst hX
    obtain ⟨u, hu, e⟩ := opt_ok he
    cases Y <;> simp only [add2] at hu <;> try (cases hu; done)
    rename_i b
    cases hl : Nat.ble (a.length + b.length) 1000000 with
    | false => rw [hl] at hu; cases hu
    | true =>
      rw [hl] at hu; simp only [cond_true, Option.some.injEq] at hu; subst hu
      simp only [FV.ok] at hx hy
      refine FinP.here hR (by simp only [FV.ok, List.mem_append]; exact fun c hc => hc.elim (hx c) (hy c)) e ?_
      refine binRun (by simp) (by simp) ?_
      have hl' := ble hl
      have c : ¬ ((((bytesOf a).size + (bytesOf b).size : Nat) : Int) > IntKind.i64.max) := by
        simp only [bytesOf_size]
        have : (IntKind.i64.max : Int) = 9223372036854775807 := by rfl
        rw [this]; omega
      simp only [val, binOp, Op.stringOp, if_neg c, bytesOf_append, Sem.run_pure]
  | _ => subst hX; obtain ⟨u, hu, e⟩ := opt_ok he; cases hu
theorem cmp_s {op : BinOp} {f : Int → Int → Bool} {g : List Nat → List Nat → Bool} (h1 : op ≠ .eql) (h2 : op ≠ .neq)
    (hi : ∀ t k a b w, (binOp op t (.int k a) (.int k b)).run P w = .ok (.bool (f a b)) w)
    (hs : ∀ t a b w, (∀ x ∈ a, x < 256) → (∀ x ∈ b, x < 256) → (binOp op t (.string (bytesOf a)) (.string (bytesOf b))).run P w = .ok (.bool (g a b)) w) (t : TypeId) (x y : Operand) :
    H2P P (p2 (cmp2 f g)) (binSem op t x y) := fun B w0 σ h w X Y k v hf hR hx hy he => by
  obtain ⟨u, hu, e⟩ := opt_ok he
  cases X <;> simp only [cmp2] at hu <;> try (cases hu; done)
  · cases Y <;> simp only at hu <;> try (cases hu; done)
    rename_i j a l b
    unfold iCmp at hu
    cases hk : keq j l with
    | false => rw [hk] at hu; cases hu
    | true =>
      rw [hk] at hu; cases keq_ok hk
      simp only [cond_true, Option.some.injEq] at hu; subst hu
      exact FinP.here hR (by simp [FV.ok]) e (binRun h1 h2 (hi _ _ _ _ _))
  · cases Y <;> simp only at hu <;> try (cases hu; done)
    simp only [sCmp, Option.some.injEq] at hu; subst hu
    simp only [FV.ok] at hx hy
    exact FinP.here hR (by simp [FV.ok]) e (binRun h1 h2 (hs _ _ _ _ hx hy))
theorem div_s {op : BinOp} {r : Bool} (hop : (op = .quo ∧ r = false) ∨ (op = .rem ∧ r = true)) (t : TypeId) (x y : Operand) : H2P P (p2 (div2 r)) (binSem op t x y) := fun B w0 σ h w X Y k v hf hR hx hy he => by
  obtain ⟨u, hu, e⟩ := opt_ok he
  cases X <;> simp only [div2] at hu <;> try (cases hu; done)
  cases Y <;> simp only at hu <;> try (cases hu; done)
  rename_i j a l b
  cases hk : (keq j l && !ieq b 0) with
  | false => rw [hk] at hu; cases hu
  | true =>
    rw [hk] at hu
    obtain ⟨hk, hz⟩ := and_true' hk
    cases keq_ok hk
    simp only [cond_true, Option.some.injEq] at hu; subst hu
    have hb : b ≠ 0 := by
      intro e; subst e; simp [ieq_eq] at hz
    rcases hop with ⟨rfl, rfl⟩ | ⟨rfl, rfl⟩
    · exact FinP.here hR (by simp [FV.ok]) e (binRun (by simp) (by simp) (by simp [val, int_bin, Op.intDiv, wrap_eq, hb]))
    · exact FinP.here hR (by simp [FV.ok]) e (binRun (by simp) (by simp) (by simp [val, int_bin, Op.intDiv, wrap_eq, hb]))
theorem bits_s {op : BinOp} {f : (w : Nat) → BitVec w → BitVec w → BitVec w} (h1 : op ≠ .eql) (h2 : op ≠ .neq)
    (hb : ∀ t k a b w, (binOp op t (.int k a) (.int k b)).run P w = .ok (.int k (k.wrap (f k.bits (BitVec.ofInt k.bits a) (BitVec.ofInt k.bits b)).toNat)) w) (t : TypeId) (x y : Operand) :
    H2P P (p2 (bits2 f)) (binSem op t x y) := fun B w0 σ h w X Y k v hf hR hx hy he => by
  obtain ⟨u, hu, e⟩ := opt_ok he
  cases X <;> simp only [bits2] at hu <;> try (cases hu; done)
  cases Y <;> simp only at hu <;> try (cases hu; done)
  rename_i j a l b
  cases hk : keq j l with
  | false => rw [hk] at hu; cases hu
  | true =>
    rw [hk] at hu; cases keq_ok hk
    simp only [cond_true, Option.some.injEq] at hu; subst hu
    exact FinP.here hR (by simp [FV.ok]) e (binRun h1 h2 (by rw [wrap_eq]; exact hb _ _ _ _ _))
theorem shift_s {op : BinOp} {r : Bool} (hop : (op = .shl ∧ r = true) ∨ (op = .shr ∧ r = false)) (t : TypeId) (x y : Operand) : H2P P (p2 (shift2 r)) (binSem op t x y) := fun B w0 σ h w X Y k v hf hR hx hy he => by
  obtain ⟨u, hu, e⟩ := opt_ok he
  cases X <;> simp only [shift2] at hu <;> try (cases hu; done)
  cases Y <;> simp only at hu <;> try (cases hu; done)
  rename_i j a l b
  cases hk : ilt b 0 with
  | true => rw [hk] at hu; cases hu
  | false =>
    rw [hk] at hu
    simp only [cond_false, Option.some.injEq] at hu; subst hu
    have hb : ¬ b < 0 := by rw [ilt_eq] at hk; simpa using hk
    rcases hop with ⟨rfl, rfl⟩ | ⟨rfl, rfl⟩
    · exact FinP.here hR (by simp [FV.ok]) e (binRun (by simp) (by simp) (by simp [val, binOp, Op.shift, wrap_eq, hb]))
    · exact FinP.here hR (by simp [FV.ok]) e (binRun (by simp) (by simp) (by simp [val, binOp, Op.shift, wrap_eq, hb]))
theorem binF_s {op : BinOp} (h1 : op ≠ .eql) (h2 : op ≠ .neq) (t : TypeId) (x y : Operand) : H2P P (p2 (binF op)) (binSem op t x y) := by
  cases op
  case add => exact add_s t x y
  case sub => exact iArith_s (.inr (.inl ⟨rfl, rfl⟩)) t x y
  case mul => exact iArith_s (.inr (.inr ⟨rfl, rfl⟩)) t x y
  case quo => exact div_s (.inl ⟨rfl, rfl⟩) t x y
  case rem => exact div_s (.inr ⟨rfl, rfl⟩) t x y
  case and => exact bits_s (op := .and) (f := fun _ a b => a &&& b) (by simp) (by simp) (fun t k a b w => by simp [int_bin, Op.intBits]) t x y
  case or => exact bits_s (op := .or) (f := fun _ a b => a ||| b) (by simp) (by simp) (fun t k a b w => by simp [int_bin, Op.intBits]) t x y
  case xor => exact bits_s (op := .xor) (f := fun _ a b => a ^^^ b) (by simp) (by simp) (fun t k a b w => by simp [int_bin, Op.intBits]) t x y
  case andNot => exact bits_s (op := .andNot) (f := fun _ a b => a &&& ~~~b) (by simp) (by simp) (fun t k a b w => by simp [int_bin, Op.intBits]) t x y
  case shl => exact shift_s (.inl ⟨rfl, rfl⟩) t x y
  case shr => exact shift_s (.inr ⟨rfl, rfl⟩) t x y
  case eql => exact absurd rfl h1
  case neq => exact absurd rfl h2
  case lss => exact cmp_s (by simp) (by simp) (fun t k a b w => by simp [int_bin, Op.intCmp, ilt_eq]) (fun t a b w ha hb => by simp only [binOp, Op.stringOp, slt_eq ha hb, Sem.run_pure]) t x y
  case leq => exact cmp_s (by simp) (by simp) (fun t k a b w => by simp only [ne_eq, reduceCtorEq, not_false_eq_true, int_bin, Op.intCmp, ilt_eq, Sem.run_pure]; congr 2; by_cases h : b < a <;> simp [h] <;> omega) (fun t a b w ha hb => by simp only [binOp, Op.stringOp, slt_eq ha hb, seq_eq ha hb, Sem.run_pure]) t x y
  case gtr => exact cmp_s (by simp) (by simp) (fun t k a b w => by simp [int_bin, Op.intCmp, ilt_eq]) (fun t a b w ha hb => by simp only [binOp, Op.stringOp, slt_eq ha hb, seq_eq ha hb, Sem.run_pure]) t x y
  case geq => exact cmp_s (by simp) (by simp) (fun t k a b w => by simp only [ne_eq, reduceCtorEq, not_false_eq_true, int_bin, Op.intCmp, ilt_eq, Sem.run_pure]; congr 2; by_cases h : a < b <;> simp [h] <;> omega) (fun t a b w ha hb => by simp only [binOp, Op.stringOp, slt_eq ha hb, Sem.run_pure]) t x y
theorem cUnOp_s {o : Oper} {op : UnOp} {t : TypeId} {x : Operand} (ho : o.op = .unOp op t x) : PBS P N o (cUnOp P N op x) := by
  refine (op1_pure (sem := fun x => (do pure (.value (← Op.unary op x)))) (fun B w0 σ h w x k v hf' hR hx he => ?_) (by simp [ho]) fun ρ => by simp [execOp, ho])
  obtain ⟨u, hu, e⟩ := opt_ok he
  cases op <;> simp only [unF] at hu
  · cases x <;> simp only at hu <;> try (cases hu; done)
    simp only [Option.some.injEq] at hu; subst hu
    exact FinP.here hR (by simp [FV.ok]) e (by simp [val, Op.unary, Op.intArith, wrap_eq])
  · cases x <;> simp only at hu <;> try (cases hu; done)
    simp only [Option.some.injEq] at hu; subst hu
    exact FinP.here hR (by simp [FV.ok]) e (by simp [val, Op.unary, Op.intBits, wrap_eq])
  · cases x <;> simp only at hu <;> try (cases hu; done)
    simp only [Option.some.injEq] at hu; subst hu
    exact FinP.here hR (by simp [FV.ok]) e (by simp [val, Op.unary])
  · cases hu
end Go.Ev

/-  -/
set_option linter.unusedVariables false
namespace Go.Ev
open Go.RowKit
variable {P : Program} {N : Nat}
theorem bif_some {α : Type} {c : Bool} {x : Option α} {b : α} (h : (bif c then x else none) = some b) : c = true ∧ x = some b := by
  cases c
  · cases h
  · exact ⟨rfl, h⟩
theorem bif_none {α : Type} {c : Bool} {x : Option α} {b : α} (h : (bif c then none else x) = some b) : c = false ∧ x = some b := by
  cases c
  · exact ⟨rfl, h⟩
  · cases h
theorem cellsOf_size {t : TypeId} {n : Nat} (h : sizeT P t = some n) : P.cellsOf t = n := by
  obtain ⟨i, h1, h2⟩ := info_size h
  simp [Program.cellsOf, h1, h2]
theorem fpart_s {t : TypeId} {cs : List FV} {off : Nat} {u : FV} (h : fpart P t cs off = some u) (σ : Ren) (w : World) {m : Nat} (hc : (FV.agg cs).ok m) :
    (Go.part t (vals σ cs).toArray off).run P w = .ok (val σ u) w ∧ u.ok m := by
  unfold fpart at h
  cases h1 : aggT P t with
  | none => rw [h1] at h; cases h
  | some b =>
    cases h2 : sizeT P t with
    | none => rw [h1, h2] at h; cases h
    | some n => rw [h1, h2] at h; exact part_s h1 h2 h σ w hc
/-! ### equality -/
def EqS (P : Program) (d : Nat) (rec : TypeId → FV → FV → Option Bool) : Prop :=
  ∀ (t : TypeId) (x y : FV) (b : Bool) (m : Nat) (σ : Ren), rec t x y = some b → x.ok m → y.ok m → ∀ D, d ≤ D → ∀ w, (Op.equalIn D t (val σ x) (val σ y)).run P w = .ok b w
theorem eqFs_s {d : Nat} {rec : TypeId → FV → FV → Option Bool} (IH : EqS P d rec) {xs ys : List FV} {m : Nat} {σ : Ren} (hx : (FV.agg xs).ok m) (hy : (FV.agg ys).ok m) {D : Nat} (hD : d ≤ D) (w : World) : ∀ (fs : List Field) (b : Bool), eqFs rec P xs ys fs = some b →
    (Op.eqFields D (vals σ xs).toArray (vals σ ys).toArray fs).run P w = .ok b w
  | [], b, h => by simp only [eqFs, Option.some.injEq] at h; subst h; simp [Op.eqFields]
  | f :: fs, b, h => by
    simp only [eqFs] at h
    by_cases hn : f.name = "_"
    · rw [if_pos hn] at h
      simp only [Op.eqFields, hn, ne_eq, not_true_eq_false, if_false]
      exact eqFs_s IH hx hy hD w fs b h
    · rw [if_neg hn] at h
      cases ha : fpart P f.type xs f.offset with
      | none => rw [ha] at h; cases h
      | some a =>
        cases hb : fpart P f.type ys f.offset with
        | none => rw [ha, hb] at h; cases h
        | some a' =>
          rw [ha, hb] at h
          simp only at h
          obtain ⟨p1, o1⟩ := fpart_s ha σ w hx
          obtain ⟨p2, o2⟩ := fpart_s hb σ w hy
          simp only [Op.eqFields, ne_eq, hn, not_false_eq_true, if_true, Sem.run_bind, p1, p2, Result.andThen_ok]
          cases hr : rec f.type a a' with
          | none => rw [hr] at h; cases h
          | some r =>
            rw [hr] at h
            have := IH f.type a a' r m σ hr o1 o2 D hD w
            rw [this]
            cases r with
            | true => simp only at h; simpa using eqFs_s IH hx hy hD w fs b h
            | false => simp only [Option.some.injEq] at h; subst h; simp
theorem eqIs_s {d : Nat} {rec : TypeId → FV → FV → Option Bool} (IH : EqS P d rec) {xs ys : List FV} {m : Nat} {σ : Ren} (hx : (FV.agg xs).ok m) (hy : (FV.agg ys).ok m) {D : Nat} (hD : d ≤ D) (w : World) (e : TypeId) (s : Nat) : ∀ (is : List Nat) (b : Bool), eqIs rec P e s xs ys is = some b →
    (Op.eqItems D e s (vals σ xs).toArray (vals σ ys).toArray is).run P w = .ok b w
  | [], b, h => by simp only [eqIs, Option.some.injEq] at h; subst h; simp [Op.eqItems]
  | i :: is, b, h => by
    simp only [eqIs] at h
    cases ha : fpart P e xs (i * s) with
    | none => rw [ha] at h; cases h
    | some a =>
      cases hb : fpart P e ys (i * s) with
      | none => rw [ha, hb] at h; cases h
      | some a' =>
        rw [ha, hb] at h
        simp only at h
        obtain ⟨p1, o1⟩ := fpart_s ha σ w hx
        obtain ⟨p2, o2⟩ := fpart_s hb σ w hy
        simp only [Op.eqItems, Sem.run_bind, p1, p2, Result.andThen_ok]
        cases hr : rec e a a' with
        | none => rw [hr] at h; cases h
        | some r =>
          rw [hr] at h
          have := IH e a a' r m σ hr o1 o2 D hD w
          rw [this]
          cases r with
          | true => simp only at h; simpa using eqIs_s IH hx hy hD w e s is b h
          | false => simp only [Option.some.injEq] at h; subst h; simp
theorem nilEq_s {t : TypeId} {td : TypeDesc} (hu : P.underlying t = some td) {x y : FV} {b : Bool} (h1 : nilTy td x = true) (h2 : nilTy td y = true) (h : nilEq x y = some b) (σ : Ren) (D : Nat) (w : World) :
    (Op.equalIn (D + 1) t (val σ x) (val σ y)).run P w = .ok b w := by
  cases td <;> cases x <;> simp only [nilTy, Bool.false_eq_true] at h1 <;> cases y <;> simp only [nilTy, Bool.false_eq_true] at h2 <;> simp only [nilEq, Option.some.injEq, reduceCtorEq] at h <;> subst h <;> simp [Op.equalIn, run_underlying hu, val]
theorem eqS_s : ∀ (d : Nat), EqS P d (eqS P d)
  | 0 => fun t x y b m σ h => by simp [eqS] at h
  | d + 1 => fun t x y b m σ h hx hy D hD w => by
    obtain ⟨D, rfl⟩ : ∃ D', D = D' + 1 := ⟨D - 1, by omega⟩
    have hD' : d ≤ D := by omega
    simp only [eqS] at h
    cases hu : P.underlying t with
    | none => rw [hu] at h; cases h
    | some td =>
      rw [hu] at h
      simp only at h
      cases x
      case int k a =>
        cases td <;> simp only at h <;> try (cases h; done)
        cases y <;> simp only at h <;> try (cases h; done)
        rename_i q l b'
        cases hk : keq k l with
        | false => rw [hk] at h; cases h
        | true =>
          rw [hk] at h; simp only [cond_true, Option.some.injEq] at h; subst h
          have := keq_ok hk; subst this
          simp only [val]
          rw [run_equalIn_int w D t k q a b' hu, ieq_eq]
      case bool a =>
        cases td <;> simp only at h <;> try (cases h; done)
        cases y <;> simp only at h <;> try (cases h; done)
        simp only [Option.some.injEq] at h; subst h
        exact run_equalIn_bool w D t _ _ hu
      case str a =>
        cases td <;> simp only at h <;> try (cases h; done)
        cases y <;> simp only at h <;> try (cases h; done)
        simp only [Option.some.injEq] at h; subst h
        simp only [FV.ok] at hx hy
        simp only [val]
        rw [run_equalIn_string w D t _ _ hu, seq_eq hx hy]
      case agg xs =>
        cases y <;> simp only at h <;> try (cases h; done)
        rename_i ys
        cases td <;> simp only at h <;> try (cases h; done)
        · rename_i n e
          cases hs : sizeT P e with
          | none => rw [hs] at h; cases h
          | some s =>
            rw [hs] at h
            obtain ⟨i, hi, _⟩ := info_size hs
            simp only [val]
            rw [run_equalIn_array w D _ _ hu hi, cellsOf_size hs]
            exact eqIs_s (eqS_s d) hx hy hD' w e s _ b h
        · rename_i fs
          cases hst : P.stoodInHeld t with
          | true => rw [hst] at h; cases h
          | false =>
            rw [hst] at h; simp only [cond_false] at h
            have hf : P.fieldsOf t = fs := by simp [Program.fieldsOf, hu]
            simp only [val]
            rw [run_equalIn_struct w D t _ _ (by rw [hf]; exact hu) hst, hf]
            exact eqFs_s (eqS_s d) hx hy hD' w fs.toList b h
      all_goals
        simp only at h
        obtain ⟨h1, h2⟩ := bif_some h
        obtain ⟨h1, h3⟩ := and_true' h1
        exact nilEq_s hu h1 h3 h2 σ D w
theorem eq_plain (neg : Bool) (t : TypeId) (X Y : Value) (w : World) (b : Bool) (hX : ∀ a, X ≠ .agg a) (hI : X ≠ .nilIface) (hi : ∀ k n, X ≠ .int k n) (hs : ∀ s, X ≠ .string s) (hf : ∀ k n, X ≠ .float k n) (hc : ∀ k n m, X ≠ .complex k n m)
    (h : (Op.equal t X Y).run P w = .ok b w) (x y : Operand) : (binSem (if neg then .neq else .eql) t x y X Y).run P w = .ok (.value (.bool (if neg then !b else b))) w := by
  cases X <;> first | exact absurd rfl (hX _) | exact absurd rfl hI | exact absurd rfl (hi _ _) | exact absurd rfl (hs _) | exact absurd rfl (hf _ _) | exact absurd rfl (hc _ _ _) | skip
  all_goals (cases neg <;> simp [binSem, eqGuard, binOp, h])
theorem eqK_s (neg : Bool) (t : TypeId) (x y : Operand) : H2P P (eqK P neg t) (binSem (if neg then .neq else .eql) t x y) := fun B w0 σ h w X Y k v hf hR hx hy he => by
  obtain ⟨u, hu, e⟩ := opt_ok he
  have gen : ∀ b, eqS P 20 t X Y = some b → (Op.equal t (val σ X) (val σ Y)).run P w = .ok b w := fun b hb => eqS_s 20 t X Y b _ σ hb hx hy 10000 (by omega) w
  have fin : ∀ b : Bool, u = .bool (bif neg then !b else b) → (binSem (if neg then .neq else .eql) t x y (val σ X) (val σ Y)).run P w = .ok (.value (.bool (if neg then !b else b))) w → FinP P σ h w (binSem (if neg then .neq else .eql) t x y (val σ X) (val σ Y)) k v hf := by
    intro b hb hs
    subst hb
    refine FinP.here hR (by simp [FV.ok]) e ?_
    rw [hs]; cases neg <;> rfl
  cases X <;> simp only [eqF] at hu
  case int j a =>
    cases Y <;> simp only at hu <;> try (cases hu; done)
    rename_i l b
    obtain ⟨hk, hu2⟩ := bif_some hu
    have hkl := keq_ok hk
    subst hkl
    refine fin (ieq a b) (Option.some.inj hu2).symm ?_
    cases neg
    · simp [binSem, eqGuard, val, int_bin, Op.intCmp, ieq_eq]
    · simp [binSem, eqGuard, val, int_bin, Op.intCmp, ieq_eq, bne]
  case str a =>
    cases Y <;> simp only at hu <;> try (cases hu; done)
    rename_i b
    simp only [Option.some.injEq] at hu
    refine fin (seq a b) hu.symm ?_
    simp only [FV.ok] at hx hy
    cases neg <;> simp only [binSem, eqGuard, val, binOp, Op.stringOp, seq_eq hx hy, Bool.false_eq_true, if_false, if_true] <;> simp
  case agg xs =>
    obtain ⟨hg, hu⟩ := bif_none hu
    cases hb : eqS P 20 t (.agg xs) Y with
    | none => rw [hb] at hu; cases hu
    | some b =>
      rw [hb] at hu; simp only [Option.some.injEq] at hu
      refine fin b hu.symm ?_
      have := gen b hb
      cases Y <;> try (simp only [eqS] at hb; split at hb <;> cases hb; done)
      simp only [val] at this ⊢
      cases neg <;> simp [binSem, run_eqGuard_agg w _ t x y _ _ hg, binOp, this]
  all_goals
    split at hu
    · rename_i b hb
      simp only [Option.some.injEq] at hu
      refine fin b hu.symm ?_
      refine eq_plain neg t _ _ w b ?_ ?_ ?_ ?_ ?_ ?_ (gen b hb) x y <;> simp [val]
    · cases hu
theorem cBinOp_s {o : Oper} {op : BinOp} {t u : TypeId} {x y : Operand} (ho : o.op = .binOp op t x y u) : PBS P N o (cBinOp P N op t x y) := by
  have he : ∀ ρ, execOp ρ o = binSem op t x y (ρ x) (ρ y) := fun ρ => by simp [execOp, ho, binSem]
  have hd : ∀ c, o.op ≠ .defer c := by simp [ho]
  cases op
  case eql => exact (op2_pure (f := eqTK P t) (by rw [eqTK_eq]; exact eqK_s false t x y) hd he)
  case neq => exact (op2_pure (f := neTK P t) (by rw [neTK_eq]; exact eqK_s true t x y) hd he)
  case sub => exact (op2_pure (f := arK isubK) (by rw [arK_eq isubK_eq]; exact iArithK_s (.inl ⟨rfl, rfl⟩) t x y) hd he)
  case mul => exact (op2_pure (f := arK Int.mul) (by rw [arK_eq (g := Int.mul) fun _ _ => rfl]; exact iArithK_s (.inr ⟨rfl, rfl⟩) t x y) hd he)
  case add => exact (op2_pure (f := addK) (by rw [addK_eq]; exact binF_s (op := .add) (by simp) (by simp) t x y) hd he)
  case lss => exact (op2_pure (f := lssK) (by rw [lssK_eq]; exact binF_s (by simp) (by simp) t x y) hd he)
  case leq => exact (op2_pure (f := leqK) (by rw [leqK_eq]; exact binF_s (by simp) (by simp) t x y) hd he)
  case gtr => exact (op2_pure (f := gtrK) (by rw [gtrK_eq]; exact binF_s (by simp) (by simp) t x y) hd he)
  case geq => exact (op2_pure (f := geqK) (by rw [geqK_eq]; exact binF_s (by simp) (by simp) t x y) hd he)
  all_goals exact (op2_pure (binF_s (by simp) (by simp) t x y) hd he)
end Go.Ev

/-  -/
set_option linter.unusedVariables false
namespace Go.Ev
open Go.RowKit
variable {P : Program} {N : Nat}
/-! ### filling -/
theorem setN_eq : ∀ (cs : List FV) (off : Nat) (l : List FV), off ≤ cs.length → setN cs off l = cs.take off ++ l ++ cs.drop (off + l.length)
  | cs, 0, l, _ => by simp [setN]
  | [], n + 1, l, h => by simp at h
  | c :: cs, n + 1, l, h => by
    simp only [List.length_cons] at h
    simp only [setN, setN_eq cs n l (by omega), List.take_succ_cons, List.cons_append, List.append_assoc]
    rw [show n + 1 + l.length = (n + l.length) + 1 from by omega, List.drop_succ_cons]
theorem fold_set : ∀ (l : List Value) (k off : Nat) (cs : List Value), off + k + l.length ≤ cs.length →
    (l.zipIdx k).foldl (fun (a : Array Value) p => a.setIfInBounds (off + p.2) p.1) cs.toArray = (cs.take (off + k) ++ l ++ cs.drop (off + k + l.length)).toArray
  | [], k, off, cs, h => by simp
  | v :: l, k, off, cs, h => by
    simp only [List.length_cons] at h
    simp only [List.zipIdx_cons, List.foldl_cons, List.setIfInBounds_toArray]
    rw [fold_set l (k + 1) off _ (by simp; omega)]
    have e := list_seg_step cs (off + k) v l (by omega)
    rw [show off + (k + 1) = off + k + 1 from by omega, e]
    simp only [List.length_cons]
theorem fill_one {σ : Ren} {v : FV} {cs : List FV} {off : Nat} (h : off + v.cells.length ≤ cs.length) :
    (val σ v).cells.zipIdx.foldl (fun cs (c, j) => cs.setIfInBounds (off + j) c) (vals σ cs).toArray = (vals σ (setN cs off v.cells)).toArray := by
  rw [val_cells, setN_eq _ _ _ (by omega), vals_eq, vals_eq]
  have := fold_set (v.cells.map (val σ)) 0 off (cs.map (val σ)) (by simp; omega)
  rw [← Array.foldl_toList]
  simp only [Array.toList_zipIdx]
  rw [this]
  simp
theorem fillP_s {σ : Ren} {place : Nat → Option (Nat × Nat)} : ∀ (is : List Nat) (pl : List (Nat × Nat)) (vs cs r : List FV), is.length = pl.length → (∀ (j : Nat) i q, is[j]? = some i → pl[j]? = some q → place i = some q) → fillP pl vs cs = some r →
    Instr.fill place (vals σ cs).toArray (is.zip (vals σ vs)) = some (vals σ r).toArray
  | is, [], vs, cs, r, hl, hp, h => by
    cases vs <;> simp only [fillP] at h
    · cases h; simp [Instr.fill, vals]
    · cases h
  | [], (off, s) :: pl, vs, cs, r, hl, hp, h => by simp at hl
  | i :: is, (off, s) :: pl, [], cs, r, hl, hp, h => by simp [fillP] at h
  | i :: is, (off, s) :: pl, v :: vs, cs, r, hl, hp, h => by
    simp only [fillP] at h
    obtain ⟨h1, h2⟩ := bif_some h
    obtain ⟨h1, h3⟩ := and_true' h1
    obtain ⟨h3, h4⟩ := and_true' h3
    have h1 := beq h1; have h3 := ble h3
    have hq := hp 0 i (off, s) rfl rfl
    simp only [vals, List.zip_cons_cons, Instr.fill, hq]
    have c1 : (val σ v).cells.size = s := by rw [val_cells]; simpa using h1
    have c2 : (vals σ cs).toArray.size = cs.length := by simp [vals_eq]
    rw [if_neg (by rw [c1, c2]; simp; omega), fill_one (by omega)]
    exact fillP_s is pl vs _ r (by simpa using hl) (fun j i q hj hq => hp (j + 1) i q (by simpa using hj) (by simpa using hq)) h2
theorem fillP_ok {n : Nat} : ∀ (pl : List (Nat × Nat)) (vs cs r : List FV), fillP pl vs cs = some r → oks n vs → (∀ v ∈ cs, v.ok n ∧ v.flat = true) → (∀ v ∈ r, v.ok n ∧ v.flat = true) ∧ r.length = cs.length
  | [], vs, cs, r, h, hv, hc => by
    cases vs <;> simp only [fillP] at h
    · cases h; exact ⟨hc, rfl⟩
    · cases h
  | (off, s) :: pl, [], cs, r, h, hv, hc => by simp [fillP] at h
  | (off, s) :: pl, v :: vs, cs, r, h, hv, hc => by
    simp only [fillP] at h
    obtain ⟨h1, h2⟩ := bif_some h
    obtain ⟨h1, h3⟩ := and_true' h1
    obtain ⟨h3, h4⟩ := and_true' h3
    have h1 := beq h1; have h3 := ble h3
    have hv1 := cells_ok hv.1 h4
    have := fillP_ok pl vs _ r h2 hv.2 (by
      intro u hu
      rw [setN_eq _ _ _ (by omega)] at hu
      simp only [List.append_assoc, List.mem_append] at hu
      rcases hu with hu | hu | hu
      · exact hc u (List.mem_of_mem_take hu)
      · exact hv1 u hu
      · exact hc u (List.mem_of_mem_drop hu))
    refine ⟨this.1, this.2.trans ?_⟩
    rw [setN_eq _ _ _ (by omega)]
    simp; omega
theorem placesOf_s {all : List (Nat × Nat)} : ∀ (ps : List (Nat × Operand)) (pl : List (Nat × Nat)), placesOf all ps = some pl → ps.length = pl.length ∧ ∀ (j : Nat) i q, (ps.map (·.1))[j]? = some i → pl[j]? = some q → all[i]? = some q
  | [], pl, h => by simp only [placesOf, Option.some.injEq] at h; subst h; simp
  | (i, x) :: ps, pl, h => by
    simp only [placesOf] at h
    cases hq : all[i]? with
    | none => rw [hq] at h; cases h
    | some q =>
      cases hr : placesOf all ps with
      | none => rw [hq, hr] at h; cases h
      | some l =>
        rw [hq, hr] at h; simp only [Option.some.injEq] at h; subst h
        obtain ⟨h1, h2⟩ := placesOf_s ps l hr
        refine ⟨by simp [h1], fun j i' q' hj hq' => ?_⟩
        cases j with
        | zero => simp at hj hq'; subst hj; subst hq'; exact hq
        | succ j => exact h2 j i' q' (by simpa using hj) (by simpa using hq')
theorem placesA_s (s : Nat) : ∀ (ps : List (Nat × Operand)), ps.length = (placesA s ps).length ∧ ∀ (j : Nat) i q, (ps.map (·.1))[j]? = some i → (placesA s ps)[j]? = some q → q = (i * s, s)
  | [] => by simp [placesA]
  | (i, x) :: ps => by
    obtain ⟨h1, h2⟩ := placesA_s s ps
    refine ⟨by simp [placesA, h1], fun j i' q' hj hq' => ?_⟩
    cases j with
    | zero => simp [placesA] at hj hq'; subst hj; exact hq'.symm
    | succ j => exact h2 j i' q' (by simpa using hj) (by simpa [placesA] using hq')
theorem zip_map (ps : List (Nat × Operand)) (ρ : Operand → Value) : (ps.map (·.1)).zip ((ps.map (·.2)).map ρ) = ps.map fun p => (p.1, ρ p.2) := by
  induction ps with
  | nil => rfl
  | cons p ps ih => simp only [List.map_cons, List.zip_cons_cons, ih]
theorem zero_info {t : TypeId} {z : FV} (h : zeroT P t = some z) : ∃ i V, P.info? t = some i ∧ i.zero = some V ∧ ∀ n σ, val σ z = V ∧ z.ok n := by
  unfold zeroT at h
  cases hi : P.info? t with
  | none => rw [hi] at h; cases h
  | some i =>
    rw [hi] at h
    cases hz : i.zero with
    | none => simp [hz] at h
    | some V =>
      simp [hz] at h
      exact ⟨i, V, rfl, hz, fun n σ => cv_val σ V z h⟩
theorem fBuild_s {t : TypeId} {ps : List (Nat × Operand)} {pl : List (Nat × Nat)} {z : FV} (hz : zeroT P t = some z) (hc : z.cell = true)
    (hfill : ∀ (σ : Ren) (vs r : List FV), fillP pl vs z.cells = some r → ∀ L, L = (ps.map (·.1)).zip (vals σ vs) → P.built t L = some (vals σ r).toArray) :
    HLP P (fBuild pl z.cells) fun l => (do pure (.value (← Instr.build t ((ps.map (·.1)).zip l).toArray))) := fun B w0 σ h w x k v hf hR hx he => by
  obtain ⟨r, hr, e⟩ := opt_ok he
  obtain ⟨i, V, hi, hV, hz'⟩ := zero_info hz
  have hb := hfill σ x r hr _ rfl
  have hcell := cells_ok (hz' h.next σ).2 hc
  obtain ⟨o1, o2⟩ := fillP_ok pl x z.cells r hr hx hcell
  refine FinP.here hR (u := .agg r) ?_ e ?_
  · simp only [FV.ok, List.all_eq_true]
    exact ⟨oks_iff.2 fun v hv => (o1 v hv).1, fun v hv => (o1 v hv).2⟩
  · simp [run_build w t _ _ (show P.built t ((ps.map (·.1)).zip (vals σ x)).toArray.toList = _ from by simpa using hb), val]
theorem cBuild_s {o : Oper} {t : TypeId} {ps : Array (Nat × Operand)} (ho : o.op = .build t ps) : PBS P N o (cBuild P N t ps) := by
  have he : ∀ ρ, execOp ρ o = (((fun l => do pure (.value (← Instr.build t ((ps.toList.map (·.1)).zip l).toArray))) : List Value → Sem Next)) ((ps.toList.map (·.2)).map ρ) := by
    intro ρ
    have e1 : ps.map (fun (i, x) => (i, ρ x)) = (ps.toList.map fun p => (p.1, ρ p.2)).toArray := by rw [← Array.toList_map]
    simp only [execOp, ho, e1, zip_map]
  have hd : ∀ c, o.op ≠ .defer c := by simp [ho]
  unfold cBuild
  cases hz : zeroT P t with
  | none => exact .no
  | some z =>
    obtain ⟨it, V, hi, hV, hz'⟩ := zero_info hz
    simp only
    cases hc : z.cell with
    | false => exact .no
    | true =>
    simp only [Bool.not_true, cond_false]
    cases hu : P.underlying t with
    | none => simp only [hu]; exact .no
    | some d =>
      cases d <;> simp only [hu] <;> try exact .no
      case array n e =>
        cases hs : sizeT P e with
        | none => simp only [hs]; exact .no
        | some s =>
          simp only [hs]
          obtain ⟨ie, hie, hsz⟩ := info_size hs
          refine (opL_pure (fBuild_s hz hc fun σ vs r hr L hL => ?_) hd he)
          obtain ⟨p1, p2⟩ := placesA_s s ps.toList
          have := fillP_s (σ := σ) (place := fun i => some (i * ie.size, ie.size)) (ps.toList.map (·.1)) _ vs z.cells r (by simpa using p1) (fun j i q hj hq => by rw [p2 j i q hj hq, hsz]) hr
          have hzc : V.cells = (vals σ z.cells).toArray := by rw [← (hz' 0 σ).1, val_cells, vals_eq]
          rw [hL]
          simp only [Program.built, hi, hu, hV, hie]
          rw [hzc]; exact this
      case struct fs =>
        cases hm : fs.toList.mapM (fun f => (P.info? f.type).map fun i => (f.offset, i.size)) with
        | none => simp only [hm]; exact .no
        | some all =>
          simp only [hm]
          cases hp : placesOf all ps.toList with
          | none => simp only [hp]; exact .no
          | some pl =>
            simp only [hp]
            refine (opL_pure (fBuild_s hz hc fun σ vs r hr L hL => ?_) hd he)
            obtain ⟨p1, p2⟩ := placesOf_s ps.toList pl hp
            have := fillP_s (σ := σ) (place := fun i => all.toArray[i]?) (ps.toList.map (·.1)) _ vs z.cells r (by simpa using p1) (fun j i q hj hq => by simpa using p2 j i q hj hq) hr
            have hzc : V.cells = (vals σ z.cells).toArray := by rw [← (hz' 0 σ).1, val_cells, vals_eq]
            rw [hL]
            simp only [Program.built, hi, hu, hV, hm]
            rw [hzc]; exact this
end Go.Ev

/-  -/
set_option linter.unusedVariables false
namespace Go.Ev
open Go.RowKit
variable {P : Program} {N : Nat}
theorem rep_length (z : List FV) : ∀ n, (rep z n).length = n * z.length
  | 0 => by simp [rep]
  | n + 1 => by simp [rep, rep_length z n, Nat.succ_mul]; omega
theorem rep_get (z : List FV) (hz : 0 < z.length) : ∀ (n j : Nat), j < n * z.length → (rep z n)[j]? = z[j % z.length]?
  | 0, j, h => by omega
  | n + 1, j, h => by
    simp only [rep]
    by_cases hj : j < z.length
    · rw [List.getElem?_append_left hj, Nat.mod_eq_of_lt hj]
    · rw [List.getElem?_append_right (by omega), rep_get z hz n (j - z.length) (by rw [Nat.succ_mul] at h; omega)]
      congr 1
      rw [← Nat.mod_eq_sub_mod (by omega)]
theorem rep_mem {z : List FV} {n : Nat} {p : FV → Prop} (h : ∀ v ∈ z, p v) : ∀ v ∈ rep z n, p v := by
  induction n with
  | zero => intro v hv; simp [rep] at hv
  | succ n ih =>
    intro v hv
    simp only [rep, List.mem_append] at hv
    exact hv.elim (h v) (ih v)
theorem zeros_eq {σ : Ren} {z : FV} {V : Value} {s n : Nat} (hz : val σ z = V) (hs : z.cells.length = s) (h1 : 1 ≤ s) :
    (Array.range (n * s)).map (fun j => V.cells[j % V.cells.size]!) = (vals σ (rep z.cells n)).toArray := by
  have hV : V.cells = (vals σ z.cells).toArray := by rw [← hz, val_cells, vals_eq]
  have hsz : V.cells.size = s := by rw [hV]; simpa [vals_eq] using hs
  apply Array.ext_getElem?
  intro j
  by_cases hj : j < n * s
  · have hm : j % s < z.cells.length := by rw [hs]; exact Nat.mod_lt _ (by omega)
    have hr := rep_get z.cells (by omega) n j (by rw [hs]; exact hj)
    rw [hs] at hr
    simp only [Array.getElem?_map, Array.getElem?_range, hj, if_true, Option.map_some, hsz, vals_eq, List.getElem?_toArray, List.getElem?_map, hr]
    rw [hV]
    simp [vals_eq, hm]
  · have hl : (rep z.cells n).length = n * s := by rw [rep_length, hs]
    rw [Array.getElem?_eq_none (by simp; omega), Array.getElem?_eq_none (by simp [vals_eq, hl]; omega)]
theorem fBuildSlice_s {t e : TypeId} {s n : Nat} {z : FV} {ps : List (Nat × Operand)} (hT : Tslice P t = some (e, s)) (hz : zeroT P e = some z) (hs : z.cells.length = s) (h1 : 1 ≤ s) (hc : z.cell = true) (hn : n * s ≤ 16777216) :
    HLS P (fBuildSlice e (n * s) n (placesA s ps) (rep z.cells n)) fun l => (do pure (.value (← Instr.buildSlice t n ((ps.map (·.1)).zip l).toArray))) := fun B w0 σ h w x k v hf hR hx he => by
  obtain ⟨r, hr, e1⟩ := opt_ok he
  obtain ⟨hu, hsz⟩ := sliceT hT
  obtain ⟨i, V, hi, hV, hz'⟩ := zero_info hz
  have hcell := cells_ok (hz' h.next σ).2 hc
  have hrl : (rep z.cells n).length = n * s := by rw [rep_length, hs]
  obtain ⟨o1, o2⟩ := fillP_ok _ x _ r hr hx (rep_mem hcell)
  have hrlen : r.length = n * s := o2.trans hrl
  obtain ⟨p1, p2⟩ := placesA_s s ps
  have hfill := fillP_s (σ := σ) (place := fun i => some (i * s, s)) (ps.map (·.1)) _ x _ r (by simpa using p1) (fun j i q hj hq => by rw [p2 j i q hj hq]) hr
  have hzs := zeros_eq (n := n) (hz' h.next σ).1 hs h1
  refine Fin.new (σ' := σ.add h.next w.heap.size 0 0) (o := .cells (vals σ r).toArray e) hR (Ren.add_ext _ _ _ _ _) (Ren.add_blk _ _ _ _ _) (BO.row r e (n * s) (by omega) o1 _ _) (by simp [FV.ok]) e1 ?_
  have hn' : ¬ (n * s > 2 ^ 24) := by omega
  by_cases h0 : n * s = 0
  · have hr0 : rep z.cells n = [] := List.length_eq_zero_iff.1 (hrl.trans h0)
    have hf0 : Instr.fill (fun i => some (i * s, s)) #[] ((ps.map (·.1)).zip (vals σ x)) = some (vals σ r).toArray := by rw [hr0] at hfill; simpa [vals] using hfill
    have hn0 : n = 0 := by rcases Nat.mul_eq_zero.1 h0 with h | h; exact h; omega
    subst hn0
    simp [Instr.buildSlice, run_underlying hu, run_sizeT hsz, hf0, newRow, val, Array.range_zero']
  · have hz0 : ¬ (n = 0 ∨ s = 0) := by intro h; rcases h with h | h <;> simp [h] at h0
    have hzw : ∀ w, (zeroValue e).run P w = .ok V w := fun w => by simp [zeroValue, typeInfo, hi, hV]
    simp only [Instr.buildSlice, Sem.run_bind, run_underlying hu, Result.andThen_ok, run_sizeT hsz, if_neg hn', if_neg h0, Sem.run_pure, hzw, hzs, List.toList_toArray, hfill]
    simp [newRow, val]
theorem cBuildSlice_s {o : Oper} {t : TypeId} {n : Nat} {ps : Array (Nat × Operand)} (ho : o.op = .buildSlice t n ps) : OBS P N o (cBuildSlice P N t n ps) := by
  have he : ∀ ρ, execOp ρ o = (((fun l => do pure (.value (← Instr.buildSlice t n ((ps.toList.map (·.1)).zip l).toArray))) : List Value → Sem Next)) ((ps.toList.map (·.2)).map ρ) := by
    intro ρ
    have e1 : ps.map (fun (i, x) => (i, ρ x)) = (ps.toList.map fun p => (p.1, ρ p.2)).toArray := by rw [← Array.toList_map]
    simp only [execOp, ho, e1, zip_map]
  unfold cBuildSlice
  cases hT : Tslice P t with
  | none => exact .no
  | some q =>
    obtain ⟨e, s⟩ := q
    simp only
    cases hz : zeroT P e with
    | none => exact .no
    | some z =>
      simp only
      cases hc : (Nat.beq z.cells.length s && (Nat.ble 1 s && (z.cell && Nat.ble (n * s) 16777216))) with
      | false => exact .no
      | true =>
        obtain ⟨c1, c2⟩ := and_true' hc
        obtain ⟨c2, c3⟩ := and_true' c2
        obtain ⟨c3, c4⟩ := and_true' c3
        exact .mk (opL_sound (fBuildSlice_s hT hz (beq c1) (ble c2) c3 (ble c4)) (by simp [ho]) he)
theorem fMakeSlice_s {t e : TypeId} {s b : Nat} {z : FV} (hT : Tslice P t = some (e, s)) (hz : zeroT P e = some z) (hs : z.cells.length = s) (h1 : 1 ≤ s) (hc : z.cell = true) (hb : bytesT P e = some b) (hb' : b ≤ 1000000) :
    H2S P (fMakeSlice e s z.cells) fun l c => (do pure (.value (← Instr.makeSlice t l c))) := fun B w0 σ h w x y k v hf hR hx hy he => by
  obtain ⟨j1, l, rfl, e1⟩ := asNat_ok he
  obtain ⟨j2, c, rfl, e2⟩ := asNat_ok e1
  obtain ⟨c1, e3⟩ := iff_ok e2
  obtain ⟨c2, e4⟩ := iff_ok e3
  have c1 := ble c1; have c2 := ble c2
  obtain ⟨hu, hsz⟩ := sliceT hT
  obtain ⟨i, V, hi, hV, hz'⟩ := zero_info hz
  have hcell := cells_ok (hz' h.next σ).2 hc
  obtain ⟨i', hi', hsz'⟩ := info_size hsz
  rw [hi] at hi'; cases hi'
  have hbi : i.bytes = b := by unfold bytesT at hb; rw [hi] at hb; simpa using hb
  have hbytes : i.bytes * c ≤ 1000000 * 100000 := Nat.mul_le_mul (by omega) c2
  have hrl : (rep z.cells c).length = c * s := by rw [rep_length, hs]
  have hzs := zeros_eq (n := c) (hz' h.next σ).1 hs h1
  refine Fin.new (σ' := σ.add h.next w.heap.size 0 0) (o := .cells (vals σ (rep z.cells c)).toArray e) hR (Ren.add_ext _ _ _ _ _) (Ren.add_blk _ _ _ _ _) (BO.row _ e (c * s) (by omega) (rep_mem hcell) _ _) (by simp [FV.ok]) e4 ?_
  have hm : madeCells V.cells (c * i.size) = (vals σ (rep z.cells c)).toArray := by
    rw [hsz']; exact hzs
  have := run_make (P := P) w t e i V hu hi hV j1 j2 (l : Int) (c : Int) (by omega) (by omega) (by rw [← Int.natCast_mul]; omega) (by omega)
  simp only [Int.toNat_natCast, hm] at this
  simp [val, this]
theorem cMakeSlice_s {o : Oper} {t : TypeId} {x y : Operand} (ho : o.op = .makeSlice t x y) : OBS P N o (cMakeSlice P N t x y) := by
  unfold cMakeSlice
  cases hT : Tslice P t with
  | none => exact .no
  | some q =>
    obtain ⟨e, s⟩ := q
    simp only
    cases hz : zeroT P e with
    | none => exact .no
    | some z =>
      cases hb : bytesT P e with
      | none => exact .no
      | some b =>
        simp only
        cases hc : (Nat.beq z.cells.length s && (Nat.ble 1 s && (z.cell && Nat.ble b 1000000))) with
        | false => exact .no
        | true =>
          obtain ⟨c1, c2⟩ := and_true' hc
          obtain ⟨c2, c3⟩ := and_true' c2
          obtain ⟨c3, c4⟩ := and_true' c3
          exact .mk (op2_sound (fMakeSlice_s hT hz (beq c1) (ble c2) c3 hb (ble c4)) (by simp [ho]) fun ρ => by simp [execOp, ho])
/-! ### conversions -/
theorem bytesF_vals (σ : Ren) {l : List Nat} (h : ∀ b ∈ l, b < 256) : vals σ (bytesF l) = l.map fun b : Nat => Value.int .u8 (b : Int) := by
  induction l with
  | nil => rfl
  | cons b l ih => simp only [bytesF, vals, List.map_cons, ih (fun c hc => h c (by simp [hc])), val]; rfl
theorem bytesF_ok {n : Nat} {l : List Nat} : ∀ v ∈ bytesF l, v.ok n ∧ v.flat = true := by
  induction l with
  | nil => simp [bytesF]
  | cons b l ih =>
    intro v hv
    simp only [bytesF, List.mem_cons] at hv
    rcases hv with rfl | hv
    · exact ⟨by simp [FV.ok], rfl⟩
    · exact ih v hv
theorem bytesF_length (l : List Nat) : (bytesF l).length = l.length := by induction l <;> simp_all [bytesF]
theorem bytesOf_map {l : List Nat} (h : ∀ b ∈ l, b < 256) : (bytesOf l).data.map (fun b => Value.int .u8 b.toNat) = (l.map fun b : Nat => Value.int .u8 (b : Int)).toArray := by
  simp only [bytesOf, List.map_toArray, List.map_map]
  congr 1
  apply List.map_congr_left
  intro b hb
  have := h b hb
  simp; omega
theorem freeze_new (w : World) (c : Array Value) (e : TypeId) : (w.alloc (.cells c e)).freeze ⟨w.heap.size, c.size, none⟩ 1 = w.alloc (.cells c e (c.size, c.size + 1)) := by
  have : ((w.heap.push (.cells c e)).modify w.heap.size fun
      | .cells c elem (lo, hi) => .cells c elem (if lo == hi then (c.size, c.size + 1) else (min lo c.size, max hi (c.size + 1)))
      | o => o) = w.heap.push (.cells c e (c.size, c.size + 1)) := by
    apply Array.ext_getElem?
    intro k
    simp only [Array.getElem?_modify, Array.getElem?_push]
    by_cases hk : k = w.heap.size
    · subst hk; simp
    · rw [if_neg (Ne.symm hk), if_neg hk, if_neg hk]
  unfold World.freeze World.alloc
  simp only [Nat.one_ne_zero, if_false]
  congr 1
  apply Array.ext_getElem?
  intro k
  simp only [Array.getElem?_modify, Array.getElem?_push]
  by_cases hk : k = w.heap.size
  · subst hk; simp
  · rw [if_neg (Ne.symm hk), if_neg hk, if_neg hk]
theorem run_conv_sb {s d e : TypeId} (hs : P.underlying s = some .string) (hd : P.underlying d = some (.slice e)) (he : P.underlying e = some (.int .u8)) (S : ByteArray) (w : World) :
    ∃ c cells, S.size ≤ c ∧ cells.size = c ∧ (∀ j V, j < S.size → (S.data.map fun b => Value.int .u8 b.toNat)[j]? = some V → cells[j]? = some V) ∧
      (convert s d (.string S)).run P w = .ok (.slice (some ⟨w.heap.size, 0, none⟩) S.size c) (w.drew.alloc (.cells cells e (cells.size, cells.size + 1))) := by
  let q : Question := .appendCap S.size 0 e
  let c := q.cut (w.tape w.drawn q)
  have hc : S.size ≤ c := by show S.size ≤ S.size + _; omega
  let cells : Array Value := (S.data.map fun b => Value.int .u8 b.toNat) ++ Array.replicate (c - S.size) (.int .u8 0)
  have hcs : cells.size = c := by
    have : S.data.size = S.size := rfl
    simp [cells, this]; omega
  refine ⟨c, cells, hc, hcs, fun j V hj hV => ?_, ?_⟩
  · have : S.data.size = S.size := rfl
    simp only [cells]
    rw [Array.getElem?_append_left (by simp [this]; exact hj)]; exact hV
  · have h1 : (choose q).run P w = .ok c w.drew := by
      rw [run_choose]; simp [q, c, Question.forced]
    have h2 : (w.drew.alloc (.cells cells e)).shape? w.heap.size = some (e, cells.size) := by
      simp only [World.shape?]; rw [show w.heap.size = w.drew.heap.size from rfl, heap_alloc_new]
    have h3 := freeze_new w.drew cells e
    simp only [World.size_drew] at h3
    simp only [convert, Sem.run_bind, run_underlying hs, run_underlying hd, Result.andThen_ok, run_underlying he, Conv.stringToBytes]
    rw [show (Question.appendCap S.size 0 e) = q from rfl, h1]
    simp only [Result.andThen_ok, newRow, Sem.run_bind, run_newObj, Sem.run_pure, markStringish, run_shape]
    rw [show ({ w.drew with heap := w.drew.heap.push (Obj.cells ((S.data.map fun b => Value.int .u8 b.toNat) ++ Array.replicate (c - S.size) (.int .u8 0)) e) } : World) = w.drew.alloc (.cells cells e) from rfl]
    simp only [World.size_drew, h2, run_freeze, Result.andThen_ok, h3]
theorem fConvSB_s {s d e : TypeId} (hs : P.underlying s = some .string) (hd : P.underlying d = some (.slice e)) (he : P.underlying e = some (.int .u8)) : H1S P (fConvSB e) fun x => (do pure (.value (← convert s d x))) := fun B w0 σ h w x k v hf hR hx he' => by
  cases x <;> try (cases he'; done)
  rename_i l
  simp only [FV.ok] at hx
  have hx' : k (.slice h.next 0 l.length false 0) (h.new (.cells e 2 l.length (KT.fill (bytesF l) 0 .nil))) = .ok v hf := he'
  obtain ⟨c, cells, c1, c2, c3, c4⟩ := run_conv_sb (P := P) hs hd he (bytesOf l) w
  simp only [bytesOf_size] at c1 c3 c4
  refine Fin.newD (σ' := σ.add h.next w.heap.size 0 c) (o := .cells cells e (cells.size, cells.size + 1)) hR (Ren.add_ext _ _ _ _ _) (Ren.add_blk _ _ _ _ _) ?_ (by simp [FV.ok]) hx' ?_
  · refine ⟨_, _, rfl, by simp; omega, fun hg => absurd hg (by omega), fun hg => absurd hg (by omega), fun j v hj hv => ?_⟩
    rcases KT.get_fill _ 0 .nil j v hv with ⟨_, a⟩ | a
    · have hm := bytesF_ok (n := h.next + 1) v (List.mem_of_getElem? a)
      refine ⟨?_, hm⟩
      rw [Ren.add_base, Nat.zero_add]
      refine c3 j _ (by omega) ?_
      rw [bytesOf_map hx, ← bytesF_vals (σ.add h.next w.heap.size 0 c) hx]
      simp only [Nat.sub_zero] at a
      simp [vals_eq, a]
    · simp [KT.get_nil] at a
  · simp [val, c4]
theorem bytesB_s : ∀ (l : List FV) (s : List Nat), bytesB l = some s → l = bytesF s ∧ ∀ b ∈ s, b < 256
  | [], s, h => by simp only [bytesB, Option.some.injEq] at h; subst h; simp [bytesF]
  | v :: l, s, h => by
    simp only [bytesB] at h
    cases v <;> try (cases h; done)
    rename_i k n
    cases k <;> try (cases h; done)
    cases n <;> try (cases h; done)
    rename_i b
    simp only at h
    obtain ⟨h1, h2⟩ := bif_some h
    have h1 := ble h1
    cases hl : bytesB l with
    | none => rw [hl] at h2; cases h2
    | some r =>
      rw [hl] at h2; simp only [Option.some.injEq] at h2; subst h2
      obtain ⟨e1, e2⟩ := bytesB_s l r hl
      exact ⟨by simp [bytesF, ← e1], by intro c hc; simp only [List.mem_cons] at hc; rcases hc with rfl | hc; omega; exact e2 c hc⟩
theorem foldl_push (l : List Nat) : ∀ (s : ByteArray), (l.map fun b : Nat => (b : Int)).foldl (fun r n => r.push (UInt8.ofNat n.toNat)) s = s ++ bytesOf l := by
  induction l with
  | nil => intro s; apply ByteArray.ext; simp [bytesOf]
  | cons b l ih =>
    intro s
    simp only [List.map_cons, List.foldl_cons, ih]
    apply ByteArray.ext
    simp [bytesOf]
theorem fConvBS_s {s d e : TypeId} (hs : P.underlying s = some (.slice e)) (hd : P.underlying d = some .string) (he : P.underlying e = some (.int .u8)) : H1P P fConvBS fun x => (do pure (.value (← convert s d x))) := fun B w0 σ h w x k v hf hR hx he' => by
  cases x <;> try (cases he'; done)
  case nils =>
    have hx' : k (.str []) h = .ok v hf := he'
    refine FinP.here hR (by simp [FV.ok]) hx' ?_
    simp only [val, Sem.run_bind, run_convert_bytes_string w s d e _ _ _ hs he hd]
    simp [Conv.bytesToString, bytesOf]; rfl
  case slice i off len cx cap =>
    obtain ⟨t, g, m, cs, hi, e1⟩ := cells_ok' he'
    obtain ⟨hm, e2⟩ := iff_ok e1
    obtain ⟨l, hl, e3⟩ := opt_ok e2
    obtain ⟨b, hb, e4⟩ := opt_ok e3
    obtain ⟨r1, r2, r3⟩ := hR.loadCells hi (ble hm) hl
    obtain ⟨b1, b2⟩ := bytesB_s l b hb
    refine FinP.here hR (by simp only [FV.ok]; exact b2) e4 ?_
    have hr := run_bytesToString (P := P) w ⟨σ.blk i, σ.base i + off, none⟩ len (if cx = true then cap else σ.cap i - cap) (b.map fun x : Nat => (x : Int)) (by rw [r1, b1, bytesF_vals σ b2, List.map_map]; rfl)
    simp only [val, Sem.run_bind, run_convert_bytes_string w s d e _ _ _ hs he hd, hr, Result.andThen_ok, foldl_push]
    simp [val]
theorem cConvert_s {o : Oper} {s d : TypeId} {x : Operand} (ho : o.op = .convert s d x) : OBS P N o (cConvert P N s d x) := by
  have he : ∀ ρ, execOp ρ o = (do pure (.value (← convert s d (ρ x)))) := fun ρ => by simp [execOp, ho]
  have hd : ∀ c, o.op ≠ .defer c := by simp [ho]
  unfold cConvert
  cases h1 : P.underlying s with
  | none => exact .no
  | some ts =>
    cases h2 : P.underlying d with
    | none => simp only; cases ts <;> exact .no
    | some td =>
      cases ts <;> cases td <;> simp only <;> try exact .no
      · exact (op1_pure (fConvI_s h1 h2 (wrap_eq _)) hd he).obs
      · refine .mk (op1_sound (sem := fun x => (do pure (.value (← convert s d x)))) (fun B w0 σ h w x k v hf' hR hx he => ?_) hd he)
        cases x <;> try (cases he; done)
        exact Fin.here hR hx he (by simp [convert, run_underlying h1, run_underlying h2, val])
      · rename_i e
        split
        · rename_i h3; exact .mk (op1_sound (fConvSB_s h1 h2 h3) hd he)
        · exact .no
      · rename_i e
        split
        · rename_i h3; exact (op1_pure (fConvBS_s h1 h2 h3) hd he).obs
        · exact .no
theorem cConvert_p {o : Oper} {s d : TypeId} {x : Operand} (ho : o.op = .convert s d x) (hn : ∀ e, P.underlying d ≠ some (.slice e)) : PBS P N o (cConvert P N s d x) := by
  have he : ∀ ρ, execOp ρ o = (do pure (.value (← convert s d (ρ x)))) := fun ρ => by simp [execOp, ho]
  have hd : ∀ c, o.op ≠ .defer c := by simp [ho]
  unfold cConvert
  cases h1 : P.underlying s with
  | none => exact .no
  | some ts =>
    cases h2 : P.underlying d with
    | none => simp only; cases ts <;> exact .no
    | some td =>
      cases ts <;> cases td <;> simp only <;> try exact .no
      · exact (op1_pure (fConvI_s h1 h2 (wrap_eq _)) hd he)
      · refine (op1_pure (sem := fun x => (do pure (.value (← convert s d x)))) (fun B w0 σ h w x k v hf' hR hx he => ?_) hd he)
        cases x <;> try (cases he; done)
        exact FinP.here hR hx he (by simp [convert, run_underlying h1, run_underlying h2, val])
      · rename_i e
        exact absurd h2 (hn e)
      · rename_i e
        split
        · rename_i h3; exact (op1_pure (fConvBS_s h1 h2 h3) hd he)
        · exact .no
/-! ### lengths -/
theorem cLenB_s {o : Oper} {argT : Array TypeId} {x : Operand} (c : Call) (ho : o.op = .call c) (hc : c.callee = .builtin .len) (ha : c.args = #[x]) (hT : c.argTypes = argT) : PBS P N o (cLenB P N argT x) := by
  have he : ∀ ρ, execOp ρ o = (do pure (.value (← Builtin.len_ argT o.type #[ρ x]))) := fun ρ => by simp [execOp, ho, resolve, hc, ha, invoke, builtin, hT]
  have hd : ∀ c, o.op ≠ .defer c := by simp [ho]
  unfold cLenB
  cases h0 : argT[0]? with
  | none => exact .no
  | some t =>
    simp only
    cases hu : P.underlying t with
    | none => exact .no
    | some d =>
      cases d <;> simp only <;> try exact .no
      case array n e =>
        refine (op1_pure (sem := fun x => (do pure (.value (← Builtin.len_ argT o.type #[x])))) (fun B w0 σ h w x k v hf' hR hx he => ?_) hd he)
        exact FinP.here hR (by simp [FV.ok]) he (by simp [Builtin.len_, h0, run_underlying hu, val, goInt])
      all_goals refine (op1_pure (sem := fun x => (do pure (.value (← Builtin.len_ argT o.type #[x])))) (fun B w0 σ h w x k v hf' hR hx he => ?_) hd he)
      · cases x <;> try (cases he; done)
        exact FinP.here hR (by simp [FV.ok]) he (by simp [Builtin.len_, h0, run_underlying hu, val, goInt])
      · cases x <;> try (cases he; done)
        all_goals exact FinP.here hR (by simp [FV.ok]) he (by simp [Builtin.len_, h0, run_underlying hu, val, goInt])
      · cases x <;> try (cases he; done)
        · obtain ⟨es, c, hi, e⟩ := map_ok' he
          obtain ⟨ob, ho', hb, _⟩ := hR.blk _ _ hi (by simp)
          subst hb
          refine FinP.here hR (by simp [FV.ok]) e ?_
          simp [Builtin.len_, h0, run_underlying hu, val, goInt, getObj, Sem.run, ho']
        · exact FinP.here hR (by simp [FV.ok]) he (by simp [Builtin.len_, h0, run_underlying hu, val, goInt])
theorem cCapB_s {o : Oper} {argT : Array TypeId} {x : Operand} (c : Call) (ho : o.op = .call c) (hc : c.callee = .builtin .cap) (ha : c.args = #[x]) (hT : c.argTypes = argT) : PBS P N o (cCapB P N argT x) := by
  have he : ∀ ρ, execOp ρ o = (do pure (.value (← Builtin.cap_ argT o.type #[ρ x]))) := fun ρ => by simp [execOp, ho, resolve, hc, ha, invoke, builtin, hT]
  have hd : ∀ c, o.op ≠ .defer c := by simp [ho]
  unfold cCapB
  cases h0 : argT[0]? with
  | none => exact .no
  | some t =>
    simp only
    cases hu : P.underlying t with
    | none => exact .no
    | some d =>
      cases d <;> simp only <;> try exact .no
      refine (op1_pure (sem := fun x => (do pure (.value (← Builtin.cap_ argT o.type #[x])))) (fun B w0 σ h w x k v hf' hR hx he => ?_) hd he)
      obtain ⟨u, hu', e⟩ := opt_ok he
      cases x <;> simp only [fCap, Option.some.injEq, reduceCtorEq] at hu'
      · obtain ⟨c1, c2⟩ := bif_some hu'
        cases c2
        exact FinP.here hR (by simp [FV.ok]) e (by simp [Builtin.cap_, h0, run_underlying hu, val, goInt, c1])
      · subst hu'
        exact FinP.here hR (by simp [FV.ok]) e (by simp [Builtin.cap_, h0, run_underlying hu, val, goInt])
theorem minmax_s {b : Bool} {w : World} {σ : Ren} : ∀ (l : List FV) (x u : FV) (n : Nat), minmax b x l = some u → x.ok n → ((vals σ l).foldlM (if b then Builtin.max2 else Builtin.min2) (val σ x)).run P w = .ok (val σ u) w ∧ u.ok n
  | [], x, u, n, h, hx => by simp only [minmax, Option.some.injEq] at h; subst h; simp [vals, hx]
  | y :: l, x, u, n, h, hx => by
    cases x <;> simp only [minmax] at h <;> try (cases h; done)
    cases y <;> simp only at h <;> try (cases h; done)
    have ih := minmax_s (w := w) (σ := σ) l _ u n h (by simp [FV.ok])
    refine ⟨?_, ih.2⟩
    rw [← ih.1]
    cases b <;> simp [vals, val, Builtin.max2, Builtin.min2, ilt_eq, Bool.cond_decide]
end Go.Ev

/-  -/
set_option linter.unusedVariables false
namespace Go.Ev
open Go.RowKit
variable {P : Program} {N : Nat}
/-! ### slices of slices -/
theorem bnd_s {b : Bool} {d : Nat} {vs : List FV} {q : Nat × List FV} (h : bnd b d vs = some q) : (b = false ∧ q = (d, vs)) ∨ (b = true ∧ ∃ j, vs = .int j (.ofNat q.1) :: q.2) := by
  cases b with
  | false => simp only [bnd, Option.some.injEq] at h; exact .inl ⟨rfl, h.symm⟩
  | true =>
    right
    refine ⟨rfl, ?_⟩
    simp only [bnd] at h
    cases vs with
    | nil => cases h
    | cons v r =>
      simp only at h
      cases v <;> simp only [nat?] at h <;> try (cases h; done)
      rename_i j n
      cases n <;> simp only at h <;> try (cases h; done)
      simp only [Option.some.injEq] at h; subst h
      exact ⟨j, rfl⟩
def semSl (t : TypeId) (lo hi mx : Bool) (l : List Value) : Sem Next :=
  let r := l.tail
  let lv := if lo then r.head? else none
  let r := if lo then r.tail else r
  let hv := if hi then r.head? else none
  let r := if hi then r.tail else r
  let mv := if mx then r.head? else none
  do pure (.value (← Instr.sliceAt t (l.headD (.tuple #[])) lv hv mv))
theorem known_s {B : Nat} {w0 : World} {σ : Ren} {h : FH} {w : World} (H : HR P B w0 σ h w) {i : Nat} {e : TypeId} (hm : known h i e ≠ 0) : known h i e ≤ σ.cap i * P.cellsOf e := by
  unfold known at hm ⊢
  cases hg : h.get i with
  | none => rw [hg] at hm; exact absurd rfl hm
  | some b =>
    rw [hg] at hm
    cases b <;> try (exact absurd rfl hm)
    rename_i t g m cs
    simp only at hm ⊢
    cases h1 : (Nat.beq g 1 && Nat.beq t e) with
    | false => rw [h1] at hm; exact absurd rfl hm
    | true =>
      obtain ⟨h1, h2⟩ := and_true' h1
      have h1 := beq h1; have h2 := beq h2; subst h1; subst h2
      obtain ⟨o, ho, c, fr, e1, e2, e3, e4, e5⟩ := H.blk i _ hg (by simp)
      exact (e4 rfl).1
theorem capLE_s {B : Nat} {w0 : World} {σ : Ren} {h : FH} {w : World} (H : HR P B w0 σ h w) {i : Nat} {e : TypeId} {s : Nat} (hs : P.cellsOf e = s) (h1 : 1 ≤ s) {n cap off : Nat} {cx : Bool} (hc : capLE n (known h i e) cx cap off s = true) :
    n ≤ (if cx = true then cap else σ.cap i - cap) := by
  cases cx with
  | true => simp only [capLE, cond_true] at hc; simpa using ble hc
  | false =>
    simp only [capLE, cond_false] at hc
    cases hn : Nat.beq n 0 with
    | true => have := beq hn; subst this; simp
    | false =>
      rw [hn] at hc; simp only [cond_false] at hc
      obtain ⟨h2, h3⟩ := and_true' hc
      have h2 := beq h2; have h3 := ble h3
      have hn0 : n ≠ 0 := fun e => by subst e; cases hn
      have hk : known h i e ≠ 0 := by
        have : 1 ≤ n * s := Nat.mul_pos (by omega) (by omega)
        omega
      have hb := known_s H hk
      rw [hs] at hb
      have : (cap + n) * s ≤ σ.cap i * s := by rw [Nat.add_mul]; omega
      have := Nat.le_of_mul_le_mul_right this (by omega)
      simp; omega
theorem run_bounds {b : Bool} {len cap l u : Nat} {lo hi : Option Value} (hl : (lo = none ∧ l = 0) ∨ ∃ j, lo = some (.int j (.ofNat l))) (hu : (hi = none ∧ u = len) ∨ ∃ j, hi = some (.int j (.ofNat u))) (h1 : l ≤ u) (h2 : u ≤ cap) (w : World) :
    (Instr.sliceBounds b len cap lo hi none).run P w = .ok (l, u, cap) w := by
  rcases hl with ⟨rfl, rfl⟩ | ⟨j, rfl⟩ <;> rcases hu with ⟨rfl, rfl⟩ | ⟨j', rfl⟩
  · simp [Instr.sliceBounds]
  · have := run_sliceBound (P := P) w j' (u : Int) cap (if b then .sliceAcap else .sliceAlen) (by omega) (by omega)
    simp [Instr.sliceBounds, this]
  · have := run_sliceBound (P := P) w j (l : Int) u .sliceB (by omega) (by omega)
    simp [Instr.sliceBounds, this]
  · have h3 := run_sliceBound (P := P) w j' (u : Int) cap (if b then .sliceAcap else .sliceAlen) (by omega) (by omega)
    have h4 := run_sliceBound (P := P) w j (l : Int) u .sliceB (by omega) (by omega)
    simp [Instr.sliceBounds, h3, h4]
theorem semSl_eq {t : TypeId} {lo hi : Bool} {x : FV} {r : List FV} {q p : Nat × List FV} {d : Nat} (hq : bnd lo 0 r = some q) (hp : bnd hi d q.2 = some p) (σ : Ren) :
    ∃ lv hv, semSl t lo hi false (vals σ (x :: r)) = (do pure (.value (← Instr.sliceAt t (val σ x) lv hv none))) ∧ ((lv = none ∧ q.1 = 0) ∨ ∃ j, lv = some (.int j (.ofNat q.1))) ∧ ((hv = none ∧ p.1 = d) ∨ ∃ j, hv = some (.int j (.ofNat p.1))) := by
  rcases bnd_s hq with ⟨rfl, rfl⟩ | ⟨rfl, j, hr⟩
  · rcases bnd_s hp with ⟨rfl, rfl⟩ | ⟨rfl, j', hr'⟩
    · exact ⟨none, none, by simp [semSl, vals], .inl ⟨rfl, rfl⟩, .inl ⟨rfl, rfl⟩⟩
    · simp only at hr'; subst hr'
      exact ⟨none, some (.int j' (.ofNat p.1)), by simp [semSl, vals, val], .inl ⟨rfl, rfl⟩, .inr ⟨j', rfl⟩⟩
  · subst hr
    rcases bnd_s hp with ⟨rfl, rfl⟩ | ⟨rfl, j', hr'⟩
    · exact ⟨some (.int j (.ofNat q.1)), none, by simp [semSl, vals, val], .inr ⟨j, rfl⟩, .inl ⟨rfl, rfl⟩⟩
    · rw [hr']
      exact ⟨some (.int j (.ofNat q.1)), some (.int j' (.ofNat p.1)), by simp [semSl, vals, val], .inr ⟨j, rfl⟩, .inr ⟨j', rfl⟩⟩
theorem run_slice_of {t e : TypeId} {s : Nat} (hu : P.underlying t = some (.slice e)) (hs : sizeT P e = some s) {len cap l u : Nat} {lo hi : Option Value} {a : Option Addr} (hl : (lo = none ∧ l = 0) ∨ ∃ j, lo = some (.int j (.ofNat l))) (hh : (hi = none ∧ u = len) ∨ ∃ j, hi = some (.int j (.ofNat u)))
    (h1 : l ≤ u) (h2 : u ≤ cap) (w : World) : (Instr.sliceAt t (.slice a len cap) lo hi none).run P w = .ok (.slice (if cap = l then a else a.map (·.add (l * s))) (u - l) (cap - l)) w := by
  simp [Instr.sliceAt, Instr.slice, run_underlying hu, run_bounds hl hh h1 h2, run_sizeT hs]
theorem fSliceS_s {t e : TypeId} {s : Nat} (hu : P.underlying t = some (.slice e)) (hs : sizeT P e = some s) (h1 : 1 ≤ s) (lo hi : Bool) : HLS P (fSliceS e lo hi s) (semSl t lo hi false) := fun B w0 σ h w vs k v hf hR hx he => by
  cases vs with
  | nil => cases he
  | cons x r =>
    obtain ⟨q, hq, e1⟩ := opt_ok he
    obtain ⟨p, hp, e2⟩ := opt_ok e1
    obtain ⟨y, hy, e3⟩ := opt_ok e2
    obtain ⟨lv, hv, hsem, hl, hh⟩ := semSl_eq (t := t) (x := x) hq hp σ
    rw [hsem]
    have hx1 := hx.1
    cases x <;> simp only [sliceV] at hy <;> try (cases hy; done)
    case slice i off len cx cap =>
      obtain ⟨c1, hy⟩ := bif_some hy
      obtain ⟨c1, c2⟩ := and_true' c1
      have c1 := ble c1
      have c2 := capLE_s hR (cellsOf_size hs) h1 (i := i) (e := e) c2
      have hrun := run_slice_of hu hs (len := len) (a := some ⟨σ.blk i, σ.base i + off, none⟩) hl (hh : (hv = none ∧ p.1 = len) ∨ _) c1 c2 w
      cases cx with
      | true =>
        simp only [cond_true] at hy
        simp only [if_true] at c2 hrun
        cases hb : Nat.beq cap q.1 with
        | true =>
          rw [hb] at hy; simp only [cond_true, Option.some.injEq] at hy; subst hy
          have hb := beq hb
          refine Fin.here hR (by simpa [FV.ok] using hx1) e3 ?_
          simp only [val, if_true] at hrun ⊢
          rw [Sem.run_bind, hrun]
          simp [hb]
        | false =>
          rw [hb] at hy; simp only [cond_false, Option.some.injEq] at hy; subst hy
          have hb : cap ≠ q.1 := fun e => by rw [e, Nat.beq_refl] at hb; cases hb
          refine Fin.here hR (by simpa [FV.ok] using hx1) e3 ?_
          simp only [val] at hrun ⊢
          simp [hrun, hb, addr_add, Nat.add_assoc]
      | false =>
        simp only [cond_false] at hy
        simp only [Bool.false_eq_true, if_false] at c2 hrun
        cases hb : (Nat.ble (q.1 + 1) p.1 || Nat.beq q.1 0) with
        | true =>
          rw [hb] at hy; simp only [cond_true, Option.some.injEq] at hy; subst hy
          refine Fin.here hR (by simpa [FV.ok] using hx1) e3 ?_
          simp only [val, Bool.false_eq_true, if_false] at hrun ⊢
          have hcase : (q.1 + 1 ≤ p.1) ∨ q.1 = 0 := by
            rcases Bool.or_eq_true_iff.1 hb with hb | hb
            · exact .inl (ble hb)
            · exact .inr (beq hb)
          rw [Sem.run_bind, hrun]
          rcases hcase with hc | hc
          · have : σ.cap i - cap ≠ q.1 := by omega
            simp [this, addr_add, Nat.add_assoc, Nat.sub_sub]
          · simp [hc, addr_add]
        | false =>
          rw [hb] at hy; simp only [cond_false] at hy
          obtain ⟨c3, hy⟩ := bif_some hy
          simp only [Option.some.injEq] at hy; subst hy
          have c3 := beq c3
          refine Fin.here hR (by simpa [FV.ok] using hx1) e3 ?_
          simp only [val, empA, Bool.false_eq_true, if_false] at hrun ⊢
          rw [Sem.run_bind, hrun]
          by_cases hcc : σ.cap i - cap = q.1 <;> simp [hcc, c3]
    case nils =>
      obtain ⟨c1, hy⟩ := bif_some hy
      obtain ⟨c1, c2⟩ := and_true' c1
      have c1 := beq c1; have c2 := beq c2
      simp only [Option.some.injEq] at hy; subst hy
      have hrun := run_slice_of hu hs (len := 0) (a := none) (cap := 0) hl (hh : (hv = none ∧ p.1 = 0) ∨ _) (by omega) (by omega) w
      refine Fin.here hR (by simp [FV.ok]) e3 ?_
      simp only [val]
      simp [hrun, c1, c2]
    case emp ei eo ec eq es =>
      obtain ⟨c1, hy⟩ := bif_some hy
      obtain ⟨c1, c2⟩ := and_true' c1
      have c1 := beq c1; have c2 := beq c2
      simp only [Option.some.injEq] at hy; subst hy
      have hrun := run_slice_of hu hs (len := 0) (a := some (empA σ ei eo ec eq es).1) (cap := (empA σ ei eo ec eq es).2) hl (hh : (hv = none ∧ p.1 = 0) ∨ _) (by omega) (by omega) w
      refine Fin.here hR hx1 e3 ?_
      simp only [val]
      rw [Sem.run_bind, hrun]
      simp [c1, c2, Addr.add]
theorem fSliceQ_s {t e : TypeId} {s : Nat} (hu : P.underlying t = some (.slice e)) (hs : sizeT P e = some s) (h1 : 1 ≤ s) (lo hi : Bool) : HLP P (fSliceQ e lo hi s) (semSl t lo hi false) := fun B w0 σ h w vs k v hf hR hx he => by
  cases vs with
  | nil => cases he
  | cons x r =>
    obtain ⟨q, hq, e1⟩ := opt_ok he
    obtain ⟨p, hp, e2⟩ := opt_ok e1
    obtain ⟨y, hy, e3⟩ := opt_ok e2
    obtain ⟨lv, hv, hsem, hl, hh⟩ := semSl_eq (t := t) (x := x) hq hp σ
    rw [hsem]
    have hx1 := hx.1
    cases x <;> simp only [sliceV] at hy <;> try (cases hy; done)
    case slice i off len cx cap =>
      obtain ⟨c1, hy⟩ := bif_some hy
      obtain ⟨c1, c2⟩ := and_true' c1
      have c1 := ble c1
      have c2 := capLE_s hR (cellsOf_size hs) h1 (i := i) (e := e) c2
      have hrun := run_slice_of hu hs (len := len) (a := some ⟨σ.blk i, σ.base i + off, none⟩) hl (hh : (hv = none ∧ p.1 = len) ∨ _) c1 c2 w
      cases cx with
      | true =>
        simp only [cond_true] at hy
        simp only [if_true] at c2 hrun
        cases hb : Nat.beq cap q.1 with
        | true =>
          rw [hb] at hy; simp only [cond_true, Option.some.injEq] at hy; subst hy
          have hb := beq hb
          refine FinP.here hR (by simpa [FV.ok] using hx1) e3 ?_
          simp only [val, if_true] at hrun ⊢
          rw [Sem.run_bind, hrun]
          simp [hb]
        | false =>
          rw [hb] at hy; simp only [cond_false, Option.some.injEq] at hy; subst hy
          have hb : cap ≠ q.1 := fun e => by rw [e, Nat.beq_refl] at hb; cases hb
          refine FinP.here hR (by simpa [FV.ok] using hx1) e3 ?_
          simp only [val] at hrun ⊢
          simp [hrun, hb, addr_add, Nat.add_assoc]
      | false =>
        simp only [cond_false] at hy
        simp only [Bool.false_eq_true, if_false] at c2 hrun
        cases hb : (Nat.ble (q.1 + 1) p.1 || Nat.beq q.1 0) with
        | true =>
          rw [hb] at hy; simp only [cond_true, Option.some.injEq] at hy; subst hy
          refine FinP.here hR (by simpa [FV.ok] using hx1) e3 ?_
          simp only [val, Bool.false_eq_true, if_false] at hrun ⊢
          have hcase : (q.1 + 1 ≤ p.1) ∨ q.1 = 0 := by
            rcases Bool.or_eq_true_iff.1 hb with hb | hb
            · exact .inl (ble hb)
            · exact .inr (beq hb)
          rw [Sem.run_bind, hrun]
          rcases hcase with hc | hc
          · have : σ.cap i - cap ≠ q.1 := by omega
            simp [this, addr_add, Nat.add_assoc, Nat.sub_sub]
          · simp [hc, addr_add]
        | false =>
          rw [hb] at hy; simp only [cond_false] at hy
          obtain ⟨c3, hy⟩ := bif_some hy
          simp only [Option.some.injEq] at hy; subst hy
          have c3 := beq c3
          refine FinP.here hR (by simpa [FV.ok] using hx1) e3 ?_
          simp only [val, empA, Bool.false_eq_true, if_false] at hrun ⊢
          rw [Sem.run_bind, hrun]
          by_cases hcc : σ.cap i - cap = q.1 <;> simp [hcc, c3]
    case nils =>
      obtain ⟨c1, hy⟩ := bif_some hy
      obtain ⟨c1, c2⟩ := and_true' c1
      have c1 := beq c1; have c2 := beq c2
      simp only [Option.some.injEq] at hy; subst hy
      have hrun := run_slice_of hu hs (len := 0) (a := none) (cap := 0) hl (hh : (hv = none ∧ p.1 = 0) ∨ _) (by omega) (by omega) w
      refine FinP.here hR (by simp [FV.ok]) e3 ?_
      simp only [val]
      simp [hrun, c1, c2]
    case emp ei eo ec eq es =>
      obtain ⟨c1, hy⟩ := bif_some hy
      obtain ⟨c1, c2⟩ := and_true' c1
      have c1 := beq c1; have c2 := beq c2
      simp only [Option.some.injEq] at hy; subst hy
      have hrun := run_slice_of hu hs (len := 0) (a := some (empA σ ei eo ec eq es).1) (cap := (empA σ ei eo ec eq es).2) hl (hh : (hv = none ∧ p.1 = 0) ∨ _) (by omega) (by omega) w
      refine FinP.here hR hx1 e3 ?_
      simp only [val]
      rw [Sem.run_bind, hrun]
      simp [c1, c2, Addr.add]
theorem fSliceStr_s {t : TypeId} (hu : P.underlying t = some .string) (lo hi : Bool) : HLP P (fSliceStr lo hi) (semSl t lo hi false) := fun B w0 σ h w vs k v hf hR hx he => by
  cases vs with
  | nil => cases he
  | cons x r =>
    cases x <;> try (cases he; done)
    rename_i cs
    obtain ⟨q, hq, e1⟩ := opt_ok he
    obtain ⟨p, hp, e2⟩ := opt_ok e1
    obtain ⟨c1, e3⟩ := iff_ok e2
    obtain ⟨c1, c2⟩ := and_true' c1
    have c1 := ble c1; have c2 := ble c2
    obtain ⟨lv, hv, hsem, hl, hh⟩ := semSl_eq (t := t) (x := .str cs) hq hp σ
    rw [hsem]
    have hx1 := hx.1
    simp only [FV.ok] at hx1
    refine FinP.here hR ?_ e3 ?_
    · simp only [FV.ok]
      exact fun b hb => hx1 b (List.mem_of_mem_take (List.mem_of_mem_drop hb))
    · have hb := run_bounds (P := P) (b := false) (cap := cs.length) hl hh c1 c2 w
      have hex : (bytesOf cs).extract q.1 p.1 = bytesOf ((cs.take p.1).drop q.1) := by
        apply ByteArray.ext
        rw [ByteArray.data_extract]
        simp [bytesOf, List.extract_toArray, List.extract_eq_take_drop, List.map_take, List.map_drop, List.drop_take]
      simp [val, Instr.sliceAt, Instr.slice, run_underlying hu, hb, hex]
end Go.Ev
