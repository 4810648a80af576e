/- Walks and plain laws, part 7 of 11: follow.uses: the places behind whose dot a wanted symbol stands; A drawn region that calls and lays blocks, inside a round of a range over a function; follow.all: what stands in memory; the marks of the loops. Conditions: none beyond those that each theorem states. -/
import Derived.Test.YtnnkfgekiaaehaaGreatB6
import Derived.Deep.RegionHeld3
/- follow.uses: the places behind whose dot a wanted symbol stands. -/
namespace Go.Proofs.YtnnkfgekiaaehaaGreat
open Go.RowKit Go.Shelf
set_option linter.unusedVariables false
attribute [local go_sem] Oper.semAt_some

/-- the symbols of a right side from d on, with their places -/
def rowU (k d : Nat) : List Int → List (Nat × Nat × Int)
  | [] => []
  | s :: l => (k, d, s) :: rowU k (d + 1) l
/-- the symbols of productions from number k on -/
def prsU (k : Nat) : List PV → List (Nat × Nat × Int)
  | [] => []
  | p :: ps => rowU k 0 p.p.right ++ prsU (k + 1) ps
def usF (q : Int → Bool) (l : List (Nat × Nat × Int)) : List (Nat × Nat × Int) := l.filter fun u => q u.2.2
def usAll (q : Int → Bool) (vs : List PV) : List (Nat × Nat × Int) := usF q (prsU 0 vs)
theorem rowU_drop (k : Nat) (l : List Int) (d : Nat) (h : d < l.length) : rowU k d (l.drop d) = (k, d, l[d]) :: rowU k (d + 1) (l.drop (d + 1)) := by
  rw [List.drop_eq_getElem_cons h]; rfl
theorem prsU_drop (vs : List PV) (k : Nat) (h : k < vs.length) : prsU k (vs.drop k) = rowU k 0 vs[k].p.right ++ prsU (k + 1) (vs.drop (k + 1)) := by
  rw [List.drop_eq_getElem_cons h]; rfl
theorem rowU_mem {k : Nat} : ∀ {l : List Int} {d : Nat} {u : Nat × Nat × Int}, u ∈ rowU k d l ↔ u.1 = k ∧ d ≤ u.2.1 ∧ l[u.2.1 - d]? = some u.2.2
  | [], d, u => by simp [rowU]
  | s :: l, d, u => by
    rw [rowU, List.mem_cons, rowU_mem]
    obtain ⟨a, b, c⟩ := u
    constructor
    · rintro (h | ⟨h1, h2, h3⟩)
      · injection h with h1 h2; injection h2 with h2 h3; subst h1; subst h2; subst h3; simp
      · refine ⟨h1, by simp at *; omega, ?_⟩
        simp only at *
        rw [show b - d = (b - (d + 1)) + 1 by omega]
        simpa using h3
    · rintro ⟨h1, h2, h3⟩
      simp only at *
      by_cases e : b = d
      · left; subst e; simp at h3; rw [h1, h3]
      · right
        refine ⟨h1, by omega, ?_⟩
        rw [show b - d = (b - (d + 1)) + 1 by omega] at h3
        simpa using h3
theorem prsU_mem : ∀ {vs : List PV} {k : Nat} {u : Nat × Nat × Int}, u ∈ prsU k vs ↔ ∃ x, k ≤ u.1 ∧ vs[u.1 - k]? = some x ∧ x.p.right[u.2.1]? = some u.2.2
  | [], k, u => by simp [prsU]
  | p :: vs, k, u => by
    rw [prsU, List.mem_append, rowU_mem, prsU_mem]
    obtain ⟨a, b, c⟩ := u
    constructor
    · rintro (⟨h1, h2, h3⟩ | ⟨x, h1, h2, h3⟩)
      · simp only at *; subst h1; exact ⟨p, by omega, by simp, by simpa using h3⟩
      · simp only at *
        refine ⟨x, by omega, ?_, h3⟩
        rw [show a - k = (a - (k + 1)) + 1 by omega]; simpa using h2
    · rintro ⟨x, h1, h2, h3⟩
      simp only at *
      by_cases e : a = k
      · left; subst e; simp at h2; subst h2; exact ⟨rfl, by omega, by simpa using h3⟩
      · right
        refine ⟨x, by omega, ?_, h3⟩
        rw [show a - k = (a - (k + 1)) + 1 by omega] at h2; simpa using h2
/-- a use -/
def UseT (q : Int → Bool) (vs : List PV) : Type := { u : Nat × Nat × Int // u ∈ usAll q vs }
def encU {q : Int → Bool} {vs : List PV} (x : UseT q vs) : Array Value := #[.agg #[.int .i64 (x.1.1 : Int), .int .i64 (x.1.2.1 : Int)], .int .i64 x.1.2.2]

def mkUse {q : Int → Bool} {vs : List PV} (u : Nat × Nat × Int) (h : u ∈ usAll q vs) : UseT q vs := ⟨u, h⟩
/-- what the closure reads -/
def USt (n₀ B1 B2 : Nat) (A : Option Addr) (len cap : Nat) (vs : List PV) (fv : Value) (W : World) : Prop :=
  W.cell? ⟨B1, 5, none⟩ = some (.slice A len cap) ∧ W.cell? ⟨B2, 0, none⟩ = some fv ∧ RdV W n₀ A len vs ∧ (∀ x ∈ vs, PVok W n₀ x) ∧ n₀ ≤ W.heap.size
theorem USt.step {n₀ B1 B2 : Nat} {A : Option Addr} {len cap : Nat} {vs : List PV} {fv : Value} {W W' : World} (h : USt n₀ B1 B2 A len cap vs fv W) (hb : Below W.heap.size W W') : USt n₀ B1 B2 A len cap vs fv W' :=
  ⟨cell_later hb h.1, cell_later hb h.2.1, h.2.2.1.below (hb.mono h.2.2.2.2), fun x hx => (h.2.2.2.1 x hx).below (hb.mono h.2.2.2.2), Nat.le_trans h.2.2.2.2 hb.size⟩

set_option maxRecDepth 100000 in
set_option maxHeartbeats 4000000 in
theorem uses1_in (q : Int → Bool) (fg : Nat) (fb : Array Value) (Kp : World → World → Prop) (E : World → Prop) (n : Nat) (hn : 1 ≤ n) (l B1 B2 n₀ : Nat) (A : Option Addr) (len cap : Nat) (vs : List PV) (hlen : len ≤ 1000000) (hrl : ∀ x ∈ vs, x.p.right.length ≤ 1000000)
    (hKS : ∀ X Y, Kp X Y → USt n₀ B1 B2 A len cap vs (.func (.func fg) #[] fb) X → USt n₀ B1 B2 A len cap vs (.func (.func fg) #[] fb) Y) (hKE : ∀ X Y, Kp X Y → E X → E Y) (hEb : ∀ X Y, Below X.heap.size X Y → E X → E Y) (hKz : ∀ X Y, Kp X Y → X.heap.size ≤ Y.heap.size)
    (eg : ∀ args w, (callFunc fg args).run Tryz.prog w = .ok (.enter fg args) w)
    (hF : ∀ s W, E W → CallsIn Fence.wide (n - 1) Tryz.prog fg (#[.int .i64 s] ++ fb) W fun e W' => e = .returned (.bool (q s)) ∧ W = W')
    (J Jx : List (UseT q vs) → World → Prop)
    (hY : ∀ pre x W, J pre W → pre.length < (usAll q vs).length → YieldAt Fence.wide (n - 1) Tryz.prog l (encU x) W fun e W' =>
      (e = .returned (.bool true) ∧ J (pre ++ [x]) W' ∧ Kp W W') ∨ (e = .returned (.bool false) ∧ Jx (pre ++ [x]) W'))
    (W : World) (hJ : AbidesFrom W.heap.size J) (hSt : USt n₀ B1 B2 A len cap vs (.func (.func fg) #[] fb) W) (hE : E W) (h0 : J [] W) :
    CallsIn Fence.wide n Tryz.prog 99 #[.func (.yield l) #[] #[], .pointer (some ⟨B1, 0, none⟩), .pointer (some ⟨B2, 0, none⟩)] W fun e W' => (∃ v, e = .returned v) ∧
      ((∃ ys : List (UseT q vs), ys.map (·.1) = usAll q vs ∧ J ys W') ∨ (∃ pre : List (UseT q vs), (∃ rest, usAll q vs = pre.map (·.1) ++ rest) ∧ Jx pre W')) := by
  have hvl : vs.length = len := hSt.2.2.1.1
  have hJ' := Lib.hid hJ
  have hrl' := Lib.hid hrl
  have c5 := hSt.1
  clear hrl hJ
  refine callsIn_of_wp Tryz.func99 rfl trivial ?_ rfl
  simp only [Tryz.ntmps99, List.size_toArray, List.length_cons, List.length_nil, Nat.reduceAdd, Nat.reduceSub, Array.replicate_succ, Array.replicate_zero, List.push_toArray, List.append_toArray, List.nil_append, List.cons_append]
  gi_wp2
  gi_loopw [11] (fun i wr => ∃ (k : Nat) (done : List (Nat × Nat × Int)) (pre : List (UseT q vs)), k ≤ len ∧ i = .int .i64 k ∧ Hid (prsU 0 vs = done ++ prsU k (vs.drop k)) ∧ Hid (pre.map (·.1) = usF q done) ∧ J pre wr ∧ USt n₀ B1 B2 A len cap vs (.func (.func fg) #[] fb) wr ∧ E wr ∧ W.heap.size ≤ wr.heap.size)
    (fun i _ => len - (intOf i).toNat)
  case atStart => exact ⟨0, [], [], Nat.zero_le _, rfl, Lib.hid (by simp), Lib.hid (by simp [usF]), h0, hSt, hE, Nat.le_refl _⟩
  case round =>
    clear hSt hE h0
    obtain ⟨k, done, pre, hk, rfl, hdn, hpre, hJs, hSt, hE, hge⟩ := hrel
    by_cases hlt : k < len
    · have hkl : k < vs.length := by omega
      rcases hSt.2.2.1.2 with hz | ⟨b, off, rfl, hb, hcs⟩
      · omega
      obtain ⟨x0, x1⟩ := hcs k vs[k] (List.getElem?_eq_getElem hkl)
      have hpd := Lib.hid (prsU_drop vs k hkl)
      have hxm : vs[k] ∈ vs := List.getElem_mem hkl
      have hxr := hrl'.out _ hxm
      generalize vs[k] = x at *
      obtain ⟨⟨pl, pr⟩, ra, rc⟩ := x
      dsimp only at x0 x1 hpd hxr
      clear hcs
      have hbl : Below wr.heap.size wr (wr.alloc (.cells #[.int .i64 pl, .slice ra pr.length rc] 47)) := bAlc (Below.refl _ _) _
      have hJ1 := hJ'.out _ _ _ none hJs (World.grownBy_alloc wr (.cells #[.int .i64 pl, .slice ra pr.length rc] 47) none) (by simp)
      have hSt1 := hSt.step hbl
      have hE1 := hEb _ _ hbl hE
      have hge1 : W.heap.size ≤ (wr.alloc (.cells #[.int .i64 pl, .slice ra pr.length rc] 47)).heap.size := Nat.le_trans hge hbl.size
      have hz1 : (0 : Int) ≤ k := by omega
      have hz2 : (k : Int) < len := by omega
      gi_wp2
      clear hJs hSt hE hge hbl x0 x1
      generalize wr.alloc (.cells #[.int .i64 pl, .slice ra pr.length rc] 47) = W1 at *
      gi_loopw [19] (fun i wr => ∃ (d : Nat) (done : List (Nat × Nat × Int)) (pre : List (UseT q vs)), d ≤ pr.length ∧ i = .int .i64 d ∧ Hid (prsU 0 vs = done ++ (rowU k d (pr.drop d) ++ prsU (k + 1) (vs.drop (k + 1)))) ∧ Hid (pre.map (·.1) = usF q done) ∧ J pre wr ∧ USt n₀ B1 B2 (some ⟨b, off, none⟩) len cap vs (.func (.func fg) #[] fb) wr ∧ E wr ∧ W.heap.size ≤ wr.heap.size)
        (fun i _ => pr.length - (intOf i).toNat)
      case atStart => exact ⟨0, done, pre, Nat.zero_le _, rfl, Lib.hid (by rw [hdn.out, hpd.out]; simp), hpre, hJ1, hSt1, hE1, hge1⟩
      case round =>
        clear hJ1 hSt1 hE1 hge1 hdn hpre
        obtain ⟨d, done, pre, hd, rfl, hdn, hpre, hJs, hSt, hE, hge⟩ := hrel
        by_cases hdt : d < pr.length
        · have hsi : (ints pr)[d]? = some (.int .i64 pr[d]) := by simp [ints, hdt]
          obtain ⟨rb, roff, hra, hrb, y0⟩ := (hSt.2.2.2.1 _ hxm).1.get hsi
          dsimp only at hra
          subst hra
          have hrd := Lib.hid (rowU_drop k pr d hdt)
          have hfc := hSt.2.1
          generalize hss : pr[d] = s at *
          replace hss := Lib.hid hss
          replace hsi := Lib.hid hsi
          replace hdn := Lib.hid (show prsU 0 vs = (done ++ [(k, d, s)]) ++ (rowU k (d + 1) (pr.drop (d + 1)) ++ prsU (k + 1) (vs.drop (k + 1))) by rw [hdn.out, hrd.out]; simp)
          have hz3 : (0 : Int) ≤ d := by omega
          have hz4 : (d : Int) < pr.length := by omega
          have hc := Lib.hid (hF s wr hE)
          cases hq : q s with
          | false =>
            have hpre2 : Hid (pre.map (·.1) = usF q (done ++ [(k, d, s)])) := Lib.hid (by rw [hpre.out]; unfold usF; rw [List.filter_append]; simp [hq])
            rw [hq] at hc
            replace hq := Lib.hid hq
            gi_wp2
            refine ⟨trivial, hc.out.mono ?_⟩
            rintro e w3 ⟨rfl, rfl⟩
            gi_wp2
            refine ⟨fun _ h => (by cases h), ?_⟩
            gi_wp2
            go_roundw
            case rel => exact ⟨d + 1, done ++ [(k, d, s)], pre, by omega, by simp, hdn, hpre2, hJs, hSt, hE, hge⟩
            case measure => simp [intOf]; omega
          | true =>
            have hpre2 : Hid (usF q (done ++ [(k, d, s)]) = usF q done ++ [(k, d, s)]) := Lib.hid (by unfold usF; rw [List.filter_append]; simp [hq])
            have hall : usAll q vs = usF q (done ++ [(k, d, s)]) ++ usF q (rowU k (d + 1) (pr.drop (d + 1)) ++ prsU (k + 1) (vs.drop (k + 1))) := by
              unfold usAll; rw [hdn.out]; unfold usF; rw [List.filter_append]
            have hmem : (k, d, s) ∈ usAll q vs := by rw [hall, hpre2.out]; simp
            have hlen2 : pre.length < (usAll q vs).length := by
              have := congrArg List.length hpre.out
              rw [hall, hpre2.out]; simp at this ⊢; omega
            obtain ⟨fn, tmps, assign, body, hy, hR2⟩ := hY pre (mkUse (k, d, s) hmem) wr hJs hlen2
            dsimp only [encU, mkUse] at hy
            have hpre3 : Hid ((pre ++ [mkUse (k, d, s) hmem]).map (·.1) = usF q (done ++ [(k, d, s)])) := Lib.hid (by rw [List.map_append, hpre.out, hpre2.out]; rfl)
            replace hall := Lib.hid hall
            rw [hq] at hc
            replace hq := Lib.hid hq
            gi_wp2
            refine ⟨trivial, hc.out.mono ?_⟩
            rintro e w3 ⟨rfl, rfl⟩
            gi_wp2
            refine hR2.mono ?_
            rintro e W3 (⟨rfl, hJ3, hk3⟩ | ⟨rfl, hJx3⟩)
            · gi_wp2
              go_roundw
              case rel => exact ⟨d + 1, done ++ [(k, d, s)], _, by omega, by simp, hdn, hpre3, hJ3, hKS _ _ hk3 hSt, hKE _ _ hk3 hE, Nat.le_trans hge (hKz _ _ hk3)⟩
              case measure => simp [intOf]; omega
            · gi_wp2
              refine bodyPost_ret (results_none rfl _ _ _) rfl ?_
              exact ⟨⟨_, rfl⟩, .inr ⟨_, ⟨_, by rw [hpre3.out]; exact hall.out⟩, hJx3⟩⟩
        · have hdn2 : Hid (prsU 0 vs = done ++ prsU (k + 1) (vs.drop (k + 1))) := Lib.hid (by
            rw [hdn.out, List.drop_eq_nil_of_le (by omega)]; rfl)
          gi_wp2
          go_roundw
          case rel => exact ⟨k + 1, done, pre, by omega, by simp, hdn2, hpre, hJs, hSt, hE, hge⟩
          case measure => simp [intOf]; omega
    · have hend : pre.map (·.1) = usAll q vs := by
        rw [hpre.out]; unfold usAll; rw [hdn.out, List.drop_eq_nil_of_le (by omega)]
        show usF q done = usF q (done ++ [])
        rw [List.append_nil]
      replace hend := Lib.hid hend
      gi_wp2
      go_end0
      exact ⟨⟨_, rfl⟩, .inl ⟨_, hend.out, hJs⟩⟩

theorem uses_stops (q : Int → Bool) (fg : Nat) (fb : Array Value) (Kp : World → World → Prop) (E : World → Prop) (n : Nat) (hn : 1 ≤ n) (B1 B2 n₀ : Nat) (A : Option Addr) (len cap : Nat) (vs : List PV) (hlen : len ≤ 1000000) (hrl : ∀ x ∈ vs, x.p.right.length ≤ 1000000) (w : World)
    (hKS : ∀ X Y, Kp X Y → USt n₀ B1 B2 A len cap vs (.func (.func fg) #[] fb) X → USt n₀ B1 B2 A len cap vs (.func (.func fg) #[] fb) Y) (hKE : ∀ X Y, Kp X Y → E X → E Y) (hEb : ∀ X Y, Below X.heap.size X Y → E X → E Y) (hKz : ∀ X Y, Kp X Y → X.heap.size ≤ Y.heap.size)
    (eg : ∀ args w, (callFunc fg args).run Tryz.prog w = .ok (.enter fg args) w)
    (hF : ∀ s W, E W → CallsIn Fence.wide (n - 1) Tryz.prog fg (#[.int .i64 s] ++ fb) W fun e W' => e = .returned (.bool (q s)) ∧ W = W')
    (hSt : USt n₀ B1 B2 A len cap vs (.func (.func fg) #[] fb) w) (hE : E w) :
    SeqStopsK Fence.wide n Tryz.prog 99 #[.pointer (some ⟨B1, 0, none⟩), .pointer (some ⟨B2, 0, none⟩)] encU Kp (fun ys : List (UseT q vs) => ys.map (·.1) = usAll q vs) (fun pre => ∃ rest, usAll q vs = pre.map (·.1) ++ rest) (usAll q vs).length w :=
  fun l J Jx W hW hJ _ hY h0 =>
    uses1_in q fg fb Kp E n hn l B1 B2 n₀ A len cap vs hlen hrl hKS hKE hEb hKz eg hF J Jx hY W hJ (hSt.step hW) (hEb _ _ hW hE) h0

theorem isnont_any (s : Int) (w : World) : Calls Tryz.prog 69 #[.int .i64 s] w fun e w' => e = .returned (.bool (decide (16 ≤ s))) ∧ w = w' := by
  go_enter Tryz.func69, Tryz.ntmps69
  go_wp2_with fail
  go_ret
  exact ⟨rfl, rfl⟩

/-- what uses hands back -/
def RetU (w : World) (g : Gr) (a : GA) (fv : Value) (e : Ending) (w' : World) : Prop :=
  e = .returned (.func (.func 99) #[] #[.pointer (some ⟨w.heap.size, 0, none⟩), .pointer (some ⟨w.heap.size + 1, 0, none⟩)]) ∧ w' = (w.alloc (.cells (gcells g a) 25)).alloc (.cells #[fv] 98)
theorem mkuses_any (g : Gr) (a : GA) (fg : Nat) (fb : Array Value) (w : World) : Calls Tryz.prog 57 #[gval g a, .func (.func fg) #[] fb] w (RetU w g a (.func (.func fg) #[] fb)) := by
  have hP := Lib.hid (show RetU w g a (.func (.func fg) #[] fb) (.returned (.func (.func 99) #[] #[.pointer (some ⟨w.heap.size, 0, none⟩), .pointer (some ⟨w.heap.size + 1, 0, none⟩)])) ((w.alloc (.cells (gcells g a) 25)).alloc (.cells #[.func (.func fg) #[] fb] 98)) from ⟨rfl, rfl⟩)
  unfold gval gcells at *
  go_enter Tryz.func57, Tryz.ntmps57
  go_wp2_with fail
  go_ret
  exact hP.out
end Go.Proofs.YtnnkfgekiaaehaaGreat

/- A drawn region that calls and lays blocks, inside a round of a range over a function. -/
namespace Go
section
variable {P : Program} {ops : Array Oper} {md : Region.Mode} {n l : Nat}

/-- a post that lets nothing but the ordinary end pass -/
def OnlyN (R : Act → World → Prop) : Exit → Act → World → Prop := fun e a w => e = .normal ∧ R a w
theorem not_letsOut (R : Act → World → Prop) : ¬ LetsOut (OnlyN R) := fun ⟨_, _, h, _⟩ => by cases h

theorem rowsIn_of_rows {row : String} {args : Array Value} {w : World} {R : Value → World → Prop} (h : Rows P row args w R) : RowsIn (Fence.wide.inRound l) n P row args w R :=
  fun c cs _ => let ⟨v, w', r, s⟩ := h c cs; ⟨v, w', r, stepsIn_wide.2 s⟩

theorem Oper.wpIn_of_wpR {o : Oper} {a : Act} {w : World} {K : Act → World → Prop} {R : Act → World → Prop} (hd : ∀ c, o.op ≠ .defer c) (h : o.wp P a w K (OnlyN R)) :
    o.wpIn (Fence.wide.inRound l) n P a w K (OnlyN R) := by
  unfold Oper.wp at h
  unfold Oper.wpIn
  refine ⟨fun _ _ => trivial, ?_⟩
  rw [Fence.inRound_round, Oper.semAt_some l _ _ hd]
  generalize (execOp a.eval o).run P w = r at *
  cases r with
  | ok x w' =>
    cases x <;> simp only [Oper.upon] at h <;> simp only [Oper.uponIn]
    case value v => exact h
    case skip => exact h
    case defer d => exact h
    case enter f args =>
      refine ⟨fun h0 => absurd h0 (by simp [Fence.wide]), CallsIn.inRound l (callsIn_wide.2 (h.mono fun e w'' he => ?_))⟩
      cases e with
      | returned v => exact he
      | panicked c => exact he
      | outgrown => exact he
    case row row args => exact ⟨fun h0 => absurd h0 (by simp [Fence.wide]), rowsIn_of_rows h⟩
  | halt x w' =>
    cases x <;> simp only [Oper.upon] at h <;> simp only [Oper.uponIn] <;> exact h

theorem wpOpIn_of_wpOpR {i : Nat} {a : Act} {w : World} {K K' : Act → World → Prop} {R : Act → World → Prop} (hnd : noDefer ops = true) (hK : ∀ a w, K a w → K' a w) (h : wpOp P ops (OnlyN R) i K a w) :
    wpOpIn (Fence.wide.inRound l) n P ops (OnlyN R) i K' a w := by
  unfold wpOp at h
  unfold wpOpIn
  split
  · rename_i ho; simp only [ho] at h; exact hK _ _ h
  · rename_i o ho
    simp only [ho] at h
    split
    · rename_i hw
      simp only [hw, if_true] at h
      rcases h with h | h
      · exact Oper.wpIn_mono (fun a w h => hK a w h) (Oper.wpIn_of_wpR (noDefer_spec hnd i o ho) h)
      · exact absurd h.2 (not_letsOut R)
    · rename_i hw
      simp only [hw] at h
      exact ⟨fun _ _ => trivial, hK _ _ h⟩

theorem wpAnyIn_of_wpAnyR {R : Act → World → Prop} (hnd : noDefer ops = true) : ∀ (fuel : Nat) (listed : Array Bool) (a : Act) (w : World),
    wpAny P md ops (OnlyN R) fuel listed a w → wpAnyIn (Fence.wide.inRound l) n P md ops (OnlyN R) fuel listed a w
  | 0, _, _, _, h => h
  | fuel + 1, _, _, _, h => ⟨h.1, fun i hi => wpOpIn_of_wpOpR hnd (fun a' w' h' => wpAnyIn_of_wpAnyR hnd fuel _ a' w' h') (h.2 i hi)⟩

theorem wpIn_region_held_drewR {id : Nat} {a : Act} {w : World} {S : World → Prop} {Q : Exit → Act → World → Prop} (hnd : noDefer ops = true) (hm : P.follows .mixedOrders = true) (hS : S w.drew)
    (h : S w.drew → wpAnyH P .any ops (OnlyN (Q .normal)) S ops.size (Array.replicate ops.size false) a w.drew) : (Code.region id ops true).wpIn (Fence.wide.inRound l) n P Q a w :=
  wpIn_mono (wpIn_region_any hm (wpAnyIn_of_wpAnyR hnd _ _ _ _ (wpAny_of_held _ _ _ _ (h hS)))) (fun e a w h => by obtain ⟨rfl, h⟩ := h; exact h)
end

end Go

/- follow.all: what stands in memory; the marks of the loops. -/
namespace Go.Proofs.YtnnkfgekiaaehaaGreat
open Go.RowKit Go.Shelf
set_option linter.unusedVariables false

/-- the marks that loops over a function leave -/
def marks (Ds : List Nat) : List Deferred := Ds.map fun D => { target := .collected D, args := #[] }
def MarksOk (W : World) (lo : Nat) (Ds : List Nat) : Prop := Ds.Nodup ∧ ∀ D ∈ Ds, lo ≤ D ∧ W.heap[D]? = some (.deferred (some []))
theorem leaves_marks {P : Program} {F : Fence} {n : Nat} {fn : Func} {tmps : Array Value} {R : Ending → World → Prop} : ∀ (Ds : List Nat) (W : World) (lo : Nat), MarksOk W lo Ds →
    (∀ W', Below lo W W' → (∀ j, j ∉ Ds → W'.heap[j]? = W.heap[j]?) → LeavesIn F n P fn tmps R [] .returning W') → LeavesInM F n P fn tmps R (marks Ds) .returning W
  | [], W, lo, _, h => h W (Below.refl _ _) (fun _ _ => rfl)
  | D :: Ds, W, lo, hm, h => by
    have hnd := List.nodup_cons.1 hm.1
    have hD := hm.2 D List.mem_cons_self
    refine ⟨by simp, .inl ⟨_, _, rfl, run_takeDeferred hD.2, ?_⟩⟩
    have hb : Below lo W (W.putObj D (.deferred none)) := ⟨rfl, rfl, rfl, by simp, fun k hk => World.putObj_heap_other (by omega)⟩
    refine leaves_marks Ds _ lo ⟨hnd.2, fun D' h' => ?_⟩ fun W' hb' hj => h W' (hb.trans hb') fun j hjd => ?_
    · have := hm.2 D' (List.mem_cons_of_mem _ h')
      exact ⟨this.1, (World.putObj_heap_other (fun e => hnd.1 (by subst e; exact h'))).trans this.2⟩
    · exact (hj j (fun h => hjd (List.mem_cons_of_mem _ h))).trans (World.putObj_heap_other (fun e => hjd (by subst e; exact List.mem_cons_self)))

/-- sets in maps that are named -/
def SetsM (W : World) (bo n : Nat) (mbs : List Nat) (ss : List (List Lk)) : Prop :=
  ∃ cs : Array Value, Blk W bo 69 cs ∧ cs.size = n ∧ mbs.length = ss.length ∧ ∀ (i m : Nat) (s : List Lk), mbs[i]? = some m → ss[i]? = some s → cs[i]? = some (.map (some m)) ∧ MapK lookKey W m s
theorem SetsO.toM {W : World} {base bo n : Nat} {ss : List (List Lk)} (h : SetsO W base bo n ss) : ∃ mbs, SetsM W bo n mbs ss ∧ mbs.Nodup ∧ ∀ m ∈ mbs, base ≤ m ∧ m < W.heap.size := by
  obtain ⟨cs, mbs, h1, h2, h3, h4, h5, h6⟩ := h
  exact ⟨mbs, ⟨cs, h1, h2, h3, h6⟩, h4, h5⟩
theorem SetsM.toO {W : World} {base bo n : Nat} {mbs : List Nat} {ss : List (List Lk)} (h : SetsM W bo n mbs ss) (h4 : mbs.Nodup) (h5 : ∀ m ∈ mbs, base ≤ m ∧ m < W.heap.size) : SetsO W base bo n ss := by
  obtain ⟨cs, h1, h2, h3, h6⟩ := h
  exact ⟨cs, mbs, h1, h2, h3, h4, h5, h6⟩
theorem SetsM.grown {W W' : World} {bo n : Nat} {mbs : List Nat} {ss : List (List Lk)} (h : SetsM W bo n mbs ss) {row : Option Nat} (hg : W.grownBy W' row) (h1 : row ≠ some bo) (h2 : ∀ m ∈ mbs, row ≠ some m) : SetsM W' bo n mbs ss := by
  obtain ⟨cs, a, b, c, d⟩ := h
  exact ⟨cs, a.grown hg (Ne.symm h1), b, c, fun i m s e f => ⟨(d i m s e f).1, (d i m s e f).2.grown hg (Ne.symm (h2 m (List.mem_of_getElem? e)))⟩⟩
theorem SetsM.step {W W' : World} {bo n : Nat} {mbs : List Nat} {ss : List (List Lk)} (h : SetsM W bo n mbs ss) (hb : Below W.heap.size W W') : SetsM W' bo n mbs ss := by
  obtain ⟨cs, a, b, c, d⟩ := h
  exact ⟨cs, a.step hb, b, c, fun i m s e f => ⟨(d i m s e f).1, (d i m s e f).2.step hb⟩⟩
theorem SetsM.get {W : World} {bo n : Nat} {mbs : List Nat} {ss : List (List Lk)} (h : SetsM W bo n mbs ss) {i : Nat} (hi : i < ss.length) : ∃ m, mbs[i]? = some m ∧ W.cell? ⟨bo, i, none⟩ = some (.map (some m)) ∧ MapK lookKey W m (ss.getD i []) ∧ m ≠ bo := by
  obtain ⟨cs, a, b, c, d⟩ := h
  have him : i < mbs.length := by omega
  obtain ⟨e, f⟩ := d i mbs[i] ss[i] (List.getElem?_eq_getElem him) (List.getElem?_eq_getElem hi)
  exact ⟨mbs[i], List.getElem?_eq_getElem him, by rw [a.cell]; exact e, by simpa [List.getD_eq_getElem?_getD, hi] using f, mapk_blk f a⟩
theorem SetsM.nodups {W : World} {bo n : Nat} {mbs : List Nat} {ss : List (List Lk)} (h : SetsM W bo n mbs ss) : ∀ s ∈ ss, s.Nodup := by
  obtain ⟨cs, a, b, c, d⟩ := h
  intro s hs
  obtain ⟨i, hi, rfl⟩ := List.getElem_of_mem hs
  have him : i < mbs.length := by omega
  obtain ⟨_, es, clock, _, _, _, _, hn, _⟩ := d i mbs[i] ss[i] (List.getElem?_eq_getElem him) (List.getElem?_eq_getElem hi)
  exact hn
theorem SetsM.put {W W' : World} {bo n : Nat} {mbs : List Nat} {ss : List (List Lk)} (h : SetsM W bo n mbs ss) (hnd : mbs.Nodup) {i m : Nat} {c : List Lk} (hi : i < ss.length) (hm : mbs[i]? = some m)
    (hg : ∀ b, b < W.heap.size → b ≠ m → (b = bo ∨ b ∈ mbs) → W'.heap[b]? = W.heap[b]?) (hM : MapK lookKey W' m c) : SetsM W' bo n mbs (ss.set i c) := by
  obtain ⟨cs, a, b, e, d⟩ := h
  have him : i < mbs.length := by omega
  have hmv : mbs[i] = m := by rw [List.getElem?_eq_getElem him] at hm; injection hm
  have hmbo : m ≠ bo := by
    have := (d i mbs[i] ss[i] (List.getElem?_eq_getElem him) (List.getElem?_eq_getElem hi)).2
    rw [hmv] at this
    exact mapk_blk this a
  refine ⟨cs, (hg bo a.lt (Ne.symm hmbo) (.inl rfl)).trans a, b, by simpa using e, ?_⟩
  intro j m' s hmj hsj
  by_cases hij : i = j
  · subst hij
    rw [hm] at hmj
    injection hmj with hmj
    subst hmj
    rw [List.getElem?_set_self hi] at hsj
    injection hsj with hsj
    subst hsj
    exact ⟨(d i m ss[i] hm (List.getElem?_eq_getElem hi)).1, hM⟩
  · rw [List.getElem?_set_ne hij] at hsj
    obtain ⟨a2, es, clock, b2, b3⟩ := d j m' s hmj hsj
    refine ⟨a2, es, clock, (hg m' (Array.getElem?_eq_some_iff.1 b2).1 ?_ (.inr (List.mem_of_getElem? hmj))).trans b2, b3⟩
    rintro rfl
    have hjm := (List.getElem?_eq_some_iff.1 hmj).1
    have e2 : mbs[j] = m' := by rw [List.getElem?_eq_getElem hjm] at hmj; injection hmj
    exact hij ((List.getElem_inj hnd).1 (by rw [e2, hmv]))
theorem SetsM.reads {W : World} {bo n : Nat} {mbs : List Nat} {ss : List (List Lk)} (h : SetsM W bo n mbs ss) (hn : ss.length = n) : SetsR W W.heap.size (some ⟨bo, 0, none⟩) n ss := by
  obtain ⟨cs, a, b, c, d⟩ := h
  refine ⟨hn, .inr ⟨bo, 0, rfl, a.lt, fun i s hs => ?_⟩⟩
  have hi := (List.getElem?_eq_some_iff.1 hs).1
  have him : i < mbs.length := by omega
  obtain ⟨e, f⟩ := d i mbs[i] s (List.getElem?_eq_getElem him) hs
  exact ⟨mbs[i], f.lt, by rw [Nat.zero_add, a.cell]; exact e, f⟩
theorem SetsM.marks {W W' : World} {bo n lo : Nat} {mbs Ds : List Nat} {ss : List (List Lk)} (h : SetsM W bo n mbs ss) (hm : MarksOk W lo Ds) (hj : ∀ j, j ∉ Ds → W'.heap[j]? = W.heap[j]?) : SetsM W' bo n mbs ss := by
  obtain ⟨cs, a, b, c, d⟩ := h
  refine ⟨cs, (hj bo fun hb => ?_).trans a, b, c, fun i m s e f => ?_⟩
  · have := (hm.2 bo hb).2
    unfold Blk at a
    rw [a] at this; cases this
  · obtain ⟨a2, es, clock, b2, b3⟩ := d i m s e f
    refine ⟨a2, es, clock, (hj m fun hb => ?_).trans b2, b3⟩
    have := (hm.2 m hb).2
    rw [b2] at this; cases this
theorem SetsR.mono {W : World} {B B' : Nat} {A : Option Addr} {n : Nat} {ss : List (List Lk)} (h : SetsR W B A n ss) (hb : B ≤ B') : SetsR W B' A n ss := by
  refine ⟨h.1, ?_⟩
  rcases h.2 with h0 | ⟨b, off, rfl, hlt, hc⟩
  · exact .inl h0
  · refine .inr ⟨b, off, rfl, by omega, fun i s hs => ?_⟩
    obtain ⟨mb, h1, h2⟩ := hc i s hs
    exact ⟨mb, by omega, h2⟩

theorem GB.low {w : World} {g : Gr} {a : GA} {W W' : World} {lo : Nat} (h : GB w g a W) (hlo : w.heap.size < lo) (hb : Below lo W W') : GB w g a W' :=
  ⟨h.1.below hb hlo, h.2.1.below (hb.mono (by omega)), h.2.2.trans (hb.mono (by omega))⟩
/-- what all has laid, and what lies below it -/
def AF (w : World) (g : Gr) (a : GA) (n bo fo : Nat) (ss : List (List Lk)) (W : World) : Prop :=
  GB w g a W ∧ Blk W (w.heap.size + 1) 65 #[.slice (some ⟨fo, 0, none⟩) n n] ∧ Blk W (w.heap.size + 2) 65 #[.slice (some ⟨bo, 0, none⟩) n n] ∧ SetsR W fo (some ⟨bo, 0, none⟩) n ss ∧ w.heap.size + 2 < fo ∧ fo ≤ W.heap.size
theorem AF.low {w : World} {g : Gr} {a : GA} {n bo fo : Nat} {ss : List (List Lk)} {W W' : World} (h : AF w g a n bo fo ss W) (hb : Below fo W W') : AF w g a n bo fo ss W' := by
  obtain ⟨h1, h2, h3, h4, h5, h6⟩ := h
  exact ⟨h1.low (by omega) hb, h2.below hb (by omega), h3.below hb (by omega), h4.below hb, h5, Nat.le_trans h6 hb.size⟩
theorem AF.step {w : World} {g : Gr} {a : GA} {n bo fo : Nat} {ss : List (List Lk)} {W W' : World} (h : AF w g a n bo fo ss W) (hb : Below W.heap.size W W') : AF w g a n bo fo ss W' := h.low (hb.mono h.2.2.2.2.2)
theorem below_of_grown {X Y : World} {row : Option Nat} {lo : Nat} (hg : X.grownBy Y row) (hr : ∀ r, row = some r → lo ≤ r) (hlo : lo ≤ X.heap.size) : Below lo X Y :=
  ⟨hg.os, hg.tape, hg.output, hg.size, fun k hk => hg.block k (by omega) (fun e => by have := hr k e.symm; omega)⟩

/-- the world W, but for the map mb and the block b5, and what was made since -/
structure KX (W : World) (mb b5 : Nat) (w' : World) : Prop where
  os : w'.os = W.os
  tape : w'.tape = W.tape
  output : w'.output = W.output
  size : W.heap.size ≤ w'.heap.size
  block : ∀ i, i < W.heap.size → i ≠ mb → i ≠ b5 → w'.heap[i]? = W.heap[i]?
theorem KX.refl (W : World) (mb b5 : Nat) : KX W mb b5 W := ⟨rfl, rfl, rfl, Nat.le_refl _, fun _ _ _ _ => rfl⟩
theorem KX.drew {W w1 : World} {mb b5 : Nat} (h : KX W mb b5 w1) : KX W mb b5 w1.drew := ⟨h.os, h.tape, h.output, h.size, h.block⟩
theorem KX.step {W w1 w2 : World} {mb b5 : Nat} (h : KX W mb b5 w1) (hb : Below w1.heap.size w1 w2) : KX W mb b5 w2 :=
  ⟨hb.os.trans h.os, hb.tape.trans h.tape, hb.output.trans h.output, Nat.le_trans h.size hb.size, fun i h1 h2 h3 => (hb.block i (Nat.lt_of_lt_of_le h1 h.size)).trans (h.block i h1 h2 h3)⟩
theorem KX.alloc {W w1 : World} {mb b5 : Nat} (h : KX W mb b5 w1) (o : Obj) : KX W mb b5 (w1.alloc o) := h.step (bAlc (Below.refl _ _) _)
theorem KX.grown {W w1 w2 : World} {mb b5 : Nat} (h : KX W mb b5 w1) (hg : w1.grownBy w2 (some mb)) : KX W mb b5 w2 :=
  ⟨hg.os.trans h.os, hg.tape.trans h.tape, hg.output.trans h.output, Nat.le_trans h.size hg.size, fun i h1 h2 h3 => (hg.block i (Nat.lt_of_lt_of_le h1 h.size) (fun e => h2 (by injection e))).trans (h.block i h1 h2 h3)⟩
theorem KX.put {W w1 : World} {mb b5 : Nat} (h : KX W mb b5 w1) (i : Nat) (v : Value) : KX W mb b5 (w1.setCell ⟨b5, i, none⟩ v) :=
  ⟨h.os, h.tape, h.output, Nat.le_trans h.size (by simp), fun j h1 h2 h3 => (Below.heap_setCell w1 ⟨b5, i, none⟩ v j h3).trans (h.block j h1 h2 h3)⟩
theorem KX.low {W w1 : World} {mb b5 lo : Nat} (h : KX W mb b5 w1) (h1 : lo ≤ mb) (h2 : lo ≤ b5) (h3 : lo ≤ W.heap.size) : Below lo W w1 := ⟨h.os, h.tape, h.output, h.size, fun k hk => h.block k (by omega) (by omega) (by omega)⟩
theorem KX.keeps {W w1 : World} {mb b5 B : Nat} (h : KX W mb b5 w1) (h1 : mb < B) (h2 : b5 < B) : KeepsFrom B W w1 := ⟨h.size, fun k o hB hk _ => (h.block k (Array.getElem?_eq_some_iff.1 hk).1 (by omega) (by omega)).trans hk⟩
theorem KX.cell {W w1 : World} {mb b5 : Nat} (h : KX W mb b5 w1) {b o : Nat} {v : Value} (hc : W.cell? ⟨b, o, none⟩ = some v) (h1 : b ≠ mb) (h2 : b ≠ b5) : w1.cell? ⟨b, o, none⟩ = some v :=
  (World.cell?_of_block (a := ⟨b, o, none⟩) (h.block b (block_lt_of_cell hc) h1 h2)).trans hc
theorem KX.blk {W w1 : World} {mb b5 : Nat} (h : KX W mb b5 w1) {b : Nat} {t : TypeId} {cs : Array Value} (hc : Blk W b t cs) (h1 : b ≠ mb) (h2 : b ≠ b5) : Blk w1 b t cs := (h.block b hc.lt h1 h2).trans hc
theorem cell_not_map {W : World} {b o mb : Nat} {v : Value} {s : List Lk} (hc : W.cell? ⟨b, o, none⟩ = some v) (hm : MapK lookKey W mb s) : b ≠ mb := by
  rintro rfl
  obtain ⟨es, clock, hb, _⟩ := hm
  simp [World.cell?, hb] at hc

/-- what the rounds keep between two worlds -/
def KpU (lo B1 B2 : Nat) (X Y : World) : Prop := Below lo X Y ∧ Y.heap[B1]? = X.heap[B1]? ∧ Y.heap[B2]? = X.heap[B2]?
theorem KpU.trans {lo B1 B2 : Nat} {X Y Z : World} (h : KpU lo B1 B2 X Y) (k : KpU lo B1 B2 Y Z) : KpU lo B1 B2 X Z := ⟨h.1.trans k.1, k.2.1.trans h.2.1, k.2.2.trans h.2.2⟩
theorem KpU.put {lo B1 B2 B : Nat} (W : World) (l : Nat) (o' : Obj) (hl : B ≤ l) (h0 : lo ≤ B) (h1 : B1 < B) (h2 : B2 < B) : KpU lo B1 B2 W (W.putObj l o') :=
  ⟨⟨rfl, rfl, rfl, by simp, fun k hk => World.putObj_heap_other (by omega)⟩, World.putObj_heap_other (by omega), World.putObj_heap_other (by omega)⟩
theorem USt.kept {n₀ B1 B2 : Nat} {A : Option Addr} {len cap : Nat} {vs : List PV} {fv : Value} {W W' : World} (h : USt n₀ B1 B2 A len cap vs fv W) (hb : KpU n₀ B1 B2 W W') : USt n₀ B1 B2 A len cap vs fv W' :=
  ⟨(World.cell?_of_block (a := ⟨B1, 5, none⟩) hb.2.1).trans h.1, (World.cell?_of_block (a := ⟨B2, 0, none⟩) hb.2.2).trans h.2.1, h.2.2.1.below hb.1, fun x hx => (h.2.2.2.1 x hx).below hb.1, Nat.le_trans h.2.2.2.2 hb.1.size⟩
end Go.Proofs.YtnnkfgekiaaehaaGreat
