/- Walks and plain laws, part 7 of 30: ; ; ; ; ; ; ; ; ; ; . Conditions: none beyond those that each theorem states. -/
import Derived.Test.YtjnmkdahbcmfaaaGreatB6
/-  -/
set_option linter.unusedVariables false
namespace Go.Ev
open Go.RowKit
variable {P : Program} {N : Nat}
theorem run_bounds3 {len cap l u m : Nat} {lo : Option Value} {j1 j2 : IntKind} (hl : (lo = none ∧ l = 0) ∨ ∃ j, lo = some (.int j (.ofNat l))) (h1 : l ≤ u) (h2 : u ≤ m) (h3 : m ≤ cap) (w : World) :
    (Instr.sliceBounds true len cap lo (some (.int j1 (.ofNat u))) (some (.int j2 (.ofNat m)))).run P w = .ok (l, u, m) w := by
  have e1 := run_sliceBound (P := P) w j2 (m : Int) cap .slice3Acap (by omega) (by omega)
  have e2 := run_sliceBound (P := P) w j1 (u : Int) m .slice3B (by omega) (by omega)
  rcases hl with ⟨rfl, rfl⟩ | ⟨j, rfl⟩
  · simp [Instr.sliceBounds, e1, e2]
  · have e3 := run_sliceBound (P := P) w j (l : Int) u .slice3C (by omega) (by omega)
    simp [Instr.sliceBounds, e1, e2, e3]
theorem fSlice3_s {t e : TypeId} {s : Nat} (hu : P.underlying t = some (.slice e)) (hs : sizeT P e = some s) (h1 : 1 ≤ s) (lo : Bool) : HLP P (fSlice3 e lo s) (semSl t lo true true) := fun B w0 σ h w vs k v hf hR hx he => by
  cases vs with
  | nil => cases he
  | cons x r =>
    cases x <;> try (cases he; done)
    rename_i i off len cx cap
    obtain ⟨q, hq, e1⟩ := opt_ok he
    obtain ⟨p, hp, e2⟩ := opt_ok e1
    obtain ⟨o, ho, e3⟩ := opt_ok e2
    obtain ⟨c1, e4⟩ := iff_ok e3
    obtain ⟨c1, c3⟩ := and_true' c1
    obtain ⟨c1, c2⟩ := and_true' c1
    have c1 := ble c1; have c2 := ble c2
    have c3 := capLE_s hR (cellsOf_size hs) h1 c3
    have hx1 := hx.1
    rcases bnd_s hp with ⟨hc, _⟩ | ⟨_, j1, hr1⟩
    · cases hc
    rcases bnd_s ho with ⟨hc, _⟩ | ⟨_, j2, hr2⟩
    · cases hc
    obtain ⟨lv, hsem, hl⟩ : ∃ lv, semSl t lo true true (vals σ (.slice i off len cx cap :: r)) = (do pure (.value (← Instr.sliceAt t (val σ (.slice i off len cx cap)) lv (some (.int j1 (.ofNat p.1))) (some (.int j2 (.ofNat o.1)))))) ∧ ((lv = none ∧ q.1 = 0) ∨ ∃ j, lv = some (.int j (.ofNat q.1))) := by
      rcases bnd_s hq with ⟨rfl, rfl⟩ | ⟨rfl, j, hr⟩
      · simp only at hr1; subst hr1; rw [hr2]
        exact ⟨none, by simp [semSl, vals, val], .inl ⟨rfl, rfl⟩⟩
      · subst hr; rw [hr1, hr2]
        exact ⟨some (.int j (.ofNat q.1)), by simp [semSl, vals, val], .inr ⟨j, rfl⟩⟩
    rw [hsem]
    have hb := run_bounds3 (P := P) (len := len) (j1 := j1) (j2 := j2) hl c1 c2 c3 w
    cases hbq : Nat.beq o.1 q.1 with
    | true =>
      rw [hbq] at e4; simp only [cond_true] at e4
      have hbq := beq hbq
      refine FinP.here hR (by simpa [FV.ok] using hx1) e4 ?_
      have h0 : o.1 - q.1 = 0 := by omega
      simp only [val, Instr.sliceAt, Instr.slice, Sem.run_bind, run_underlying hu, Result.andThen_ok, hb, run_sizeT hs, Sem.run_pure, if_pos hbq, h0, if_true]
    | false =>
      rw [hbq] at e4; simp only [cond_false] at e4
      have hbq : o.1 ≠ q.1 := fun e => by rw [e, Nat.beq_refl] at hbq; cases hbq
      refine FinP.here hR (by simpa [FV.ok] using hx1) e4 ?_
      simp only [val, Instr.sliceAt, Instr.slice, Sem.run_bind, run_underlying hu, Result.andThen_ok, hb, run_sizeT hs, Sem.run_pure, if_neg hbq, Option.map_some, addr_add, Nat.add_assoc, if_true]
theorem cSlice_s {o : Oper} {t : TypeId} {x hi mx : Operand} {lo : Option Operand} (ho : o.op = .slice t x lo (some hi) (some mx)) : PBS P N o (cSlice P N t x lo hi mx) := by
  unfold cSlice
  cases hT : Tslice P t with
  | none => exact .no
  | some q =>
    obtain ⟨e, s⟩ := q
    obtain ⟨hu, hs⟩ := sliceT hT
    simp only
    cases hc : Nat.ble 1 s with
    | false => exact .no
    | true => exact (opL_pure (fSlice3_s hu hs (ble hc) lo.isSome) (by simp [ho]) fun ρ => by cases lo <;> simp [execOp, ho, semSl])
theorem cSlice2_s {o : Oper} {t : TypeId} {x : Operand} {lo hi : Option Operand} (ho : o.op = .slice t x lo hi none) : OBS P N o (cSlice2 P N t x lo hi) := by
  have he : ∀ ρ, execOp ρ o = semSl t lo.isSome hi.isSome false ((x :: (lo.toList ++ hi.toList)).map ρ) := fun ρ => by cases lo <;> cases hi <;> simp [execOp, ho, semSl]
  have hd : ∀ c, o.op ≠ .defer c := by simp [ho]
  unfold cSlice2
  cases hu : P.underlying t with
  | none => exact .no
  | some d =>
    cases d <;> simp only <;> try exact .no
    case string => exact .mk (opL_sound (fSliceStr_s hu _ _).toS hd he)
    case slice e =>
      cases hs : sizeT P e with
      | none => exact .no
      | some s =>
        simp only
        cases hc : Nat.ble 1 s with
        | false => exact .no
        | true => exact .mk (opL_sound (fSliceS_s hu hs (ble hc) _ _) hd he)
    case array n e =>
      cases hs : sizeT P e with
      | none => exact .no
      | some s =>
        simp only
        refine .mk (opL_sound (fun B w0 σ h w vs k v hf hR hx he => ?_) hd he)
        cases vs with
        | nil => cases he
        | cons x r =>
          cases x <;> try (cases he; done)
          rename_i i off
          obtain ⟨q, hq, e1⟩ := opt_ok he
          obtain ⟨p, hp, e2⟩ := opt_ok e1
          obtain ⟨c1, e3⟩ := iff_ok e2
          obtain ⟨c1, c3⟩ := and_true' c1
          obtain ⟨c1, c2⟩ := and_true' c1
          have c1 := ble c1; have c2 := ble c2; have c3 := ble c3
          obtain ⟨lv, hv, hsem, hl, hh⟩ := semSl_eq (t := t) (x := .ptr i off) hq hp σ
          rw [hsem]
          have hx1 := hx.1
          have hb := run_bounds (P := P) (b := false) (cap := n) hl hh c1 c2 w
          refine Fin.here hR (by simpa [FV.ok] using hx1) e3 ?_
          have hne : n ≠ q.1 := by omega
          simp only [val, Instr.sliceAt, Instr.sureAddr, Sem.run_bind, run_underlying hu, Result.andThen_ok, hb, run_sizeT hs, Sem.run_pure, if_neg hne, addr_add, Nat.add_assoc, if_true]
theorem cSliceQ_s {o : Oper} {t : TypeId} {x : Operand} {lo hi : Option Operand} (ho : o.op = .slice t x lo hi none) : PBS P N o (cSliceQ P N t x lo hi) := by
  have he : ∀ ρ, execOp ρ o = semSl t lo.isSome hi.isSome false ((x :: (lo.toList ++ hi.toList)).map ρ) := fun ρ => by cases lo <;> cases hi <;> simp [execOp, ho, semSl]
  have hd : ∀ c, o.op ≠ .defer c := by simp [ho]
  unfold cSliceQ
  cases hu : P.underlying t with
  | none => exact .no
  | some d =>
    cases d <;> simp only <;> try exact .no
    case string => exact (opL_pure (fSliceStr_s hu _ _) hd he)
    case slice e =>
      cases hs : sizeT P e with
      | none => exact .no
      | some s =>
        simp only
        cases hc : Nat.ble 1 s with
        | false => exact .no
        | true => exact (opL_pure (fSliceQ_s hu hs (ble hc) _ _) hd he)
    case array n e =>
      cases hs : sizeT P e with
      | none => exact .no
      | some s =>
        simp only
        refine (opL_pure (fun B w0 σ h w vs k v hf hR hx he => ?_) hd he)
        cases vs with
        | nil => cases he
        | cons x r =>
          cases x <;> try (cases he; done)
          rename_i i off
          obtain ⟨q, hq, e1⟩ := opt_ok he
          obtain ⟨p, hp, e2⟩ := opt_ok e1
          obtain ⟨c1, e3⟩ := iff_ok e2
          obtain ⟨c1, c3⟩ := and_true' c1
          obtain ⟨c1, c2⟩ := and_true' c1
          have c1 := ble c1; have c2 := ble c2; have c3 := ble c3
          obtain ⟨lv, hv, hsem, hl, hh⟩ := semSl_eq (t := t) (x := .ptr i off) hq hp σ
          rw [hsem]
          have hx1 := hx.1
          have hb := run_bounds (P := P) (b := false) (cap := n) hl hh c1 c2 w
          refine FinP.here hR (by simpa [FV.ok] using hx1) e3 ?_
          have hne : n ≠ q.1 := by omega
          simp only [val, Instr.sliceAt, Instr.sureAddr, Sem.run_bind, run_underlying hu, Result.andThen_ok, hb, run_sizeT hs, Sem.run_pure, if_neg hne, addr_add, Nat.add_assoc, if_true]
/-! ### append and copy -/
theorem cellsOf_s {B : Nat} {w0 : World} {σ : Ren} {h : FH} {w : World} (H : HR P B w0 σ h w) {y : FV} (hy : y.ok h.next) {n s : Nat} {new : List FV} (h1 : lenOf y = some n) (h2 : cellsOf h s y = some new) :
    (∀ w, (Builtin.lenOf (val σ y)).run P w = .ok n w) ∧ (Builtin.firstCells s n (val σ y)).run P w = .ok (vals σ new).toArray w ∧ (∀ v ∈ new, v.ok h.next ∧ v.flat = true) ∧ new.length = n * s := by
  cases y <;> simp only [lenOf, reduceCtorEq, Option.some.injEq] at h1 <;> subst h1 <;> simp only [cellsOf] at h2
  case str l =>
    obtain ⟨c1, c2⟩ := bif_some h2
    cases c2
    have c1 := beq c1; subst c1
    simp only [FV.ok] at hy
    refine ⟨fun w => by simp [val, Builtin.lenOf], ?_, bytesF_ok, by rw [bytesF_length]; omega⟩
    have hex : ((bytesOf l).extract 0 l.length) = bytesOf l := by
      apply ByteArray.ext
      rw [ByteArray.data_extract]
      simp [bytesOf]
      exact List.take_of_length_le (by simp)
    simp only [val, Builtin.firstCells, hex, Sem.run_pure, bytesOf_map hy, bytesF_vals σ hy]
  case slice i off len cx cap =>
    cases hg : h.get i with
    | none => rw [hg] at h2; cases h2
    | some b =>
      rw [hg] at h2
      cases b <;> try (cases h2; done)
      simp only at h2
      obtain ⟨c1, c2⟩ := bif_some h2
      obtain ⟨r1, r2, r3⟩ := H.loadCells hg (ble c1) c2
      exact ⟨fun w => by simp [val, Builtin.lenOf], by simpa [val, Builtin.firstCells] using r1, r2, r3⟩
  case nils =>
    cases h2
    exact ⟨fun w => by simp [val, Builtin.lenOf], by simp [val, Builtin.firstCells, vals], by simp, by simp⟩
  case emp ei eo ec eq es =>
    cases h2
    exact ⟨fun w => by simp [val, Builtin.lenOf], by simp [val, Builtin.firstCells, vals, loadCells, loadCellsFrom], by simp, by simp⟩
theorem appT_s {argT : Array TypeId} {e : TypeId} {s : Nat} (h : appT P argT = some (e, s)) : ∃ t t2 d i z, argT[0]? = some t ∧ argT[1]? = some t2 ∧ P.underlying t = some (.slice e) ∧ sizeT P e = some s ∧ 1 ≤ s ∧ P.underlying t2 = some d ∧ (∀ k, d ≠ .int k) ∧ P.info? e = some i ∧ i.size = s ∧ i.bytes ≤ 1000000 ∧ i.zero = some z ∧ z.cells.size = s := by
  unfold appT at h
  cases h0 : argT[0]? with
  | none => rw [h0] at h; cases h
  | some t =>
    rw [h0] at h
    simp only at h
    cases hT : Tslice P t with
    | none => rw [hT] at h; cases h
    | some q =>
      obtain ⟨e', s'⟩ := q
      rw [hT] at h
      simp only at h
      cases hz : zeroT P e' with
      | none => rw [hz] at h; cases h
      | some z =>
        cases hb : bytesT P e' with
        | none => rw [hz, hb] at h; cases h
        | some b =>
          rw [hz, hb] at h
          simp only at h
          obtain ⟨c1, c2⟩ := bif_some h
          simp only [Option.some.injEq, Prod.mk.injEq] at c2
          obtain ⟨rfl, rfl⟩ := c2
          obtain ⟨c1, c3⟩ := and_true' c1
          obtain ⟨c3, c4⟩ := and_true' c3
          obtain ⟨c4, c5⟩ := and_true' c4
          obtain ⟨hu, hs⟩ := sliceT hT
          obtain ⟨i, V, hi, hV, hz'⟩ := zero_info hz
          obtain ⟨i', hi', hsz⟩ := info_size hs
          rw [hi] at hi'; cases hi'
          have hbi : i.bytes = b := by unfold bytesT at hb; rw [hi] at hb; simpa using hb
          unfold secondT at c5
          cases h2 : argT[1]? with
          | none => rw [h2] at c5; cases c5
          | some t2 =>
            rw [h2] at c5
            simp only at c5
            cases hu2 : P.underlying t2 with
            | none => rw [hu2] at c5; cases c5
            | some d =>
              rw [hu2] at c5
              refine ⟨t, t2, d, i, V, rfl, rfl, hu, hs, ble c1, hu2, ?_, hi, hsz, by have := ble c4; omega, hV, ?_⟩
              · intro k e; subst e; cases c5
              · rw [← (hz' 0 ⟨id, id, id, fun _ => default⟩).1, val_cells]; simpa using beq c3
theorem run_grow {argT : Array TypeId} {e : TypeId} {s : Nat} (h : appT P argT = some (e, s)) {x y : Value} {a : Option Addr} {len cap n : Nat} (hx : x = .slice a len cap) (hn : ∀ w, (Builtin.lenOf y).run P w = .ok n w) {old new : List Value} {w : World}
    (ho : (Builtin.firstCells s len x).run P w.drew = .ok old.toArray w.drew) (hnew : (Builtin.firstCells s n y).run P w.drew = .ok new.toArray w.drew) (hlen : len + n ≤ 100000) (hcap : cap < len + n) (hol : old.length = len * s) (hnl : new.length = n * s) (ty : TypeId) :
    ∃ (c : Nat) (cells : Array Value), len + n ≤ c ∧ cells.size = c * s ∧ (∀ (j : Nat) (V : Value), (old ++ new)[j]? = some V → cells[j]? = some V) ∧ (Builtin.append_ argT ty #[x, y]).run P w = .ok (.slice (some ⟨w.heap.size, 0, none⟩) (len + n) c) (w.drew.alloc (.cells cells e)) := by
  obtain ⟨t, t2, d, i, z, h0, h1, hu, hs, hs1, hu2, hd, hi, hsz, hby, hz, hzs⟩ := appT_s h
  let q : Question := .appendCap (len + n) cap e
  let c := q.cut (w.tape w.drawn q)
  have hc : len + n ≤ c := by show len + n ≤ len + n + _; omega
  let rest := Builtin.zeroCells z.cells (c - (len + n))
  refine ⟨c, old.toArray ++ new.toArray ++ rest, hc, ?_, fun j V hV => ?_, ?_⟩
  · have : rest.size = (c - (len + n)) * s := by simp [rest, Builtin.zeroCells, hzs]
    simp only [Array.size_append, List.size_toArray, this, hol, hnl]
    rw [← Nat.add_mul, ← Nat.add_mul]
    congr 1; omega
  · rw [Array.getElem?_append_left (by have := (List.getElem?_eq_some_iff.1 hV).1; simpa using this)]
    simpa using hV
  · subst hx
    have hn1 : ¬ (len + n ≤ cap) := by omega
    have h63 : ¬ (((len + n : Nat) : Int) > IntKind.i64.max ∧ ((false = true) ∨ i.bytes = 0)) := by
      intro h
      have := h.1
      have e : (IntKind.i64.max : Int) = 9223372036854775807 := rfl
      rw [e] at this; omega
    have hnc := nextslicecap_le hcap
    have h48 : ¬ (Builtin.nextslicecap (len + n) cap * i.bytes > 2 ^ 48) := by
      have : Builtin.nextslicecap (len + n) cap * i.bytes ≤ 200000 * 1000000 := Nat.mul_le_mul (by omega) hby
      omega
    have hzero : ∀ w, (zeroValue e).run P w = .ok z w := fun w => by simp [zeroValue, typeInfo, hi, hz]
    have hti : ∀ w, (typeInfo e).run P w = .ok i w := fun w => by simp [typeInfo, hi]
    have hch : (choose q).run P w = .ok c w.drew := by rw [run_choose]; simp [q, c, Question.forced]
    have hm : (match d with | .int _ => true | _ => false) = false := by cases d <;> first | rfl | exact absurd rfl (hd _)
    simp only [Builtin.append_]
    simp only [h0, h1, List.getElem?_toArray, List.getElem?_cons_zero, List.getElem?_cons_succ, Sem.run_bind, run_underlying hu, run_underlying hu2, Result.andThen_ok, run_sizeT hs, Sem.run_pure]
    have h63' : ¬ (9223372036854775807 < (len : Int) + (n : Int)) := by omega
    have h48' : ¬ (281474976710656 < Builtin.nextslicecap (len + n) cap * i.bytes) := by omega
    simp [hn, hn1, hti, h63', h48', Question.forced, ho, hnew, hzero, newRow]
    refine ⟨rfl, ?_⟩
    show w.drew.alloc (.cells (old.toArray ++ (new.toArray ++ rest)) e) = _
    congr 2
    apply Array.ext'
    simp [List.append_assoc]
theorem run_room {argT : Array TypeId} {e : TypeId} {s : Nat} (h : appT P argT = some (e, s)) {y : Value} {a : Option Addr} {len cap n : Nat} (hn : ∀ w, (Builtin.lenOf y).run P w = .ok n w) {new : List Value} {w : World}
    (hnew : (Builtin.firstCells s n y).run P w = .ok new.toArray w) (hcap : len + n ≤ cap) (ty : TypeId) :
    (Builtin.append_ argT ty #[.slice a len cap, y]).run P w = (match a with | some a => (storeCells (a.add (len * s)) new).run P w | none => .ok () w).andThen fun _ w' => .ok (.slice a (len + n) cap) w' := by
  obtain ⟨t, t2, d, i, z, h0, h1, hu, hs, hs1, hu2, hd, hi, hsz, hby, hz, hzs⟩ := appT_s h
  simp only [Builtin.append_]
  simp only [h0, h1, List.getElem?_toArray, List.getElem?_cons_zero, List.getElem?_cons_succ, Sem.run_bind, run_underlying hu, run_underlying hu2, Result.andThen_ok, run_sizeT hs, Sem.run_pure]
  cases a <;> simp [hn, hcap, hnew]
theorem fAppend_s {argT : Array TypeId} {e : TypeId} {s : Nat} (hT : appT P argT = some (e, s)) (ty : TypeId) : H2S P (fAppend e s) fun x y => (do pure (.value (← Builtin.append_ argT ty #[x, y]))) := fun B w0 σ h w x y k v hf hR hx hy he => by
  obtain ⟨n, hn, e1⟩ := opt_ok he
  obtain ⟨new, hnew, e2⟩ := opt_ok e1
  obtain ⟨hn1, e3⟩ := iff_ok e2
  have hn1 := ble hn1
  obtain ⟨r1, r2, r3, r4⟩ := cellsOf_s hR hy hn hnew
  obtain ⟨_, r2', _, _⟩ := cellsOf_s hR.drew hy hn hnew
  obtain ⟨t, t2, d, ie, z, h0, h1, hu, hs, hs1, hu2, hd, hi, hsz, hby, hz, hzs⟩ := appT_s hT
  have hce : P.cellsOf e = s := cellsOf_size hs
  cases x <;> try (cases e3; done)
  case emp ei eo ec eq es =>
    obtain ⟨c1, e4⟩ := iff_ok e3
    have c1 := beq c1; subst c1
    have hnew0 : new = [] := List.length_eq_zero_iff.1 (by rw [r4]; omega)
    subst hnew0
    refine Fin.here hR hx e4 ?_
    simp only [val, Sem.run_bind]
    rw [run_room hT r1 r2 (by omega) ty]
    simp [vals, storeCells]
  case nils =>
    simp only at e3
    cases c1 : Nat.beq n 0 with
    | true =>
      rw [c1] at e3; simp only [cond_true] at e3
      have c1 := beq c1; subst c1
      refine Fin.here hR (by simp [FV.ok]) e3 ?_
      simp only [val, Sem.run_bind]
      rw [run_room hT r1 r2 (by omega) ty]
      simp
    | false =>
      rw [c1] at e3; simp only [cond_false] at e3
      have c1 : n ≠ 0 := fun e => by subst e; cases c1
      obtain ⟨c, cells, g1, g2, g3, g4⟩ := run_grow hT (x := .slice none 0 0) rfl r1 (old := []) (new := vals σ new) (by simp [Builtin.firstCells]) r2' (by omega) (by omega) (by simp) (by simpa [vals_eq] using r4) ty
      simp only [Nat.zero_add] at g1 g4
      refine Fin.newD (σ' := σ.add h.next w.heap.size 0 c) (o := .cells cells e) hR (Ren.add_ext _ _ _ _ _) (Ren.add_blk _ _ _ _ _) ?_ (by simp [FV.ok]) e3 ?_
      · refine ⟨_, _, rfl, by rw [Ren.add_base, g2]; have := Nat.mul_le_mul_right s g1; omega, fun _ => rfl, fun _ => ⟨by rw [Ren.add_cap, hce]; exact Nat.mul_le_mul_right s g1, by rw [Ren.add_cap, Ren.add_base, hce, g2]; omega⟩, fun j u hj hv => ?_⟩
        rcases KT.get_fill _ 0 .nil j u hv with ⟨_, a⟩ | a
        · simp only [Nat.sub_zero] at a
          have hm := r3 u (List.mem_of_getElem? a)
          refine ⟨?_, ok_mono (Nat.le_succ _) _ hm.1, hm.2⟩
          rw [Ren.add_base, Nat.zero_add, val_ext (Ren.add_ext σ h.next w.heap.size 0 c) u hm.1]
          exact g3 j _ (by simp [vals_eq, a])
        · simp [KT.get_nil] at a
      · simp [val, g4]
  case slice i off len cx cap =>
    obtain ⟨t', g, m, cs, hg, e4⟩ := cells_ok' e3
    obtain ⟨c1, e5⟩ := iff_ok e4
    obtain ⟨c1, c2⟩ := and_true' c1
    obtain ⟨c2, c3⟩ := and_true' c2
    have c1 := beq c1; have c2 := ble c2; have c3 := ble c3
    subst c1
    have hknown : known h i t' = (bif Nat.beq g 1 then m else 0) := by
      unfold known; rw [hg]; simp
    have hmul : (len + n) * s = len * s + n * s := Nat.add_mul _ _ _
    cases c4 : (capLE (len + n) (bif Nat.beq g 1 then m else 0) cx cap off s && Nat.ble (off + (len + n) * s) m) with
    | true =>
      rw [c4] at e5; simp only [cond_true] at e5
      obtain ⟨c5, e6⟩ := iff_ok e5
      obtain ⟨c5, c6⟩ := and_true' c5
      obtain ⟨c4, c7⟩ := and_true' c4
      have c7 := ble c7
      rw [← hknown] at c4
      have hroom := capLE_s hR hce hs1 c4
      obtain ⟨o, w', s1, s2, s3⟩ := hR.storeCells hg (ble c5) (off := off + len * s) (l := new) (by omega) r3
      refine Fin.put hR hg (ble c5) (ble c6) s2 s3 (by simpa [FV.ok] using hx) e6 (.inl ?_)
      simp only [val, Sem.run_bind]
      rw [run_room hT r1 r2 hroom ty]
      simp only [addr_add, Nat.add_assoc] at s1 ⊢
      rw [s1]; simp
    | false =>
      rw [c4] at e5; simp only [cond_false] at e5
      obtain ⟨old, hold, e6⟩ := opt_ok e5
      obtain ⟨q1, q2, q3⟩ := hR.loadCells hg c2 hold
      obtain ⟨q1', _, _⟩ := hR.drew.loadCells hg c2 hold
      have hall : ∀ u ∈ old ++ new, u.ok h.next ∧ u.flat = true := fun u hu => by
        rcases List.mem_append.1 hu with hu | hu
        · exact q2 u hu
        · exact r3 u hu
      have grow : ∀ C, C < len + n → ∃ (c : Nat) (cells : Array Value), len + n ≤ c ∧ cells.size = c * s ∧ (∀ (j : Nat) (u : FV), (old ++ new)[j]? = some u → cells[j]? = some (val σ u)) ∧
          (Builtin.append_ argT ty #[.slice (some ⟨σ.blk i, σ.base i + off, none⟩) len C, val σ y]).run P w = .ok (.slice (some ⟨w.heap.size, 0, none⟩) (len + n) c) (w.drew.alloc (.cells cells t')) := by
        intro C hC
        obtain ⟨c, cells, g1, g2, g3, g4⟩ := run_grow hT (x := .slice (some ⟨σ.blk i, σ.base i + off, none⟩) len C) rfl r1 (old := vals σ old) (new := vals σ new) (by simpa [Builtin.firstCells] using q1') r2' (by omega) hC (by simpa [vals_eq] using q3) (by simpa [vals_eq] using r4) ty
        exact ⟨c, cells, g1, g2, fun j u hj => g3 j _ (by rw [vals_eq, vals_eq, ← List.map_append, List.getElem?_map, hj]; rfl), g4⟩
      have hnewblk : ∀ (σ0 : Ren) (c : Nat) (cells : Array Value), len + n ≤ c → cells.size = c * s → (∀ (j : Nat) (u : FV), (old ++ new)[j]? = some u → cells[j]? = some (val σ u)) → ∀ b,
          BO P (σ.add h.next b 0 c) (h.next + 1) h.next (.cells cells t') (.cells t' 1 ((len + n) * s) (KT.fill (old ++ new) 0 .nil)) := by
        intro σ0 c cells g1 g2 g3 b
        refine ⟨_, _, rfl, by rw [Ren.add_base, g2]; have := Nat.mul_le_mul_right s g1; omega, fun _ => rfl, fun _ => ⟨by rw [Ren.add_cap, hce]; exact Nat.mul_le_mul_right s g1, by rw [Ren.add_cap, Ren.add_base, hce, g2]; omega⟩, fun j u hj hv => ?_⟩
        rcases KT.get_fill _ 0 .nil j u hv with ⟨_, a⟩ | a
        · simp only [Nat.sub_zero] at a
          have hm := hall u (List.mem_of_getElem? a)
          refine ⟨?_, ok_mono (Nat.le_succ _) _ hm.1, hm.2⟩
          rw [Ren.add_base, Nat.zero_add, val_ext (Ren.add_ext σ h.next b 0 c) u hm.1]
          exact g3 j u a
        · simp [KT.get_nil] at a
      cases cx with
      | true =>
        simp only [cond_true] at e6
        obtain ⟨c5, e7⟩ := iff_ok e6
        have c5 := ble c5
        obtain ⟨c, cells, g1, g2, g3, g4⟩ := grow cap (by omega)
        refine Fin.newD (σ' := σ.add h.next w.heap.size 0 c) (o := .cells cells t') hR (Ren.add_ext _ _ _ _ _) (Ren.add_blk _ _ _ _ _) (hnewblk σ c cells g1 g2 g3 _) (by simp [FV.ok]) e7 ?_
        simp [val, g4]
      | false =>
        simp only [cond_false] at e6
        obtain ⟨c5, e7⟩ := iff_ok e6
        obtain ⟨c5, c6⟩ := and_true' c5
        obtain ⟨c6, c7⟩ := and_true' c6
        have c5 := beq c5; have c6 := beq c6; have c7 := ble c7
        subst c5
        by_cases hroom : len + n ≤ σ.cap i - cap
        · -- in place
          obtain ⟨o, ho, hbo⟩ := hR.blk i _ hg (by simp)
          obtain ⟨c, fr, rfl, b2, b3, b4, b5⟩ := hbo
          have hfr := b3 (by omega)
          subst hfr
          obtain ⟨b6, b7⟩ := b4 rfl
          rw [hce] at b6 b7
          have hcapmul : (len + n) * s ≤ (σ.cap i - cap) * s := Nat.mul_le_mul_right s hroom
          have hcs : (σ.cap i - cap) * s = σ.cap i * s - cap * s := Nat.sub_mul _ _ _
          have hst := run_storeCells_at P (σ.blk i) (σ.base i + off + len * s) t' (vals σ new) 0 c w ho (by simp only [vals_eq, List.length_map, r4, Nat.add_zero]; omega) (flat_all r3)
          simp only [Nat.add_zero] at hst
          obtain ⟨C, hC⟩ : ∃ C, C = (c.toList.take (σ.base i + off + len * s) ++ vals σ new ++ c.toList.drop (σ.base i + off + len * s + (vals σ new).length)).toArray := ⟨_, rfl⟩
          rw [← hC] at hst
          have hsz : C.size = c.size := by
            rw [hC]
            simp only [vals_eq, List.length_map, r4, List.size_toArray, List.length_append, List.length_take, List.length_drop, Array.length_toList]; omega
          refine ⟨_, _, σ.add h.next (σ.blk i) (σ.base i + off) (σ.cap i - cap), w.setRow (σ.blk i) C, e7, rfl, Nat.le_succ _, Ren.add_ext _ _ _ _ _, hR.renew hg (by simp [Wr]) c7 (upd_setRow ho) (Ren.add_ext _ _ _ _ _) (Ren.add_blk _ _ _ _ _) (o := .cells C t' (0, 0)) ?_, by simp [FV.ok], .inl ?_⟩
          · refine ⟨_, _, rfl, by rw [Ren.add_base, hsz]; omega, fun _ => rfl, fun _ => ⟨by rw [Ren.add_cap, hce]; omega, by rw [Ren.add_cap, Ren.add_base, hce, hsz]; omega⟩, fun j u hj hv => ?_⟩
            rcases KT.get_fill _ 0 .nil j u hv with ⟨_, a⟩ | a
            · simp only [Nat.sub_zero] at a
              have hm := hall u (List.mem_of_getElem? a)
              refine ⟨?_, ok_mono (Nat.le_succ _) _ hm.1, hm.2⟩
              rw [Ren.add_base, val_ext (Ren.add_ext σ h.next _ _ _) u hm.1, hC, List.getElem?_toArray, List.append_assoc]
              by_cases hjo : j < len * s
              · rw [List.getElem?_append_left (by omega)] at a
                obtain ⟨z1, z2⟩ := readN_some _ _ _ hold
                obtain ⟨u', y1, y2⟩ := z2 j hjo
                rw [a] at y1; cases y1
                obtain ⟨x1, _, _⟩ := b5 (off + j) u (by omega) y2
                rw [List.getElem?_append_left (by simp; omega), List.getElem?_take_of_lt (by omega), Array.getElem?_toList, Nat.add_assoc]
                exact x1
              · rw [List.getElem?_append_right (by omega), q3] at a
                rw [List.getElem?_append_right (by simp; omega), List.getElem?_append_left (by simp [vals_eq]; have := (List.getElem?_eq_some_iff.1 a).1; omega)]
                simp only [List.length_take, Array.length_toList]
                rw [show σ.base i + off + j - min (σ.base i + off + len * s) c.size = j - len * s from by omega, vals_eq, List.getElem?_map, a]; rfl
            · simp [KT.get_nil] at a
          · simp only [val, Sem.run_bind, Bool.false_eq_true, if_false, Ren.add_blk, Ren.add_base, Ren.add_cap, Nat.add_zero, Nat.sub_zero]
            rw [run_room hT r1 r2 hroom ty]
            simp only [addr_add]
            rw [hst]; simp
        · obtain ⟨c, cells, g1, g2, g3, g4⟩ := grow (σ.cap i - cap) (by omega)
          refine ⟨_, _, σ.add h.next w.heap.size 0 c, _, e7, rfl, Nat.le_succ _, Ren.add_ext _ _ _ _ _, (hR.kill hg).drew.new (Ren.add_ext _ _ _ _ _) (Ren.add_blk _ _ _ _ _) (hnewblk σ c cells g1 g2 g3 _), by simp [FV.ok], .inl ?_⟩
          simp [val, g4]
end Go.Ev

/-  -/
set_option linter.unusedVariables false
namespace Go.Ev
open Go.RowKit
variable {P : Program} {N : Nat}
theorem cAppendB_s {o : Oper} {argT : Array TypeId} {x y : Operand} (c : Call) (ho : o.op = .call c) (hc : c.callee = .builtin .append) (ha : c.args = #[x, y]) (hT : c.argTypes = argT) : OBS P N o (cAppendB P N argT x y) := by
  unfold cAppendB
  cases h : appT P argT with
  | none => exact .no
  | some q =>
    obtain ⟨e, s⟩ := q
    exact .mk (op2_sound (fAppend_s h o.type) (by simp [ho]) fun ρ => by simp [execOp, ho, resolve, hc, ha, invoke, builtin, hT])
theorem take_ok {n k : Nat} {l : List FV} (h : ∀ v ∈ l, v.ok n ∧ v.flat = true) : ∀ v ∈ l.take k, v.ok n ∧ v.flat = true := fun v hv => h v (List.mem_of_mem_take hv)
theorem fCopy_s {argT : Array TypeId} {t e : TypeId} {s : Nat} (h0 : argT[0]? = some t) (hT : Tslice P t = some (e, s)) (ty : TypeId) : H2S P (fCopy s) fun x y => (do pure (.value (← Builtin.copy_ argT ty #[x, y]))) := fun B w0 σ h w x y k v hf hR hx hy he => by
  obtain ⟨n, hn, e1⟩ := opt_ok he
  obtain ⟨l, hl, e2⟩ := opt_ok e1
  obtain ⟨hu, hs⟩ := sliceT hT
  obtain ⟨r1, r2, r3, r4⟩ := cellsOf_s hR hy hn hl
  have first : ∀ d, (Builtin.firstCells s (Nat.min n d) (val σ y)).run P w = .ok (vals σ (l.take (min n d * s))).toArray w := by
    intro d
    cases y <;> simp only [lenOf, reduceCtorEq, Option.some.injEq] at hn <;> subst hn <;> simp only [cellsOf] at hl
    case str b =>
      obtain ⟨c1, c2⟩ := bif_some hl
      cases c2
      have c1 := beq c1; subst c1
      simp only [FV.ok] at hy
      have hex : ((bytesOf b).extract 0 (Nat.min b.length d)) = bytesOf (b.take (min b.length d)) := by
        apply ByteArray.ext
        rw [ByteArray.data_extract]
        simp [bytesOf, List.map_take]
      have hb : ∀ c ∈ b.take (min b.length d), c < 256 := fun c hc => hy c (List.mem_of_mem_take hc)
      have hbt : ∀ (k : Nat) (b : List Nat), (bytesF b).take k = bytesF (b.take k) := by
        intro k b
        induction b generalizing k with
        | nil => simp [bytesF]
        | cons c b ih => cases k <;> simp [bytesF, ih]
      simp only [val, Builtin.firstCells, hex, Sem.run_pure, bytesOf_map hb, Nat.mul_one, hbt, bytesF_vals σ hb]
    case slice i off len cx cap =>
      cases hg : h.get i with
      | none => rw [hg] at hl; cases hl
      | some bb =>
        rw [hg] at hl
        cases bb <;> try (cases hl; done)
        simp only at hl
        obtain ⟨c1, c2⟩ := bif_some hl
        have c1 := ble c1
        obtain ⟨o, ho, hb⟩ := hR.blk i _ hg (by simp)
        obtain ⟨c, fr, e1, e2, e3, e4⟩ := hb.read c1 c2
        subst e1
        have hle : min len d * s ≤ len * s := Nat.mul_le_mul_right s (Nat.min_le_left _ _)
        have := run_read (P := P) ho (vals σ (l.take (min len d * s))) (o := σ.base i + off) (fun j u hj => by
          refine e4 j u ?_
          rw [vals_eq] at hj ⊢
          rw [List.map_take] at hj
          have hlt := (List.getElem?_eq_some_iff.1 hj).1
          simp at hlt
          rw [List.getElem?_take_of_lt (by omega)] at hj; exact hj)
        have hlen : (vals σ (l.take (min len d * s))).length = Nat.min len d * s := by
          rw [vals_eq]; simp only [List.length_map, List.length_take, e2]
          show min (min len d * s) (len * s) = min len d * s
          omega
        rw [hlen] at this
        simpa [val, Builtin.firstCells] using this
    case nils => cases hl; simp [val, Builtin.firstCells, vals]
    case emp ei eo ec eq es => cases hl; simp [val, Builtin.firstCells, vals, loadCells, loadCellsFrom]
  cases x <;> try (cases e2; done)
  case nils =>
    refine Fin.here hR (by simp [FV.ok]) e2 ?_
    have hf0 := first 0
    simp only [Nat.min_def, Nat.le_zero] at hf0
    have : Nat.min n 0 = 0 := by show min n 0 = 0; omega
    have hf1 := first 0
    rw [this] at hf1
    simp [val, Builtin.copy_, h0, run_underlying hu, r1, run_sizeT hs, hf1, goInt]
  case emp ei eo ec eq es =>
    refine Fin.here hR (by simp [FV.ok]) e2 ?_
    have : Nat.min n 0 = 0 := by show min n 0 = 0; omega
    have hf1 := first 0
    rw [this] at hf1
    simp [val, Builtin.copy_, h0, run_underlying hu, r1, run_sizeT hs, hf1, goInt, vals, storeCells]
  case slice i off len cx cap =>
    obtain ⟨t', g, m, cs, hg, e3⟩ := cells_ok' e2
    obtain ⟨c1, e4⟩ := iff_ok e3
    obtain ⟨c1, c2⟩ := and_true' c1
    obtain ⟨c2, c3⟩ := and_true' c2
    have c1 := ble c1
    have hle : min n len * s ≤ len * s := Nat.mul_le_mul_right s (Nat.min_le_right _ _)
    obtain ⟨o, w', s1, s2, s3⟩ := hR.storeCells hg (ble c2) (off := off) (l := l.take (min n len * s)) (by simp; omega) (take_ok r3)
    refine Fin.put hR hg (ble c2) (ble c3) s2 s3 (by simp [FV.ok]) e4 (.inl ?_)
    have hf1 := first len
    simp only [val, Builtin.copy_, List.getElem?_toArray, List.getElem?_cons_zero, List.getElem?_cons_succ, h0, Sem.run_bind, run_underlying hu, Result.andThen_ok, r1, run_sizeT hs, Sem.run_pure]
    rw [hf1]
    simp only [Result.andThen_ok, s1, Sem.run_bind, Sem.run_pure]
    rfl
theorem cCopyB_s {o : Oper} {argT : Array TypeId} {x y : Operand} (c : Call) (ho : o.op = .call c) (hc : c.callee = .builtin .copy) (ha : c.args = #[x, y]) (hT : c.argTypes = argT) : OBS P N o (cCopyB P N argT x y) := by
  unfold cCopyB
  cases h0 : argT[0]? with
  | none => exact .no
  | some t =>
    simp only
    cases h : Tslice P t with
    | none => exact .no
    | some q =>
      obtain ⟨e, s⟩ := q
      exact .mk (op2_sound (fCopy_s h0 h o.type) (by simp [ho]) fun ρ => by simp [execOp, ho, resolve, hc, ha, invoke, builtin, hT])
theorem cBuiltin_p {o : Oper} (c : Call) (b : Builtin) (ho : o.op = .call c) (hc : c.callee = .builtin b) (hb : b = .len ∨ b = .cap ∨ b = .min ∨ b = .max) : PBS P N o (cBuiltin P N b c.argTypes c.args.toList) := by
  have arr : ∀ {l : List Operand}, c.args.toList = l → c.args = l.toArray := fun h => by rw [← h]
  have mm : ∀ mx, b = (if mx then .max else .min) → PBS P N o (.mk (opL (c.args.toList.map (cO N)) (fMinmax mx))) := by
    intro mx hb
    subst hb
    refine (opL_pure (sem := fun l => (do pure (.value (← (if mx then Builtin.max_ else Builtin.min_) c.argTypes o.type l.toArray)))) (fun B w0 σ h w vs k v hf hR hx he => ?_) (by simp [ho]) fun ρ => ?_)
    · cases vs with
      | nil => cases he
      | cons x r =>
        obtain ⟨u, hu, e⟩ := opt_ok he
        obtain ⟨h1, h2⟩ := minmax_s (P := P) (w := w) (σ := σ) r x u h.next hu hx.1
        refine FinP.here hR h2 e ?_
        cases mx <;> simp [Builtin.max_, Builtin.min_, vals] <;> simp at h1 <;> simp [h1]
    · have e1 : c.args.map ρ = (c.args.toList.map ρ).toArray := by rw [← Array.toList_map]
      cases mx <;> simp [execOp, ho, resolve, hc, invoke, builtin, e1]
  cases b <;> simp only [cBuiltin] <;> try (exfalso; rcases hb with hb | hb | hb | hb <;> cases hb; done)
  case cap =>
    split
    · rename_i x hl; exact cCapB_s c ho hc (arr hl) rfl
    · exact .no
  case len =>
    split
    · rename_i x hl; exact cLenB_s c ho hc (arr hl) rfl
    · exact .no
  case max => exact mm true rfl
  case min => exact mm false rfl
theorem cBuiltin_s {o : Oper} (c : Call) (b : Builtin) (ho : o.op = .call c) (hc : c.callee = .builtin b) : OBS P N o (cBuiltin P N b c.argTypes c.args.toList) := by
  have arr : ∀ {l : List Operand}, c.args.toList = l → c.args = l.toArray := fun h => by rw [← h]
  have mm : ∀ mx, b = (if mx then .max else .min) → OBS P N o (.mk (opL (c.args.toList.map (cO N)) (fMinmax mx))) := by
    intro mx hb
    subst hb
    refine .mk (opL_sound (sem := fun l => (do pure (.value (← (if mx then Builtin.max_ else Builtin.min_) c.argTypes o.type l.toArray)))) (fun B w0 σ h w vs k v hf hR hx he => ?_) (by simp [ho]) fun ρ => ?_)
    · cases vs with
      | nil => cases he
      | cons x r =>
        obtain ⟨u, hu, e⟩ := opt_ok he
        obtain ⟨h1, h2⟩ := minmax_s (P := P) (w := w) (σ := σ) r x u h.next hu hx.1
        refine Fin.here hR h2 e ?_
        cases mx <;> simp [Builtin.max_, Builtin.min_, vals] <;> simp at h1 <;> simp [h1]
    · have e1 : c.args.map ρ = (c.args.toList.map ρ).toArray := by rw [← Array.toList_map]
      cases mx <;> simp [execOp, ho, resolve, hc, invoke, builtin, e1]
  cases b <;> simp only [cBuiltin] <;> try exact .no
  case append =>
    split
    · rename_i x y hl; exact cAppendB_s c ho hc (arr hl) rfl
    · exact .no
  case cap =>
    split
    · rename_i x hl; exact (cCapB_s c ho hc (arr hl) rfl).obs
    · exact .no
  case copy =>
    split
    · rename_i x y hl; exact cCopyB_s c ho hc (arr hl) rfl
    · exact .no
  case len =>
    split
    · rename_i x hl; exact (cLenB_s c ho hc (arr hl) rfl).obs
    · exact .no
  case max => exact mm true rfl
  case min => exact mm false rfl
end Go.Ev

/-  -/
set_option linter.unusedVariables false
namespace Go.Ev
open Go.RowKit
variable {P : Program} {N : Nat}
/-! ### keys -/
def CkS (P : Program) (d : Nat) (rec : TypeId → FV → Bool) : Prop :=
  ∀ (t : TypeId) (x : FV) (m : Nat) (σ : Ren) (em : Bool), rec t x = true → x.ok m → ∀ D, d ≤ D → ∀ w, (Instr.checkKey em D t (val σ x)).run P w = .ok () w
theorem ckFs_s {d : Nat} {rec : TypeId → FV → Bool} (IH : CkS P d rec) {xs : List FV} {m : Nat} {σ : Ren} {em : Bool} (hx : (FV.agg xs).ok m) {D : Nat} (hD : d ≤ D) (w : World) : ∀ (fs : List Field), ckFs rec P xs fs = true →
    (forIn fs PUnit.unit fun f r => do
      if f.name ≠ "_" then do Instr.checkKey em D f.type (← Go.part f.type (vals σ xs).toArray f.offset)
      pure (ForInStep.yield PUnit.unit) : Sem PUnit).run P w = .ok PUnit.unit w
  | [], h => by simp
  | f :: fs, h => by
    simp only [ckFs] at h
    rw [List.forIn_cons]
    by_cases hn : f.name = "_"
    · rw [if_pos hn] at h
      simp only [hn, ne_eq, not_true_eq_false, if_false, Sem.run_bind, Sem.run_pure, Result.andThen_ok]
      exact ckFs_s IH hx hD w fs h
    · rw [if_neg hn] at h
      cases ha : fpart P f.type xs f.offset with
      | none => rw [ha] at h; cases h
      | some a =>
        rw [ha] at h
        obtain ⟨h1, h2⟩ := and_true' h
        obtain ⟨p1, o1⟩ := fpart_s ha σ w hx
        have := IH f.type a m σ em h1 o1 D hD w
        simp only [ne_eq, hn, not_false_eq_true, if_true, Sem.run_bind, p1, Result.andThen_ok, this, Sem.run_pure]
        exact ckFs_s IH hx hD w fs h2
theorem ckIs_s {d : Nat} {rec : TypeId → FV → Bool} (IH : CkS P d rec) {xs : List FV} {m : Nat} {σ : Ren} {em : Bool} (hx : (FV.agg xs).ok m) {D : Nat} (hD : d ≤ D) (w : World) {e : TypeId} {s : Nat} (hs : sizeT P e = some s) : ∀ (is : List Nat), ckIs rec P e s xs is = true →
    (forIn is PUnit.unit fun i r => do
      Instr.checkKey em D e (← Go.part e (vals σ xs).toArray (i * (← sizeOf e)))
      pure (ForInStep.yield PUnit.unit) : Sem PUnit).run P w = .ok PUnit.unit w
  | [], h => by simp
  | i :: is, h => by
    simp only [ckIs] at h
    rw [List.forIn_cons]
    cases ha : fpart P e xs (i * s) with
    | none => rw [ha] at h; cases h
    | some a =>
      rw [ha] at h
      obtain ⟨h1, h2⟩ := and_true' h
      obtain ⟨p1, o1⟩ := fpart_s ha σ w hx
      have := IH e a m σ em h1 o1 D hD w
      simp only [Sem.run_bind, run_sizeT hs, p1, Result.andThen_ok, this, Sem.run_pure]
      exact ckIs_s IH hx hD w hs is h2
theorem ckS_s : ∀ (d : Nat), CkS P d (ckS P d)
  | 0 => fun t x m σ em h => by simp [ckS] at h
  | d + 1 => fun t x m σ em h hx D hD w => by
    obtain ⟨D, rfl⟩ : ∃ D', D = D' + 1 := ⟨D - 1, by omega⟩
    have hD' : d ≤ D := by omega
    simp only [ckS] at h
    cases hu : P.underlying t with
    | none => rw [hu] at h; cases h
    | some td =>
      rw [hu] at h
      cases td <;> simp only at h <;> try (cases h; done)
      case bool => cases x <;> simp only at h <;> try (cases h; done)
                   simp [Instr.checkKey, run_underlying hu, val]
      case int => cases x <;> simp only at h <;> try (cases h; done)
                  simp [Instr.checkKey, run_underlying hu, val]
      case string => cases x <;> simp only at h <;> try (cases h; done)
                     simp [Instr.checkKey, run_underlying hu, val]
      case array n e =>
        cases x <;> simp only at h <;> try (cases h; done)
        rename_i xs
        cases hs : sizeT P e with
        | none => rw [hs] at h; cases h
        | some s =>
          rw [hs] at h
          simp only [val, Instr.checkKey, Sem.run_bind, run_underlying hu, Result.andThen_ok]
          simp only [Std.Legacy.Range.forIn_eq_forIn_range', Std.Legacy.Range.size, Nat.sub_zero, Nat.add_one_sub_one, Nat.div_one]
          have := ckIs_s (ckS_s d) (em := em) (σ := σ) hx hD' w hs _ h
          rw [List.range_eq_range'] at this
          simp at this ⊢
          rw [this]; rfl
      case struct fs =>
        cases x <;> simp only at h <;> try (cases h; done)
        rename_i xs
        simp only [val, Instr.checkKey, Sem.run_bind, run_underlying hu, Result.andThen_ok]
        rw [← Array.forIn_toList]
        have := ckFs_s (ckS_s d) (em := em) (σ := σ) hx hD' w fs.toList h
        simp at this ⊢
        rw [this]; rfl
theorem sameC_s {σ : Ren} {a b : FV} (h : sameC a b = true) : val σ a = val σ b ∧ ∀ m, Instr.sameBits m (val σ a) (val σ b) = true := by
  cases a <;> simp only [sameC] at h <;> try (cases h; done)
  · cases b <;> simp only at h <;> try (cases h; done)
    obtain ⟨h1, h2⟩ := and_true' h
    have h1 := keq_ok h1; subst h1
    rw [ieq_eq] at h2; simp at h2; subst h2
    exact ⟨rfl, fun m => by simp [val, Instr.sameBits]⟩
  · cases b <;> simp only at h <;> try (cases h; done)
    simp at h; subst h
    exact ⟨rfl, fun m => by simp [val, Instr.sameBits]⟩
  · cases b <;> simp only at h <;> try (cases h; done)
    have h := (seq_iff _ _).1 h; subst h
    exact ⟨rfl, fun m => by simp only [val, Instr.sameBits, beq_toListBytes]; simp⟩
theorem sameCs_s {σ : Ren} : ∀ {x y : List FV}, sameCs x y = true → vals σ x = vals σ y ∧ ∀ m, ((vals σ x).zip (vals σ y)).all (fun p => Instr.sameBits m p.1 p.2) = true
  | [], y, h => by cases y <;> simp only [sameCs] at h; exact ⟨rfl, fun m => by simp [vals]⟩; cases h
  | a :: x, y, h => by
    cases y with
    | nil => simp [sameCs] at h
    | cons b y =>
      simp only [sameCs] at h
      obtain ⟨h1, h2⟩ := and_true' h
      obtain ⟨e1, e2⟩ := sameC_s (σ := σ) h1
      obtain ⟨f1, f2⟩ := sameCs_s (σ := σ) h2
      exact ⟨by simp only [vals, e1, f1], fun m => by simp only [vals, List.zip_cons_cons, List.all_cons, e2 m, f2 m, Bool.and_self]⟩
theorem sameK_s {σ : Ren} {a b : FV} (h : sameK a b = true) : val σ a = val σ b ∧ Instr.sameBits 10000 (val σ a) (val σ b) = true := by
  cases a
  case agg x =>
    simp only [sameK] at h
    cases b <;> simp only at h <;> try (cases h; done)
    obtain ⟨e1, e2⟩ := sameCs_s (σ := σ) h
    refine ⟨by simp only [val, e1], ?_⟩
    have := e2 9999
    simp only [val, Instr.sameBits]
    rw [e1] at this ⊢
    simpa using this
  all_goals (simp only [sameK] at h; obtain ⟨e1, e2⟩ := sameC_s (σ := σ) h; exact ⟨e1, e2 _⟩)
/-! ### finding a key -/
def findX (eq : FV → FV → Option Bool) (k : FV) : List (FV × FV × Nat) → Nat → Option (Option (Nat × FV × Nat))
  | [], _ => some none
  | (a, v, b) :: r, i => match eq k a with | some true => some (some (i, v, b)) | some false => findX eq k r (i + 1) | none => none
theorem findK_X {eq : FV → FV → Option Bool} {k : FV} : ∀ (es : List (FV × FV × Nat)) (i : Nat) (r : Option (FV × Nat)), findK eq k es = some r → ∃ q, findX eq k es i = some q ∧ r = q.map (·.2)
  | [], i, r, h => by simp only [findK, Option.some.injEq] at h; subst h; exact ⟨none, rfl, rfl⟩
  | (a, v, b) :: es, i, r, h => by
    simp only [findK] at h
    simp only [findX]
    cases he : eq k a with
    | none => rw [he] at h; cases h
    | some t =>
      rw [he] at h
      cases t with
      | true => simp only [Option.some.injEq] at h; subst h; exact ⟨_, rfl, rfl⟩
      | false => exact findK_X es (i + 1) r h
theorem findX_get {eq : FV → FV → Option Bool} {k : FV} : ∀ (es : List (FV × FV × Nat)) (i j : Nat) (v : FV) (b : Nat), findX eq k es i = some (some (j, v, b)) → i ≤ j ∧ ∃ a, es[j - i]? = some (a, v, b)
  | [], i, j, v, b, h => by simp [findX] at h
  | (a, v', b') :: es, i, j, v, b, h => by
    simp only [findX] at h
    cases he : eq k a with
    | none => rw [he] at h; cases h
    | some t =>
      rw [he] at h
      cases t with
      | true => simp only [Option.some.injEq, Prod.mk.injEq] at h; obtain ⟨rfl, rfl, rfl⟩ := h; exact ⟨Nat.le_refl _, a, by simp⟩
      | false =>
        obtain ⟨h1, a', h2⟩ := findX_get es (i + 1) j v b h
        exact ⟨by omega, a', by rw [show j - i = (j - (i + 1)) + 1 from by omega]; simpa using h2⟩
theorem findAsking_s {kt : TypeId} {σ : Ren} {n : Nat} {k : FV} (hk : k.ok n) (w : World) : ∀ (es : List (FV × FV × Nat)) (i : Nat) (r : Option (Nat × FV × Nat)), (∀ e ∈ es, e.1.ok n) → findX (eqS P 20 kt) k es i = some r →
    (Instr.findAsking kt (val σ k) (es.map (mE σ)) i).run P w = .ok (r.map fun q => (q.1, val σ q.2.1)) w
  | [], i, r, _, h => by simp only [findX, Option.some.injEq] at h; subst h; simp [Instr.findAsking]
  | (a, v, b) :: es, i, r, ho, h => by
    simp only [findX] at h
    cases he : eqS P 20 kt k a with
    | none => rw [he] at h; cases h
    | some t =>
      rw [he] at h
      have := eqS_s 20 kt k a t n σ he hk (ho (a, v, b) (by simp)) 10000 (by omega) w
      have h2 : (Op.equal kt (val σ k) (mE σ (a, v, b)).key).run P w = .ok t w := this
      simp only [List.map_cons, Instr.findAsking, Sem.run_bind, h2, Result.andThen_ok]
      cases t with
      | true => simp only [Option.some.injEq] at h; subst h; simp [mE]
      | false => simpa using findAsking_s hk w es (i + 1) r (fun e he => ho e (by simp [he])) h
theorem sameNow_s {kt : TypeId} {td : TypeDesc} (hu : P.underlying kt = some td) {σ : Ren} {n : Nat} {k a : FV} {b : Bool} (hk : k.ok n) (ha : a.ok n) {d : Nat} (h : eqS P (d + 1) kt k a = some b) (c : Bool) (hs : Instr.sameNow td (val σ k) (val σ a) = some c) : c = b := by
  simp only [eqS, hu] at h
  cases k
  case int j x =>
    cases td <;> simp only at h <;> try (cases h; done)
    cases a <;> simp only at h <;> try (cases h; done)
    obtain ⟨h1, h2⟩ := bif_some h
    have h1 := keq_ok h1; subst h1
    simp only [Option.some.injEq] at h2; subst h2
    simp [val, Instr.sameNow] at hs
    rw [ieq_eq, ← hs]
  case bool x =>
    cases td <;> simp only at h <;> try (cases h; done)
    cases a <;> simp only at h <;> try (cases h; done)
    simp only [Option.some.injEq] at h; subst h
    simp [val, Instr.sameNow] at hs
    rw [← hs]
  case str x =>
    cases td <;> simp only at h <;> try (cases h; done)
    cases a <;> simp only at h <;> try (cases h; done)
    simp only [Option.some.injEq] at h; subst h
    simp only [FV.ok] at hk ha
    simp only [val, Instr.sameNow, Option.some.injEq] at hs
    rw [← hs, beq_toListBytes, seq_eq hk ha]
  all_goals (cases td <;> simp only [val, Instr.sameNow, reduceCtorEq] at hs)
theorem findNow_s {kt : TypeId} {td : TypeDesc} (hu : P.underlying kt = some td) {σ : Ren} {n : Nat} {k : FV} (hk : k.ok n) : ∀ (es : List (FV × FV × Nat)) (i : Nat) (r : Option (Nat × FV × Nat)), (∀ e ∈ es, e.1.ok n) → findX (eqS P 20 kt) k es i = some r →
    ∀ q, Instr.findNow td (val σ k) (es.map (mE σ)) i = some q → q = r.map fun q => (q.1, val σ q.2.1)
  | [], i, r, _, h, q, hq => by simp only [findX, Option.some.injEq] at h; subst h; simp [Instr.findNow] at hq; simp [← hq]
  | (a, v, b) :: es, i, r, ho, h, q, hq => by
    simp only [findX] at h
    simp only [List.map_cons, Instr.findNow] at hq
    cases he : eqS P 20 kt k a with
    | none => rw [he] at h; cases h
    | some t =>
      rw [he] at h
      cases hs : Instr.sameNow td (val σ k) (mE σ (a, v, b)).key with
      | none => rw [hs] at hq; cases hq
      | some c =>
        have := sameNow_s hu hk (ho (a, v, b) (by simp)) (d := 19) he c hs
        subst this
        rw [hs] at hq
        cases c with
        | true => simp only [Option.some.injEq] at h hq; subst h; subst hq; simp [mE]
        | false => exact findNow_s hu hk es (i + 1) r (fun e he => ho e (by simp [he])) h q hq
theorem findKey_s {kt : TypeId} {σ : Ren} {n : Nat} {k : FV} (hk : k.ok n) {es : List (FV × FV × Nat)} {r : Option (Nat × FV × Nat)} (ho : ∀ e ∈ es, e.1.ok n) (h : findX (eqS P 20 kt) k es 0 = some r) {td : TypeDesc} (hu : P.underlying kt = some td) (w : World) :
    (Instr.findKey kt (val σ k) (es.map (mE σ))).run P w = .ok (r.map fun q => (q.1, val σ q.2.1)) w := by
  simp only [Instr.findKey, Sem.run_bind, run_underlying hu, Result.andThen_ok]
  cases hq : Instr.findNow td (val σ k) (es.map (mE σ)) 0 with
  | none => exact findAsking_s hk w es 0 r ho h
  | some q => rw [findNow_s hu hk es 0 r ho h q hq]; rfl
theorem ckS_under {kt : TypeId} {k : FV} {d : Nat} (h : ckS P (d + 1) kt k = true) : ∃ td, P.underlying kt = some td := by
  simp only [ckS] at h
  cases hu : P.underlying kt with
  | none => rw [hu] at h; cases h
  | some td => exact ⟨td, rfl⟩
theorem ck_under {kt : TypeId} {k : FV} (h : ck0 P kt k = true) : ∃ td, P.underlying kt = some td := ckS_under (d := 19) h
/-! ### maps -/
theorem run_getObj {w : World} {r : Nat} {o : Obj} (h : w.heap[r]? = some o) (hc : ∀ c t f, o ≠ .cells c t f) : (getObj r).run P w = .ok o w := by
  simp only [getObj, Sem.run, h]
theorem run_setObj {w : World} {r : Nat} {o o' : Obj} (h : w.heap[r]? = some o) (hc : ∀ c t f, o ≠ .cells c t f) : (setObj r o').run P w = .ok () { w with heap := w.heap.setIfInBounds r o' } := by
  simp only [setObj, Sem.run, h]
theorem fLookup_s {t kt e : TypeId} {z : FV} {b : Bool} (hu : P.underlying t = some (.map kt e)) (hz : zeroT P e = some z) : H2P P (fLookup P kt z b) fun m k => (do pure (.value (← Instr.lookup t m k b))) := fun B w0 σ h w x y k v hf hR hx hy he => by
  obtain ⟨c1, e1⟩ := iff_ok he
  obtain ⟨td, hkt⟩ := ck_under c1
  have hck := fun em w => ckS_s 20 kt y h.next σ em c1 hy 10000 (by omega) w
  obtain ⟨V, hV, hz'⟩ := zero_of hz
  cases x <;> try (cases e1; done)
  case nilm =>
    have hfk := findKey_s (P := P) (σ := σ) (kt := kt) hy (es := []) (r := none) (by simp) rfl hkt w
    simp only [List.map_nil, Option.map_none] at hfk
    refine FinP.here hR (u := bif b then .tup [z, .bool false] else z) ?_ e1 ?_
    · cases b <;> simp [FV.ok, oks, (hz' h.next σ).2]
    · cases b <;> simp [Instr.lookup, run_underlying hu, val, hck, hfk, hV, vals, (hz' h.next σ).1]
  case map i =>
    obtain ⟨es, c, hi, e2⟩ := map_ok' e1
    obtain ⟨r, hr, e3⟩ := opt_ok e2
    obtain ⟨o, ho, hb, hok⟩ := hR.blk i _ hi (by simp)
    subst hb
    obtain ⟨q, hq, rfl⟩ := findK_X es 0 r hr
    have hfk := findKey_s (P := P) (σ := σ) hy (fun e he => (hok e he).1) hq hkt w
    have hg := run_getObj (P := P) ho (by simp)
    have hpre : ∀ F : Option (Nat × Value) → Sem Value, True := fun _ => trivial
    cases q with
    | none =>
      simp only [Option.map_none] at e3 hfk
      refine FinP.here hR (u := bif b then .tup [z, .bool false] else z) ?_ e3 ?_
      · cases b <;> simp [FV.ok, oks, (hz' h.next σ).2]
      · cases b <;> simp [Instr.lookup, run_underlying hu, val, hg, hck, hfk, hV, vals, (hz' h.next σ).1]
    | some q =>
      obtain ⟨j, u, bb⟩ := q
      simp only [Option.map_some] at e3 hfk
      obtain ⟨_, a, ha⟩ := findX_get es 0 j u bb hq
      have hu' := (hok _ (List.mem_of_getElem? ha)).2
      refine FinP.here hR (u := bif b then .tup [u, .bool true] else u) ?_ e3 ?_
      · cases b
        · exact hu'
        · simp only [cond_true, FV.ok, oks]; exact ⟨hu', trivial, trivial⟩
      · cases b <;> simp [Instr.lookup, run_underlying hu, val, hg, hck, hfk, vals]
theorem cLookup_s {o : Oper} {t : TypeId} {m k : Operand} {b : Bool} (ho : o.op = .lookup t m k b) : PBS P N o (cLookup P N t m k b) := by
  unfold cLookup
  cases hu : P.underlying t with
  | none => exact .no
  | some d =>
    cases d <;> simp only <;> try exact .no
    rename_i kt e
    cases hz : zeroT P e with
    | none => exact .no
    | some z => exact (op2_pure (fLookup_s hu hz) (by simp [ho]) fun ρ => by simp [execOp, ho])
theorem putK_s {eq : FV → FV → Option Bool} {k : FV} {x : Option FV} {z : FV} {ck : Nat} : ∀ (es : List (FV × FV × Nat)) (i : Nat) (l : List (FV × FV × Nat)) (v : FV) (b c' : Nat), putK eq k x z ck es = some (l, v, b, c') →
    (∃ j a, findX eq k es i = some (some (i + j, v, b)) ∧ es[j]? = some (a, v, b) ∧ sameK a k = true ∧ l = es.set j (k, x.getD v, b) ∧ c' = ck) ∨
    (findX eq k es i = some none ∧ l = es ++ [(k, x.getD z, ck)] ∧ v = z ∧ b = ck ∧ c' = ck + 1)
  | [], i, l, v, b, c', h => by
    simp only [putK, Option.some.injEq, Prod.mk.injEq] at h
    obtain ⟨rfl, rfl, rfl, rfl⟩ := h
    exact .inr ⟨rfl, rfl, rfl, rfl, rfl⟩
  | (a, u, q) :: es, i, l, v, b, c', h => by
    simp only [putK] at h
    simp only [findX]
    cases he : eq k a with
    | none => rw [he] at h; cases h
    | some t =>
      rw [he] at h
      cases t with
      | true =>
        simp only at h
        obtain ⟨h1, h2⟩ := bif_some h
        simp only [Option.some.injEq, Prod.mk.injEq] at h2
        obtain ⟨rfl, rfl, rfl, rfl⟩ := h2
        exact .inl ⟨0, a, rfl, rfl, h1, rfl, rfl⟩
      | false =>
        simp only at h
        cases hp : putK eq k x z ck es with
        | none => rw [hp] at h; cases h
        | some p =>
          obtain ⟨l', v', b', c''⟩ := p
          rw [hp] at h
          simp only [Option.some.injEq, Prod.mk.injEq] at h
          obtain ⟨rfl, rfl, rfl, rfl⟩ := h
          rcases putK_s es (i + 1) l' v' b' c'' hp with ⟨j, a', f1, f2, f3, f4, f5⟩ | ⟨f1, f2, f3, f4, f5⟩
          · exact .inl ⟨j + 1, a', by rw [f1, show i + 1 + j = i + (j + 1) from by omega], by simpa using f2, f3, by rw [f4]; rfl, f5⟩
          · exact .inr ⟨f1, by rw [f2]; rfl, f3, f4, f5⟩
theorem modify_map {σ : Ren} {es : List (FV × FV × Nat)} {j : Nat} {f : MapEntry → MapEntry} {e e' : FV × FV × Nat} (h : es[j]? = some e) (hf : f (mE σ e) = mE σ e') : (es.map (mE σ)).toArray.modify j f = ((es.set j e').map (mE σ)).toArray := by
  apply Array.ext_getElem?
  intro k
  rw [Array.getElem?_modify]
  simp only [List.getElem?_toArray, List.getElem?_map, List.map_set]
  by_cases hk : j = k
  · subst hk
    have hlt := (List.getElem?_eq_some_iff.1 h).1
    rw [if_pos rfl, h, List.getElem?_set_self (by simpa using hlt)]
    simp [hf]
  · rw [if_neg hk, List.getElem?_set_ne hk]; simp
theorem oks_set {n : Nat} {es : List (FV × FV × Nat)} {j : Nat} {e' : FV × FV × Nat} (h : ∀ e ∈ es, e.1.ok n ∧ e.2.1.ok n) (h' : e'.1.ok n ∧ e'.2.1.ok n) : ∀ e ∈ es.set j e', e.1.ok n ∧ e.2.1.ok n := fun e he => by
  rcases List.mem_or_eq_of_mem_set he with he | he
  · exact h e he
  · subst he; exact h'
theorem fMapUpdate_s {t kt e : TypeId} (hu : P.underlying t = some (.map kt e)) : H3S P (fMapUpdate P kt) fun m k x => (do Instr.mapUpdate t m k x; pure .skip) := fun B w0 σ h w x y zz k v hf hR hx hy hzz he => by
  obtain ⟨c1, e1⟩ := iff_ok he
  obtain ⟨td, hkt⟩ := ck_under c1
  have hck := fun em w => ckS_s 20 kt y h.next σ em c1 hy 10000 (by omega) w
  cases x <;> try (cases e1; done)
  rename_i i
  obtain ⟨es, c, hi, e2⟩ := map_ok' e1
  obtain ⟨c2, e3⟩ := iff_ok e2
  have c2 := ble c2
  obtain ⟨p, hp, e4⟩ := opt_ok e3
  obtain ⟨l, u, b, c'⟩ := p
  obtain ⟨o, ho, hb, hok⟩ := hR.blk i _ hi (by simp)
  subst hb
  have hg := run_getObj (P := P) ho (by simp)
  rcases putK_s es 0 l u b c' hp with ⟨j, a, f1, f2, f3, f4, f5⟩ | ⟨f1, f2, f3, f4, f5⟩
  · have hfk := findKey_s (P := P) (σ := σ) hy (fun e he => (hok e he).1) f1 hkt w
    simp only [Nat.zero_add, Option.map_some] at hfk
    subst f4; subst f5
    obtain ⟨g1, g2⟩ := sameK_s (σ := σ) f3
    have hj := (List.getElem?_eq_some_iff.1 f2).1
    have hm := modify_map (σ := σ) (f := fun e => { e with key := val σ y, val := val σ zz }) (e' := (y, zz, b)) f2 rfl
    have hso := run_setObj (P := P) (o' := .map ((es.set j (y, zz, b)).map (mE σ)).toArray c') ho (by simp)
    refine Fin.put hR hi (by simp [Wr]) c2 (upd_setObj ho) (b := .map (es.set j (y, zz, b)) c') ⟨rfl, oks_set hok ⟨hy, hzz⟩⟩ (by simp [FV.ok, oks]) e4 (.inr ⟨?_, rfl⟩)
    have hkey : (Instr.keyThatStays ((((es.map (mE σ)).toArray[j]?).map (·.key)).getD (val σ y)) (val σ y)).run P w = .ok (val σ y) w := by
      have : (((es.map (mE σ)).toArray[j]?).map (·.key)).getD (val σ y) = val σ a := by simp [f2, mE]
      rw [this]
      simp [Instr.keyThatStays, g2]
    simp only [val, Instr.mapUpdate, Sem.run_bind, run_underlying hu, Result.andThen_ok, hg, hck, hfk, List.toList_toArray]
    simp only [hkey, Result.andThen_ok, hm, hso, Sem.run_pure]
  · have hfk := findKey_s (P := P) (σ := σ) hy (fun e he => (hok e he).1) f1 hkt w
    simp only [Option.map_none] at hfk
    subst f2; subst f5
    have hso := run_setObj (P := P) (o' := .map ((es ++ [(y, zz, c)]).map (mE σ)).toArray (c + 1)) ho (by simp)
    refine Fin.put hR hi (by simp [Wr]) c2 (upd_setObj ho) (b := .map (es ++ [(y, zz, c)]) (c + 1)) ⟨rfl, fun e he => ?_⟩ (by simp [FV.ok, oks]) e4 (.inr ⟨?_, rfl⟩)
    · rcases List.mem_append.1 he with he | he
      · exact hok e he
      · simp at he; subst he; exact ⟨hy, hzz⟩
    · have hpush : (es.map (mE σ)).toArray.push { key := val σ y, val := val σ zz, born := c } = ((es ++ [(y, zz, c)]).map (mE σ)).toArray := by simp [mE]
      simp only [val, Instr.mapUpdate, Sem.run_bind, run_underlying hu, Result.andThen_ok, hg, hck, hfk, List.toList_toArray, hpush, hso, Sem.run_pure]
theorem cMapUpdate_s {o : Oper} {t : TypeId} {m k x : Operand} (ho : o.op = .mapUpdate t m k x) : OBS P N o (cMapUpdate P N t m k x) := by
  unfold cMapUpdate
  cases hu : P.underlying t with
  | none => exact .no
  | some d =>
    cases d <;> simp only <;> try exact .no
    exact .mk (op3_sound (fMapUpdate_s hu) (by simp [ho]) fun ρ => by simp [execOp, ho])
theorem cInsert_s {o : Oper} {t : TypeId} {m k x : Operand} (ho : o.op = .insert t m k x) : OBS P N o (cInsert P N t m k x) := by
  unfold cInsert
  cases hu : P.underlying t with
  | none => exact .no
  | some d =>
    cases d <;> simp only <;> try exact .no
    exact .mk (op3_sound (fMapUpdate_s hu) (by simp [ho]) fun ρ => by simp [execOp, ho])
theorem fMapEntry_s {t kt e : TypeId} {z : FV} (hu : P.underlying t = some (.map kt e)) (hz : zeroT P e = some z) : H2S P (fMapEntry P kt z) fun m k => (do pure (.value (← Instr.mapEntry t m k))) := fun B w0 σ h w x y k v hf hR hx hy he => by
  obtain ⟨c1, e1⟩ := iff_ok he
  obtain ⟨td, hkt⟩ := ck_under c1
  have hck := fun em w => ckS_s 20 kt y h.next σ em c1 hy 10000 (by omega) w
  obtain ⟨V, hV, hz'⟩ := zero_of hz
  cases x <;> try (cases e1; done)
  rename_i i
  obtain ⟨es, c, hi, e2⟩ := map_ok' e1
  obtain ⟨c2, e3⟩ := iff_ok e2
  have c2 := ble c2
  obtain ⟨p, hp, e4⟩ := opt_ok e3
  obtain ⟨l, u, b, c'⟩ := p
  obtain ⟨o, ho, hb, hok⟩ := hR.blk i _ hi (by simp)
  subst hb
  have hg := run_getObj (P := P) ho (by simp)
  rcases putK_s es 0 l u b c' hp with ⟨j, a, f1, f2, f3, f4, f5⟩ | ⟨f1, f2, f3, f4, f5⟩
  · have hfk := findKey_s (P := P) (σ := σ) hy (fun e he => (hok e he).1) f1 hkt w
    simp only [Nat.zero_add, Option.map_some] at hfk
    subst f4; subst f5
    have huok := (hok _ (List.mem_of_getElem? f2)).2
    obtain ⟨g1, g2⟩ := sameK_s (σ := σ) f3
    have hm := modify_map (σ := σ) (f := fun e => { e with key := val σ y }) (e' := (y, u, b)) f2 rfl
    have hso := run_setObj (P := P) (o' := .map ((es.set j (y, u, b)).map (mE σ)).toArray c') ho (by simp)
    refine Fin.put hR hi (by simp [Wr]) c2 (upd_setObj ho) (b := .map (es.set j (y, u, b)) c') ⟨rfl, oks_set hok ⟨hy, huok⟩⟩ (by simp only [FV.ok, oks]; exact ⟨huok, trivial, trivial⟩) e4 (.inl ?_)
    have hkey : (Instr.keyThatStays ((((es.map (mE σ)).toArray[j]?).map (·.key)).getD (val σ y)) (val σ y)).run P w = .ok (val σ y) w := by
      have : (((es.map (mE σ)).toArray[j]?).map (·.key)).getD (val σ y) = val σ a := by simp [f2, mE]
      rw [this]
      simp [Instr.keyThatStays, g2]
    have hborn : (((es.map (mE σ)).toArray[j]?).map (fun x : MapEntry => (x.born : Int))).getD 0 = (b : Int) := by simp [f2, mE]
    simp only [val, Instr.mapEntry, Sem.run_bind, run_underlying hu, Result.andThen_ok, hg, hck, hfk, List.toList_toArray]
    simp only [hkey, Result.andThen_ok, hm, hso, Sem.run_pure, vals, val, goInt]
    have hborn2 : (((((es.map (mE σ)).toArray[j]?).map (·.born)).getD 0 : Nat) : Int) = Int.ofNat b := by simp [f2, mE]
    first | rw [hborn2] | (simp only [hborn]; rfl)
  · have hfk := findKey_s (P := P) (σ := σ) hy (fun e he => (hok e he).1) f1 hkt w
    simp only [Option.map_none] at hfk
    subst f2; subst f3; subst f4; subst f5
    have hzok := (hz' h.next σ).2
    have hso := run_setObj (P := P) (o' := .map ((es ++ [(y, u, b)]).map (mE σ)).toArray (b + 1)) ho (by simp)
    refine Fin.put hR hi (by simp [Wr]) c2 (upd_setObj ho) (b := .map (es ++ [(y, u, b)]) (b + 1)) ⟨rfl, fun e he => ?_⟩ (by simp only [FV.ok, oks]; exact ⟨hzok, trivial, trivial⟩) e4 (.inl ?_)
    · rcases List.mem_append.1 he with he | he
      · exact hok e he
      · simp at he; subst he; exact ⟨hy, hzok⟩
    · have hpush : (es.map (mE σ)).toArray.push { key := val σ y, val := V, born := b } = ((es ++ [(y, u, b)]).map (mE σ)).toArray := by simp [mE, (hz' h.next σ).1]
      simp only [val, Instr.mapEntry, Sem.run_bind, run_underlying hu, Result.andThen_ok, hg, hck, hfk, List.toList_toArray, hV, hpush, hso, Sem.run_pure, vals, goInt, (hz' h.next σ).1]
      rfl
theorem cMapEntry_s {o : Oper} {t : TypeId} {m k : Operand} (ho : o.op = .mapEntry t m k) : OBS P N o (cMapEntry P N t m k) := by
  unfold cMapEntry
  cases hu : P.underlying t with
  | none => exact .no
  | some d =>
    cases d <;> simp only <;> try exact .no
    rename_i kt e
    cases hz : zeroT P e with
    | none => exact .no
    | some z => exact .mk (op2_sound (fMapEntry_s hu hz) (by simp [ho]) fun ρ => by simp [execOp, ho])
end Go.Ev

/-  -/
set_option linter.unusedVariables false
namespace Go.Ev
open Go.RowKit
variable {P : Program} {N : Nat}
theorem setB_s {σ : Ren} {b : Nat} {x : FV} : ∀ (es l : List (FV × FV × Nat)), setB b x es = some l → ∃ j k v, es[j]? = some (k, v, b) ∧ l = es.set j (k, x, b) ∧ (es.map (mE σ)).findIdx? (fun e => (e.born : Int) == (b : Int)) = some j
  | [], l, h => by cases h
  | (k, v, c) :: es, l, h => by
    simp only [setB] at h
    cases hc : Nat.beq c b with
    | true =>
      rw [hc] at h; simp only [cond_true, Option.some.injEq] at h; subst h
      have := beq hc; subst this
      exact ⟨0, k, v, rfl, rfl, by simp [mE, List.findIdx?_cons]⟩
    | false =>
      rw [hc] at h; simp only [cond_false] at h
      have hne : c ≠ b := fun e => by rw [e, Nat.beq_refl] at hc; cases hc
      cases hs : setB b x es with
      | none => rw [hs] at h; cases h
      | some l' =>
        rw [hs] at h; simp only [Option.some.injEq] at h; subst h
        obtain ⟨j, k', v', h1, h2, h3⟩ := setB_s (σ := σ) es l' hs
        refine ⟨j + 1, k', v', by simpa using h1, by rw [h2]; rfl, ?_⟩
        have : ((c : Int) == (b : Int)) = false := by rw [beq_eq_false_iff_ne]; omega
        simp only [List.map_cons, List.findIdx?_cons, mE, this]
        rw [h3]; simp
theorem fEntryStore_s (t : TypeId) : H3S P fEntryStore fun m s x => (do Instr.entryStore t m s x; pure .skip) := fun B w0 σ h w x y zz k v hf hR hx hy hzz he => by
  cases x <;> try (cases he; done)
  rename_i i
  obtain ⟨es, c, hi, e2⟩ := map_ok' he
  obtain ⟨c2, e3⟩ := iff_ok e2
  have c2 := ble c2
  obtain ⟨j0, b, rfl, e4⟩ := asNat_ok e3
  obtain ⟨l, hl, e5⟩ := opt_ok e4
  obtain ⟨o, ho, hb, hok⟩ := hR.blk i _ hi (by simp)
  subst hb
  have hg := run_getObj (P := P) ho (by simp)
  obtain ⟨j, kk, vv, f1, f2, f3⟩ := setB_s (σ := σ) es l hl
  subst f2
  have hm := modify_map (σ := σ) (f := fun e => { e with val := val σ zz }) (e' := (kk, zz, b)) f1 rfl
  have hso := run_setObj (P := P) (o' := .map ((es.set j (kk, zz, b)).map (mE σ)).toArray c) ho (by simp)
  have hkk := hok _ (List.mem_of_getElem? f1)
  refine Fin.put hR hi (by simp [Wr]) c2 (upd_setObj ho) (b := .map (es.set j (kk, zz, b)) c) ⟨rfl, oks_set hok ⟨hkk.1, hzz⟩⟩ (by simp [FV.ok, oks]) e5 (.inr ⟨?_, rfl⟩)
  have f4 : (es.map (mE σ)).toArray.findIdx? (fun e => (e.born : Int) == Int.ofNat b) = some j := by simpa using f3
  simp only [val, Instr.entryStore, Sem.run_bind, hg, Result.andThen_ok, asInt, asIntOf, Sem.run_pure, f4, hm, hso]
theorem cEntryStore_s {o : Oper} {t : TypeId} {m s x : Operand} (ho : o.op = .entryStore t m s x) : OBS P N o (cEntryStore P N m s x) :=
  .mk (op3_sound (fEntryStore_s t) (by simp [ho]) fun ρ => by simp [execOp, ho])
/-! ### ranging over a string -/
theorem cRangeI_s {o : Oper} {t : TypeId} {x : Operand} (ho : o.op = .range t x) : OBS P N o (cRangeI P N t x) := by
  unfold cRangeI
  split
  · rename_i hu
    refine .mk (op1_sound (sem := fun x => (do pure (.value (← Instr.range t x)))) (fun B w0 σ h w x k v hf hR hx he => ?_) (by simp [ho]) fun ρ => by simp [execOp, ho])
    cases x <;> try (cases he; done)
    rename_i s
    simp only [FV.ok] at hx
    refine Fin.new (σ' := σ.add h.next w.heap.size 0 0) (o := .stringIter (bytesOf s) 0) (b := .siter s 0) hR (Ren.add_ext _ _ _ _ _) (Ren.add_blk _ _ _ _ _) ⟨[], rfl, rfl, Ren.add_base _ _ _ _ _, hx⟩ (by simp [FV.ok]) he ?_
    simp [Instr.range, run_underlying hu, val]
  · exact .no
theorem decode_ascii (l r : List Nat) (b : Nat) (hb : b ≤ 127) : Utf8.decode (bytesOf (l ++ b :: r)) l.length = (b, 1) := by
  have hg : ((bytesOf (l ++ b :: r)).get! (l.length + 0)).toNat = b := by
    have : (bytesOf (l ++ b :: r)).get! (l.length + 0) = b.toUInt8 := by
      simp [bytesOf, ByteArray.get!]
    rw [this]; simp; omega
  unfold Utf8.decode
  simp only [hg]
  rw [if_pos (by omega)]
theorem cNextI_s {o : Oper} {x : Operand} (ho : o.op = .next x true) : OBS P N o (cNextI P N x) := by
  refine .mk (op1_sound (sem := fun x => (do pure (.value (← Instr.next x true o.type)))) (fun B w0 σ h w x k v hf hR hx he => ?_) (by simp [ho]) fun ρ => by simp [execOp, ho])
  obtain ⟨i, off, rfl, e1⟩ := asPtr_ok he
  obtain ⟨c1, e2⟩ := iff_ok e1
  have c1 := beq c1; subst c1
  cases hg : h.get i with
  | none => rw [hg] at e2; cases e2
  | some b =>
    rw [hg] at e2
    cases b <;> try (cases e2; done)
    rename_i s p
    simp only at e2
    obtain ⟨ob, hob, pre, rfl, h2, h3, h4⟩ := hR.blk i _ hg (by simp)
    have hgo := run_getObj (P := P) hob (by simp)
    cases s with
    | nil =>
      simp only at e2
      refine Fin.here hR (by simp [FV.ok, oks]) e2 ?_
      simp only [val, h3, Nat.add_zero, Instr.next, Sem.run_bind, hgo, Result.andThen_ok, vals]
      simp [← h2]
    | cons b l =>
      simp only at e2
      obtain ⟨c2, e3⟩ := iff_ok e2
      obtain ⟨c2, c3⟩ := and_true' c2
      have c2 := ble c2; have c3 := ble c3
      have hso := run_setObj (P := P) (o' := .stringIter (bytesOf (pre ++ b :: l)) (p + 1)) hob (by simp)
      refine Fin.put hR hg (by simp [Wr]) c3 (upd_setObj (o' := .stringIter (bytesOf (pre ++ b :: l)) (p + 1)) hob) (b := .siter l (p + 1)) ⟨pre ++ [b], by simp, by simp [h2], h3, by simpa using h4⟩ (by simp [FV.ok, oks]) e3 (.inl ?_)
      have hd := decode_ascii pre l b c2
      rw [h2] at hd
      have hlt : p < (bytesOf (pre ++ b :: l)).size := by simp; omega
      simp only [val, h3, Nat.add_zero, Instr.next, Sem.run_bind, hgo, Result.andThen_ok, vals, if_pos hlt, hd, hso, Sem.run_pure, goInt]
      rfl
/-! ### calls -/
theorem callsIn_FW {r : Option Nat} {n : Nat} {f : FuncId} {args : Array Value} {w : World} {R : Ending → World → Prop} (h : Calls P f args w R) : CallsIn (FW r) n P f args w R := by
  have h1 := (callsIn_wide (n := n)).2 h
  cases r with
  | none => exact h1
  | some l => exact h1
theorem cCall_s {o : Oper} {c : Call} (ho : o.op = .call c) : OBS P N o (cCall P N c) := by
  unfold cCall
  cases hc : c.callee with
  | invoke r m => exact .no
  | builtin b => exact cBuiltin_s c b ho hc
  | value f =>
    refine .mk fun B w0 σ ts h a w call k v hf hC hR hT he => ?_
    obtain ⟨u, e1, e2, e3⟩ := ev_sound hT he
    obtain ⟨us, f1, f2, f3⟩ := evL_sound hT c.args.toList e1
    have eargs : c.args.map a.eval = (vals σ us).toArray := by rw [← f2, ← Array.toList_map]
    cases u <;> try (cases f1; done)
    case fn g first cap =>
      simp only [FV.ok] at e3
      have hok : oks h.next (first ++ (us ++ cap)) := oks_iff.2 fun v hv => by
        rcases List.mem_append.1 hv with hv | hv
        · exact oks_iff.1 e3.1 v hv
        · rcases List.mem_append.1 hv with hv | hv
          · exact oks_iff.1 f3 v hv
          · exact oks_iff.1 e3.2 v hv
      have f1 : call (.fn g) (appK first (appK us cap)) h k = .ok v hf := f1
      rw [appK_eq, appK_eq] at f1
      obtain ⟨g4, g5⟩ := hC (.fn g) (first ++ (us ++ cap)) k v hf hR hok f1
      refine fun rd n nx Q hn => ⟨fun _ _ => trivial, ?_⟩
      rw [Oper.semAt_eq _ _ _ (by simp [ho])]
      obtain ⟨fn, hfn, hb, hname⟩ : ∃ fn, P.funcs[g]? = some fn ∧ fn.body.isSome = true ∧ (fn.name == "runtime.NumGoroutine") = false := by
        unfold okF at g4
        cases hfn : P.funcs[g]? with
        | none => rw [hfn] at g4; cases g4
        | some fn =>
          rw [hfn] at g4
          obtain ⟨a1, a2⟩ := and_true' g4
          exact ⟨fn, rfl, a1, by simpa using a2⟩
      have hbn : ¬ fn.body = none := by cases hq : fn.body <;> simp [hq] at hb ⊢
      have hname' : ¬ fn.name = "runtime.NumGoroutine" := by simpa using hname
      have hrun : (execOp a.eval o).run P w = .ok (.enter g (vals σ (first ++ (us ++ cap))).toArray) w := by
        simp [execOp, ho, resolve, hc, e2, val, Deferred.ofValue, invoke, callFunc, eargs, hfn, hname', hbn, vals_eq]
      rw [hrun]
      refine ⟨fun h => (by cases h), callsIn_FW (Calls.mono g5 fun e w' he => ?_)⟩
      obtain ⟨r, h1, σ', z1, z2, z3, q1, q2, q3, rfl⟩ := he
      exact hn r h1 σ' w' z1 z2 z3 q1 q2 q3
    case yl l =>
      obtain ⟨f', tmps, aa, bb, g5, g6⟩ := hC (.yl l) us k v hf hR f3 f1
      refine fun rd n nx Q hn => ⟨fun _ _ => trivial, ?_⟩
      rw [Oper.semAt_eq _ _ _ (by simp [ho])]
      have hrun : (execOp a.eval o).run P w = .ok (.round (σ.blk l) f' tmps aa bb) w := by
        simp [execOp, ho, resolve, hc, e2, val, Deferred.ofValue, invoke, eargs, g5]
      rw [hrun]
      refine ⟨fun h => (by cases h), RoundIn.mono (g6 rd (n - 1)) fun e w' he => ?_⟩
      obtain ⟨r, h1, σ', z1, z2, z3, q1, q2, q3, rfl⟩ := he
      exact hn r h1 σ' w' z1 z2 z3 q1 q2 q3
end Go.Ev

/-  -/
set_option linter.unusedVariables false
namespace Go.Ev
open Go.RowKit
variable {P : Program} {N : Nat}
theorem cOp_s (o : Oper) : OBS P N o (cOp P N o) := by
  unfold cOp
  split
  · rename_i h; exact (cMove_s h).obs
  · rename_i h; exact (cAssign_s h).obs
  · rename_i h; exact (cPick_s h).obs
  · rename_i h; exact cAlloc_s h
  · rename_i h; exact cBox_s h
  · rename_i h; exact (cBuild_s h).obs
  · rename_i h; exact cBuildSlice_s h
  · rename_i h; exact (cLoad_s h).obs
  · rename_i h; exact cStore_s h
  · rename_i h; exact (cNilCheck_s h).obs
  · rename_i h; exact (cBinOp_s h).obs
  · rename_i h; exact (cUnOp_s h).obs
  · rename_i h; exact cConvert_s h
  · rename_i h; exact (cMakeFunc_s h).obs
  · rename_i h; exact cMakeMap_s h
  · rename_i h; exact cMakeSlice_s h
  · rename_i h; exact (cSlice_s h).obs
  · rename_i h; exact cSlice2_s h
  · rename_i h; exact (cFieldAddr_s h).obs
  · rename_i h; exact (cField_s h).obs
  · rename_i h; exact (cIndexAddr_s h).obs
  · rename_i h; exact (cIndex_s h).obs
  · rename_i h; exact (cLookup_s h).obs
  · rename_i h; exact cMapUpdate_s h
  · rename_i h; exact cInsert_s h
  · rename_i h; exact cMapEntry_s h
  · rename_i h; exact cEntryStore_s h
  · rename_i h; exact cRangeI_s h
  · rename_i h; exact cNextI_s h
  · rename_i h; exact (cExtract_s h).obs
  · rename_i h; exact cCall_s h
  · exact .no
end Go.Ev

/-  -/
set_option linter.unusedVariables false
namespace Go.Ev
open Go.RowKit
variable {P : Program} {N : Nat}
/-! ### temporaries -/
theorem TR.put {σ : Ren} {n : Nat} {ts : T3} {a : Act} (h : TR σ n N ts a.tmps) {d : Option Tmp} {s : Option FV → T3 → T3} (hd : cD N d = .mk s) {u : FV} (hu : u.ok n) : TR σ n N (s (some u) ts) (a.put d (val σ u)).tmps := by
  cases d with
  | none =>
    simp only [cD, SB.mk.injEq] at hd
    subst hd; exact h
  | some d =>
    simp only [cD] at hd
    rw [cP_eq] at hd
    by_cases hc : d + 1 ≤ N ∧ d ≤ 215
    · rw [if_pos hc] at hd
      simp only [SB.mk.injEq] at hd
      subst hd
      refine ⟨by simp [Act.put, h.1], fun t v h1 h2 h3 => ?_⟩
      by_cases ht : t = d
      · subst ht
        rw [getP_same] at h3; cases h3
        refine ⟨?_, hu⟩
        simp only [Act.put, Array.getElem?_setIfInBounds_self]
        rw [if_pos (by rw [h.1]; omega)]
      · rw [getP_other h2 hc.2 ht] at h3
        obtain ⟨e1, e2⟩ := h.2 t v h1 h2 h3
        refine ⟨?_, e2⟩
        simp only [Act.put]
        rw [Array.getElem?_setIfInBounds_ne (Ne.symm ht)]; exact e1
    · rw [if_neg hc] at hd; cases hd
def Nx (P : Program) (B : Nat) (w0 : World) (σ : Ren) (h : FH) (N : Nat) (a : Act) (good : T3 → FH → Prop) (G : Act → World → Prop) : Prop :=
  ∀ ts' h' σ' a' w', good ts' h' → h'.ro = h.ro → h.next ≤ h'.next → Ext h.next σ σ' → HR P B w0 σ' h' w' → TR σ' h'.next N ts' a'.tmps → a'.defers = a.defers → G a' w'
theorem Act.put_def (a : Act) (d : Option Tmp) (v : Value) : (a.put d v).defers = a.defers := by cases d <;> rfl
/-! ### regions in the order of the text -/
theorem region_s {ops : Array Oper} {call : CallT} (hC : CallS P call) (rest : List Nat) : ∀ (l : List Oper) (i : Nat) (q : RT), (∀ j o, l[j]? = some o → ops[i + j]? = some o) → cR P N ops l = .mk q →
    ∀ ⦃B : Nat⦄ ⦃w0 : World⦄ ⦃σ : Ren⦄ ⦃ts : T3⦄ ⦃h : FH⦄ ⦃a : Act⦄ ⦃w : World⦄ (k : KR) (v : FV) (hf : FH), HR P B w0 σ h w → TR σ h.next N ts a.tmps → q call ts h k = .ok v hf →
    ∀ r n Q, Nx P B w0 σ h N a (fun ts' h' => k ts' h' = .ok v hf) (wpOpsIn (FW r) n P ops Q rest) → wpOpsIn (FW r) n P ops Q (List.range' i l.length ++ rest) a w
  | [], i, q, hl, hq, B, w0, σ, ts, h, a, w, k, v, hf, hR, hT, he, r, n, Q, hn => by
    simp only [cR, RB.mk.injEq] at hq
    subst hq
    exact hn ts h σ a w he rfl (Nat.le_refl _) (Ext.refl _ _) hR hT rfl
  | o :: l, i, q, hl, hq, B, w0, σ, ts, h, a, w, k, v, hf, hR, hT, he, r, n, Q, hn => by
    have ho : ops[i]? = some o := hl 0 o rfl
    have hl' : ∀ j o, l[j]? = some o → ops[i + 1 + j]? = some o := fun j o h => by have := hl (j + 1) o (by simpa using h); simpa [Nat.add_assoc, Nat.add_comm 1 j] using this
    obtain ⟨q', hq'⟩ : ∃ q', cR P N ops l = .mk q' := by cases h : cR P N ops l with | mk q' => exact ⟨q', rfl⟩
    have IH := region_s hC rest l (i + 1) q' hl' hq'
    simp only [cR] at hq
    obtain ⟨f, hfo⟩ : ∃ f, cOp P N o = .mk f := by cases h : cOp P N o with | mk f => exact ⟨f, rfl⟩
    have hop := cOp_s (P := P) (N := N) o f hfo
    simp only [List.length_cons, List.range'_succ, List.cons_append, wpOpsIn, ho]
    cases hs : cD N o.dst with
    | no =>
      rw [hfo, hs] at hq; simp only [cStep, RB.mk.injEq] at hq; subst hq; cases he
    | mk s =>
      rw [hfo, hs, hq'] at hq
      have skip : ∀ {B : Nat} {w0 : World} {σ : Ren} {ts : T3} {h : FH} {a : Act} {w : World} (k : KR) (v : FV) (hf : FH), HR P B w0 σ h w → TR σ h.next N ts a.tmps → next call s (.mk q') k ts (.tup []) h = .ok v hf →
          ∀ r n Q, Nx P B w0 σ h N a (fun ts' h' => k ts' h' = .ok v hf) (wpOpsIn (FW r) n P ops Q rest) → wpOpsIn (FW r) n P ops Q (List.range' (i + 1) l.length ++ rest) (a.put o.dst undef) w := by
        intro B w0 σ ts h a w k v hf hR hT he r n Q hn
        refine IH (a := a.put o.dst undef) (w := w) k v hf hR (hT.put hs (u := .tup []) (by simp [FV.ok, oks])) he r n Q ?_
        intro ts' h' σ' a' w' g1 g2 g3 g4 g5 g6 g7
        exact hn ts' h' σ' a' w' g1 g2 g3 g4 g5 g6 (g7.trans (Act.put_def _ _ _))
      have run : ∀ {B : Nat} {w0 : World} {σ : Ren} {ts : T3} {h : FH} {a : Act} {w : World} (k : KR) (v : FV) (hf : FH), HR P B w0 σ h w → TR σ h.next N ts a.tmps → f call ts h (next call s (.mk q') k ts) = .ok v hf →
          ∀ r n Q, Nx P B w0 σ h N a (fun ts' h' => k ts' h' = .ok v hf) (wpOpsIn (FW r) n P ops Q rest) → o.wpIn (FW r) n P a w (wpOpsIn (FW r) n P ops Q (List.range' (i + 1) l.length ++ rest)) Q := by
        intro B w0 σ ts h a w k v hf hR hT he r n Q hn
        refine hop call (next call s (.mk q') k ts) v hf hC hR hT he r n _ Q fun u h1 σ' w' g1 g2 g3 g4 g5 g6 => ?_
        refine IH (a := a.put o.dst (val σ' u)) (w := w') k v hf g5 ((hT.ext g4 g3).put hs g6) g1 r n Q ?_
        intro ts' h' σ'' a' w'' z1 z2 z3 z4 z5 z6 z7
        exact hn ts' h' σ'' a' w'' z1 (z2.trans g2) (Nat.le_trans g3 z3) (g4.trans z4 g3) z5 z6 (z7.trans (Act.put_def _ _ _))
      cases hg : o.guard with
      | none =>
        rw [hg] at hq; simp only [cStep, RB.mk.injEq] at hq; subst hq
        rw [if_pos (by simp [Region.wanted, hg])]
        exact run k v hf hR hT he r n Q hn
      | some gw =>
        obtain ⟨j, want⟩ := gw
        rw [hg] at hq
        simp only [cStep] at hq
        cases hj : ops[j]? with
        | none => rw [hj] at hq; simp only [RB.mk.injEq] at hq; subst hq; cases he
        | some o' =>
          rw [hj] at hq
          simp only at hq
          cases hd : o'.dst with
          | none => rw [hd] at hq; simp only [RB.mk.injEq] at hq; subst hq; cases he
          | some d =>
            rw [hd] at hq
            simp only at hq
            rw [cP_eq] at hq
            by_cases hc : d + 1 ≤ N ∧ d ≤ 215
            · rw [if_pos hc] at hq
              simp only [RB.mk.injEq] at hq
              subst hq
              have he := (gdK_eq _ _ _ _ _).symm.trans he
              obtain ⟨y, hy, he2⟩ := opt_ok he
              obtain ⟨hy1, hy2⟩ := hT.2 d y hc.1 hc.2 hy
              have hyield : yielded ops a.tmps j = (match val σ y with | .bool b => some b | _ => none) := by
                unfold yielded
                simp only [hj, Option.bind_some, hd, hy1]
                cases val σ y <;> rfl
              cases y with
              | bool b =>
                simp only [val] at hyield
                cases hb : (bif want then b else !b) with
                | true =>
                  have hw : Region.wanted o (yielded ops a.tmps) = true := by
                    simp only [Region.wanted, hg, hyield]
                    cases want <;> cases b <;> simp_all
                  rw [if_pos hw]
                  have he3 : (match (bif want then b else !b) with | true => f call ts h (next call s (.mk q') k ts) | false => next call s (.mk q') k ts (.tup []) h) = .ok v hf := he2
                  rw [hb] at he3
                  exact run k v hf hR hT he3 r n Q hn
                | false =>
                  have hw : ¬ Region.wanted o (yielded ops a.tmps) = true := by
                    simp only [Region.wanted, hg, hyield]
                    cases want <;> cases b <;> simp_all
                  rw [if_neg hw]
                  have he3 : (match (bif want then b else !b) with | true => f call ts h (next call s (.mk q') k ts) | false => next call s (.mk q') k ts (.tup []) h) = .ok v hf := he2
                  rw [hb] at he3
                  exact ⟨fun _ _ => trivial, skip k v hf hR hT he3 r n Q hn⟩
              | _ =>
                have hw : ¬ Region.wanted o (yielded ops a.tmps) = true := by
                  simp only [Region.wanted, hg, hyield, val]
                  simp
                rw [if_neg hw]
                exact ⟨fun _ _ => trivial, skip k v hf hR hT he2 r n Q hn⟩
            · rw [if_neg hc] at hq
              simp only [RB.mk.injEq] at hq; subst hq; cases he
end Go.Ev

/-  -/
set_option linter.unusedVariables false
namespace Go.Ev
open Go.RowKit
variable {P : Program} {N : Nat}
def exR : Ex → Exit | .normal => .normal | .exit id => .exit id | .ret => .ret
def mkR (σ : Ren) : Mk → Deferred
  | .m i => { target := .collected (σ.blk i), args := #[] }
  | .d f args cap => { target := .fn (.func f) (vals σ cap).toArray, args := (vals σ args).toArray }
def Mk.ok (P : Program) (n : Nat) : Mk → Prop
  | .m i => i < n
  | .d f args cap => okF P f = true ∧ oks n args ∧ oks n cap
def MR (P : Program) (σ : Ren) (n : Nat) (ms : List Mk) (ds : List Deferred) : Prop := ds = ms.map (mkR σ) ∧ ∀ x ∈ ms, x.ok P n
theorem MR.ext {σ σ' : Ren} {n n' : Nat} {ms : List Mk} {ds : List Deferred} (H : MR P σ n ms ds) (he : Ext n σ σ') (hn : n ≤ n') : MR P σ' n' ms ds := by
  refine ⟨?_, fun x hx => ?_⟩
  · rw [H.1]
    refine List.map_congr_left fun x hx => ?_
    have := H.2 x hx
    cases x with
    | m i => simp only [mkR, he.blk i this]
    | d f args cap => simp only [mkR, vals_ext he _ this.2.1, vals_ext he _ this.2.2]
  · have := H.2 x hx
    cases x with
    | m i => exact Nat.lt_of_lt_of_le this hn
    | d f args cap => exact ⟨this.1, oks_mono hn _ this.2.1, oks_mono hn _ this.2.2⟩
def rdR (σ : Ren) (rd : Option Nat) : Option Nat := rd.map σ.blk
def Cx (P : Program) (B : Nat) (w0 : World) (σ : Ren) (h : FH) (N : Nat) (good : Ex → T3 → FH → List Mk → Prop) (Q : Exit → Act → World → Prop) : Prop :=
  ∀ e ts' h' ms' σ' a' w', good e ts' h' ms' → h'.ro = h.ro → h.next ≤ h'.next → Ext h.next σ σ' → HR P B w0 σ' h' w' → TR σ' h'.next N ts' a'.tmps → MR P σ' h'.next ms' a'.defers → Q (exR e) a' w'
def CodeS (P : Program) (N : Nat) (c : Code) (g : CT) : Prop :=
  ∀ (call : CallT), CallS P call → ∀ ⦃B : Nat⦄ ⦃w0 : World⦄ ⦃σ : Ren⦄ ⦃ts : T3⦄ ⦃h : FH⦄ ⦃a : Act⦄ ⦃w : World⦄ (rd : Option Nat) (ms : List Mk) (k : KC) (v : FV) (hf : FH), HR P B w0 σ h w → TR σ h.next N ts a.tmps → MR P σ h.next ms a.defers → (∀ l, rd = some l → l < h.next) →
    g call rd ts h ms k = .ok v hf → ∀ n Q, Cx P B w0 σ h N (fun e ts' h' ms' => k e ts' h' ms' = .ok v hf) Q → c.wpIn (FW (rdR σ rd)) n P Q a w
theorem rdR_ext {σ σ' : Ren} {h : FH} {rd : Option Nat} (he : Ext h.next σ σ') (hr : ∀ l, rd = some l → l < h.next) : rdR σ' rd = rdR σ rd := by
  cases rd with
  | none => rfl
  | some l => simp [rdR, he.blk l (hr l rfl)]
theorem codeS_simple {c : Code} {e : Ex} (hc : ∀ (F : Fence) n (Q : Exit → Act → World → Prop) a w, Q (exR e) a w → c.wpIn F n P Q a w) : CodeS P N c (fun _ _ ts h ms k => k e ts h ms) :=
  fun call hC B w0 σ ts h a w rd ms k v hf hR hT hM hrd he n Q hQ => hc _ _ _ _ _ (hQ e ts h ms σ a w he rfl (Nat.le_refl _) (Ext.refl _ _) hR hT hM)
theorem codeS_no {c : Code} : CodeS P N c (fun _ _ _ _ _ _ => .no) := fun call hC B w0 σ ts h a w rd ms k v hf hR hT hM hrd he => by cases he
def BoxS (P : Program) (N : Nat) (c : Code) (b : CBox) : Prop := ∀ g, b = .mk g → CodeS P N c g
theorem BoxS.run {c : Code} {b : CBox} (h : BoxS P N c b) : CodeS P N c (fun call rd ts h ms k => b.run call rd ts h ms k) := by
  cases b with | mk g => exact h g rfl
theorem cx_trans {B : Nat} {w0 : World} {σ σ' : Ren} {h h' : FH} {good : Ex → T3 → FH → List Mk → Prop} {Q : Exit → Act → World → Prop} (hQ : Cx P B w0 σ h N good Q) (h1 : h'.ro = h.ro) (h2 : h.next ≤ h'.next) (h3 : Ext h.next σ σ') : Cx P B w0 σ' h' N good Q :=
  fun e ts' h'' ms' σ'' a' w' g1 g2 g3 g4 g5 g6 g7 => hQ e ts' h'' ms' σ'' a' w' g1 (g2.trans h1) (Nat.le_trans h2 g3) (h3.trans g4 h2) g5 g6 g7
theorem cSeq_s {x y : Code} {a b : CBox} (ha : BoxS P N x a) (hb : BoxS P N y b) : CodeS P N (.seq x y) (cSeq a b) := by
  intro call hC B w0 σ ts h A w rd ms k v hf hR hT hM hrd he n Q hQ
  refine wpIn_seq (ha.run call hC rd ms _ v hf hR hT hM hrd he n _ ?_)
  intro e ts' h' ms' σ' a' w' g1 g2 g3 g4 g5 g6 g7
  cases e with
  | normal =>
    have := hb.run call hC rd ms' k v hf g5 g6 g7 (fun l hl => Nat.lt_of_lt_of_le (hrd l hl) g3) g1 n Q (cx_trans hQ g2 g3 g4)
    rw [rdR_ext g4 hrd] at this
    exact this
  | exit id => exact hQ (.exit id) ts' h' ms' σ' a' w' g1 g2 g3 g4 g5 g6 g7
  | ret => exact hQ .ret ts' h' ms' σ' a' w' g1 g2 g3 g4 g5 g6 g7
theorem cCond_s {c : Operand} {x y : Code} {a b : CBox} (ha : BoxS P N x a) (hb : BoxS P N y b) : CodeS P N (.cond c x y) (cCond (cO N c) a b) := by
  intro call hC B w0 σ ts h A w rd ms k v hf hR hT hM hrd he n Q hQ
  obtain ⟨u, e1, e2, e3⟩ := ev_sound hT he
  obtain ⟨t, rfl, e4⟩ := asBool_ok e1
  refine wpIn_cond (t := t) e2 ?_
  cases t with
  | true => exact ha.run call hC rd ms k v hf hR hT hM hrd e4 n Q hQ
  | false => exact hb.run call hC rd ms k v hf hR hT hM hrd e4 n Q hQ
theorem cBlock_s {id : Nat} {x : Code} {a : CBox} (ha : BoxS P N x a) : CodeS P N (.block id x) (cBlock id a) := by
  intro call hC B w0 σ ts h A w rd ms k v hf hR hT hM hrd he n Q hQ
  refine wpIn_block (ha.run call hC rd ms _ v hf hR hT hM hrd he n _ ?_)
  intro e ts' h' ms' σ' a' w' g1 g2 g3 g4 g5 g6 g7
  cases e with
  | normal => exact hQ .normal ts' h' ms' σ' a' w' g1 g2 g3 g4 g5 g6 g7
  | exit j =>
    have g1' : @Bool.rec (fun _ => Ro) (k (.exit j) ts' h' ms') (k .normal ts' h' ms') (Nat.beq j id) = .ok v hf := g1
    simp only [exR, Exit.inBlock]
    cases hb : Nat.beq j id with
    | true =>
      rw [hb] at g1'
      rw [if_pos (beq hb)]
      exact hQ .normal ts' h' ms' σ' a' w' g1' g2 g3 g4 g5 g6 g7
    | false =>
      rw [hb] at g1'
      rw [if_neg (fun e => by rw [e, Nat.beq_refl] at hb; cases hb)]
      exact hQ (.exit j) ts' h' ms' σ' a' w' g1' g2 g3 g4 g5 g6 g7
  | ret => exact hQ .ret ts' h' ms' σ' a' w' g1 g2 g3 g4 g5 g6 g7
def LoopW (F : Fence) (n : Nat) (P : Program) (c : Code) (Q : Exit → Act → World → Prop) (a : Act) (w : World) : Prop :=
  ∀ (b : Frame) (k : List Item) (cs : List Frame), b.roundOf = F.round → F.fn b.fn → F.room (cs.length + 1 + n) →
    ∃ e a' w', Q e a' w' ∧ ArrivesIn (Machine.fenced P F) P (lone (b.atR a (.code c :: .inLoop c :: k)) cs w) b k cs e a' w'
theorem wpIn_of_loopW {F : Fence} {n : Nat} {c : Code} {Q : Exit → Act → World → Prop} {a : Act} {w : World} (h : LoopW F n P c Q a w) : (Code.loop c).wpIn F n P Q a w := by
  intro b k cs hro hb hr
  obtain ⟨e, a', w', hq, harr⟩ := h b k cs hro hb hr
  exact ⟨e, a', w', hq, .of_steps (.one (fenced_calm hb hr rfl) stepR_loop) harr⟩
theorem loopW_round {F : Fence} {n : Nat} {c : Code} {Q : Exit → Act → World → Prop} {a : Act} {w : World} (h : c.wpIn F n P (Exit.then (LoopW F n P c Q) Q) a w) : LoopW F n P c Q a w := by
  intro b k cs hro hb hr
  obtain ⟨e, a₁, w₁, hq, harr⟩ := h b (.inLoop c :: k) cs hro hb hr
  cases e with
  | normal =>
    obtain ⟨e₂, a₂, w₂, hq₂, harr₂⟩ := hq b k cs hro hb hr
    exact ⟨e₂, a₂, w₂, hq₂, .of_steps (StepsIn.trans harr (.one (fenced_calm hb hr rfl) stepR_inLoop)) harr₂⟩
  | exit id => exact ⟨_, a₁, w₁, hq, .pass (x := .inLoop c) rfl (fun _ _ => .inl (by simp)) harr⟩
  | goto l => exact ⟨_, a₁, w₁, hq, .pass (x := .inLoop c) rfl (fun _ _ => .inl (by simp)) harr⟩
  | ret => exact ⟨_, a₁, w₁, hq, .pass (x := .inLoop c) rfl (fun _ _ => .inl (by simp)) harr⟩
  | panic ch => exact ⟨_, a₁, w₁, hq, .pass (x := .inLoop c) rfl (fun _ _ => .inl (by simp)) harr⟩
  | outgrown => exact ⟨_, a₁, w₁, hq, .pass (x := .inLoop c) rfl (fun _ _ => .inl (by simp)) harr⟩
theorem loopN_s {x : Code} {a : CBox} (ha : BoxS P N x a) (call : CallT) (hC : CallS P call) : ∀ (m : Nat) ⦃B : Nat⦄ ⦃w0 : World⦄ ⦃σ : Ren⦄ ⦃ts : T3⦄ ⦃h : FH⦄ ⦃A : Act⦄ ⦃w : World⦄ (rd : Option Nat) (ms : List Mk) (k : KC) (v : FV) (hf : FH), HR P B w0 σ h w → TR σ h.next N ts A.tmps → MR P σ h.next ms A.defers → (∀ l, rd = some l → l < h.next) →
    loopN a m call rd ts h ms k = .ok v hf → ∀ n Q, Cx P B w0 σ h N (fun e ts' h' ms' => k e ts' h' ms' = .ok v hf) Q → LoopW (FW (rdR σ rd)) n P x Q A w
  | 0, B, w0, σ, ts, h, A, w, rd, ms, k, v, hf, hR, hT, hM, hrd, he, n, Q, hQ => by cases he
  | m + 1, B, w0, σ, ts, h, A, w, rd, ms, k, v, hf, hR, hT, hM, hrd, he, n, Q, hQ => by
    refine loopW_round (ha.run call hC rd ms _ v hf hR hT hM hrd he n _ ?_)
    intro e ts' h' ms' σ' a' w' g1 g2 g3 g4 g5 g6 g7
    cases e with
    | normal =>
      have := loopN_s ha call hC m rd ms' k v hf g5 g6 g7 (fun l hl => Nat.lt_of_lt_of_le (hrd l hl) g3) g1 n Q (cx_trans hQ g2 g3 g4)
      rw [rdR_ext g4 hrd] at this
      exact this
    | exit id => exact hQ (.exit id) ts' h' ms' σ' a' w' g1 g2 g3 g4 g5 g6 g7
    | ret => exact hQ .ret ts' h' ms' σ' a' w' g1 g2 g3 g4 g5 g6 g7
theorem cLoop_s {x : Code} {a : CBox} (ha : BoxS P N x a) (m : Nat) : CodeS P N (.loop x) (loopN a m) :=
  fun call hC B w0 σ ts h A w rd ms k v hf hR hT hM hrd he n Q hQ => wpIn_of_loopW (loopN_s ha call hC m rd ms k v hf hR hT hM hrd he n Q hQ)
/-! ### scopes -/
theorem stepR_scope {b : Frame} {a : Act} {k : List Item} {cs : List Frame} {w : World} {c : Code} : step P (lone (b.atR a (.code (.scope c) :: k)) cs w) = .next (lone (b.atR a (.code c :: .inScope c :: k)) cs w) :=
  step_lone_go (by simp [stepG, stepG.exec, Frame.atR])
theorem stepR_inScope {b : Frame} {a : Act} {k : List Item} {cs : List Frame} {w : World} {c : Code} : step P (lone (b.atR a (.inScope c :: k)) cs w) = .next (lone (b.atR a k) cs w) :=
  step_lone_go (by simp [stepG, stepG.exec, Frame.atR])
theorem wpIn_scope {F : Fence} {n : Nat} {c : Code} {Q Q' : Exit → Act → World → Prop} {a : Act} {w : World} (h : c.wpIn F n P Q' a w) (hg : ∀ l a w, ¬ Q' (.goto l) a w) (hq : ∀ e a w, Q' e a w → Q e a w) : (Code.scope c).wpIn F n P Q a w := by
  intro b k cs hro hb hr
  have h0 : (lone (b.atR a (.code (.scope c) :: k)) cs w).fenced P F := fenced_calm hb hr rfl
  obtain ⟨e, a₁, w₁, hq', harr⟩ := h b (.inScope c :: k) cs hro hb hr
  refine ⟨e, a₁, w₁, hq _ _ _ hq', .of_steps (.one h0 stepR_scope) ?_⟩
  cases e with
  | normal => exact StepsIn.trans harr (.one (fenced_calm hb hr rfl) stepR_inScope)
  | exit id =>
    have hx : exitTo id (.inScope c :: k) = exitTo id k := by simp [exitTo]
    exact ⟨fun k' hk => harr.1 k' (by rw [hx]; exact hk), fun hr' hk => harr.2 hr' (by rw [hx]; exact hk)⟩
  | goto l => exact absurd hq' (hg _ _ _)
  | ret => exact harr
  | panic ch => exact harr
  | outgrown => exact harr
theorem cScope_s {x : Code} {a : CBox} (ha : BoxS P N x a) : BoxS P N (.scope x) a := by
  intro g hg call hC B w0 σ ts h A w rd ms k v hf hR hT hM hrd he n Q hQ
  refine wpIn_scope (Q' := fun e a w => (∃ e0, e = exR e0) ∧ Q e a w) (ha g hg call hC rd ms k v hf hR hT hM hrd he n _ ?_) ?_ (fun e a w h => h.2)
  · intro e ts' h' ms' σ' a' w' g1 g2 g3 g4 g5 g6 g7
    exact ⟨⟨e, rfl⟩, hQ e ts' h' ms' σ' a' w' g1 g2 g3 g4 g5 g6 g7⟩
  · rintro l a w ⟨⟨e0, h0⟩, _⟩
    cases e0 <;> cases h0
theorem cRegion_s {id : Nat} {ops : Array Oper} : CodeS P N (.region id ops false) (cRegion (cR P N ops ops.toList)) := by
  intro call hC B w0 σ ts h A w rd ms k v hf hR hT hM hrd he n Q hQ
  obtain ⟨q, hq⟩ : ∃ q, cR P N ops ops.toList = .mk q := by cases h : cR P N ops ops.toList with | mk q => exact ⟨q, rfl⟩
  rw [hq] at he
  refine wpIn_region ?_
  rw [List.range_eq_range', ← Array.length_toList]
  have := region_s (N := N) hC [] ops.toList 0 q (fun j o h => by simpa using h) hq (fun ts' h' => k .normal ts' h' ms) v hf hR hT he (rdR σ rd) n Q ?_
  · simpa using this
  · intro ts' h' σ' a' w' g1 g2 g3 g4 g5 g6 g7
    exact hQ .normal ts' h' ms σ' a' w' g1 g2 g3 g4 g5 g6 (by rw [g7]; exact hM.ext g4 g3)
theorem lastD_s {l : List Oper} {f : Operand} {az : List Operand} (h : lastD l = some (f, az)) : ∃ o c, l = l.dropLast ++ [o] ∧ o.op = .defer c ∧ o.guard = none ∧ o.dst = none ∧ c.callee = .value f ∧ c.args.toList = az := by
  unfold lastD at h
  cases hl : l.getLast? with
  | none => rw [hl] at h; cases h
  | some o =>
    rw [hl] at h
    simp only at h
    split at h
    · rename_i c h1 h2 h3
      split at h
      · rename_i f' hc
        simp only [Option.some.injEq, Prod.mk.injEq] at h
        obtain ⟨rfl, rfl⟩ := h
        refine ⟨o, c, ?_, h1, h2, h3, hc, rfl⟩
        have hne : l ≠ [] := fun e => by subst e; simp at hl
        have := List.dropLast_concat_getLast hne
        rw [List.getLast?_eq_some_getLast hne] at hl
        simp only [Option.some.injEq] at hl
        rw [hl] at this; exact this.symm
      · cases h
    · cases h
theorem cRegionD_s {id : Nat} {ops : Array Oper} {f : Operand} {az : List Operand} (hl : lastD ops.toList = some (f, az)) : CodeS P N (.region id ops false) (cRegionD P (cR P N ops ops.toList.dropLast) (cO N f) (az.map (cO N))) := by
  obtain ⟨o, c, e1, e2, e3, e4, e5, e6⟩ := lastD_s hl
  intro call hC B w0 σ ts h A w rd ms k v hf hR hT hM hrd he n Q hQ
  cases rd with
  | some l0 => cases he
  | none =>
    obtain ⟨q, hq⟩ : ∃ q, cR P N ops ops.toList.dropLast = .mk q := by cases h : cR P N ops ops.toList.dropLast with | mk q => exact ⟨q, rfl⟩
    have he' : @RB.rec (fun _ => Ro) (fun q => q call ts h fun ts' h' => (cO N f).ev ts' fun v => match v with
      | .fn g first cap => evL (az.map (cO N)) ts' fun us => iff' (okF P g) (k .normal ts' h' (.d g (first ++ us) cap :: ms))
      | _ => .no) (cR P N ops ops.toList.dropLast) = .ok v hf := he
    rw [hq] at he'
    have hlen : ops.size = ops.toList.dropLast.length + 1 := by
      rw [← Array.length_toList]; conv => lhs; rw [e1]
      simp
    have hlast : ops[ops.toList.dropLast.length]? = some o := by
      rw [← Array.getElem?_toList]; conv => lhs; rw [e1]
      simp
    refine wpIn_region ?_
    rw [List.range_eq_range', hlen, List.range'_1_concat, Nat.zero_add]
    refine region_s (N := N) hC [ops.toList.dropLast.length] ops.toList.dropLast 0 q (fun j o hj => ?_) hq _ v hf hR hT he' (rdR σ none) n Q ?_
    · rw [Nat.zero_add, ← Array.getElem?_toList, e1, List.getElem?_append_left (by exact (List.getElem?_eq_some_iff.1 hj).1)]
      exact hj
    · intro ts' h' σ' a' w' g1 g2 g3 g4 g5 g6 g7
      obtain ⟨u, f1, f2, f3⟩ := ev_sound g6 g1
      cases u <;> try (cases f1; done)
      rename_i g first cap
      obtain ⟨us, k1, k2, k3⟩ := evL_sound g6 az f1
      obtain ⟨c1, k4⟩ := iff_ok k1
      simp only [wpOpsIn, hlast]
      rw [if_pos (by simp [Region.wanted, e3])]
      refine ⟨fun _ _ => trivial, ?_⟩
      have hrun : (Oper.semAt (FW (rdR σ none)).round a'.eval o).run P w' = .ok (.defer { target := .fn (.func g) (vals σ' cap).toArray, args := (vals σ' (first ++ us)).toArray }) w' := by
        have eargs : c.args.map a'.eval = (vals σ' us).toArray := by rw [← k2, ← e6, ← Array.toList_map]
        show (execOp a'.eval o).run P w' = _
        simp [execOp, e2, resolve, e5, f2, val, Deferred.ofValue, eargs, vals_eq]
      rw [hrun]
      simp only [FV.ok] at f3
      have hM' := hM.ext g4 g3
      refine hQ .normal ts' h' _ σ' _ w' k4 g2 g3 g4 g5 ?_ ?_
      · rw [e4]; exact g6
      · rw [e4]
        refine ⟨by show _ :: a'.defers = _; rw [g7, hM'.1]; rfl, fun x hx => ?_⟩
        rcases List.mem_cons.1 hx with rfl | hx
        · exact ⟨c1, oks_iff.2 fun v hv => by
            rcases List.mem_append.1 hv with hv | hv
            · exact oks_iff.1 f3.1 v hv
            · exact oks_iff.1 k3 v hv, f3.2⟩
        · exact hM'.2 x hx
theorem cReg_s {id : Nat} {ops : Array Oper} : BoxS P N (.region id ops false) (cReg P N ops) := by
  intro g hg
  unfold cReg at hg
  cases hl : lastD ops.toList with
  | none => rw [hl] at hg; cases hg; exact cRegion_s
  | some fa =>
    obtain ⟨f, az⟩ := fa
    rw [hl] at hg; cases hg; exact cRegionD_s hl
end Go.Ev

/-  -/
set_option linter.unusedVariables false
namespace Go.Ev
open Go.RowKit
/-! ### regions that draw their order -/
section
variable {n : Nat} {P : Program} {ops : Array Oper} {Q : Exit → Act → World → Prop} {r : Option Nat} {bef : Nat → Nat → Bool}
def wpX (r : Option Nat) (n : Nat) (P : Program) (ops : Array Oper) (bef : Nat → Nat → Bool) (Q : Exit → Act → World → Prop) : Nat → Array Bool → List (Nat × (World → Prop)) → Act → World → Prop
  | 0, listed, M, a, w => Region.ready .any ops listed = [] ∧ Q .normal a w
  | fuel + 1, listed, M, a, w => (Region.ready .any ops listed = [] → Q .normal a w) ∧
     ∀ i ∈ Region.ready .any ops listed, wpOpIn (FW r) n P ops Q i (fun a' w' => (∀ m ∈ M, bef i m.1 = false → m.2 w') ∧ wpX r n P ops bef Q fuel (listed.setIfInBounds i true) (M.filter fun m => !bef i m.1) a' w') a w
theorem wpX_any : ∀ (fuel : Nat) (listed : Array Bool) (M : List (Nat × (World → Prop))) (a : Act) (w : World), wpX r n P ops bef Q fuel listed M a w → wpAnyIn (FW r) n P .any ops Q fuel listed a w
  | 0, listed, M, a, w, h => h
  | fuel + 1, listed, M, a, w, h => ⟨h.1, fun i hi => wpOpIn_mono (fun a' w' h' => wpX_any fuel _ _ a' w' h'.2) (h.2 i hi)⟩
theorem wpX_mono : ∀ (fuel : Nat) (listed : Array Bool) (M M' : List (Nat × (World → Prop))) (a : Act) (w : World), (∀ m ∈ M', ∃ m0 ∈ M, m0.1 = m.1 ∧ ∀ w, m0.2 w → m.2 w) → wpX r n P ops bef Q fuel listed M a w → wpX r n P ops bef Q fuel listed M' a w
  | 0, listed, M, M', a, w, hM, h => h
  | fuel + 1, listed, M, M', a, w, hM, h => ⟨h.1, fun i hi => wpOpIn_mono (fun a' w' h' => ⟨fun m hm hb => by
      obtain ⟨m0, h0, e, hw⟩ := hM m hm
      exact hw _ (h'.1 m0 h0 (by rw [e]; exact hb)), wpX_mono fuel _ _ _ a' w' (fun m hm => by
        obtain ⟨hm, hb⟩ := List.mem_filter.1 hm
        obtain ⟨m0, h0, e, hw⟩ := hM m hm
        exact ⟨m0, List.mem_filter.2 ⟨h0, by rw [e]; exact hb⟩, e, hw⟩) h'.2⟩) (h.2 i hi)⟩
theorem wpOpIn_putX {j : Nat} {oi oj : Oper} {v : Value} (hj : ops[j]? = some oj) (h1 : ∀ d, oi.dst = some d → d ∉ oj.looksAt ops) (h2 : ∀ d, oi.dst = some d → oj.dst ≠ some d) (h3 : ∀ d, oj.dst = some d → d ∉ oi.looksAt ops)
    (hsi : ∀ cs b, oi.op ≠ .select cs b) (hsj : ∀ cs b, oj.op ≠ .select cs b) (hdj : ∀ c, oj.op ≠ .defer c)
    (hQ : ∀ c a w, ¬ Q (.panic c) a w) {K : Act → World → Prop} {a : Act} {w : World} (h : wpOpIn (FW r) n P ops Q j K (a.put oi.dst v) w) :
    wpOpIn (FW r) n P ops Q j (fun a' w' => (execOp a'.eval oi = execOp a.eval oi ∧ Region.wanted oi (yielded ops a'.tmps) = Region.wanted oi (yielded ops a.tmps)) ∧ K (a'.put oi.dst v) w') a w := by
  have keep : ∀ u, execOp (a.put oj.dst u).eval oi = execOp a.eval oi ∧ Region.wanted oi (yielded ops (a.put oj.dst u).tmps) = Region.wanted oi (yielded ops a.tmps) := fun u =>
    ⟨execOp_put (ops := ops) oi hsi a oj.dst u h3, wanted_put oi a oj.dst u h3⟩
  unfold wpOpIn at *
  simp only [hj] at *
  rw [wanted_put oj a oi.dst v h1, about_put (ops := ops) oj w a oi.dst v h1] at h
  split
  · rename_i hw
    simp only [hw, if_true] at h
    unfold Oper.wpIn at *
    refine ⟨fun _ _ => trivial, ?_⟩
    have h := h.2
    rw [Oper.semAt_eq _ _ _ hdj, execOp_put (ops := ops) oj hsj a oi.dst v h1] at h
    rw [Oper.semAt_eq _ _ _ hdj]
    generalize (execOp a.eval oj).run P w = res at *
    cases res with
    | ok x w' =>
      cases x <;> simp only [Oper.uponIn] at h ⊢
      case value u => exact ⟨keep u, by rw [← Act.put_comm a v u h2]; exact h⟩
      case skip => exact ⟨keep _, by rw [← Act.put_comm a v undef h2]; exact h⟩
      case defer d =>
        refine ⟨by have := keep undef; cases hd : oj.dst <;> rw [hd] at this <;> exact this, ?_⟩
        rw [← Act.put_comm _ v undef h2, ← Act.put_defers]
        exact h
      case enter f args =>
        refine ⟨h.1, CallsIn.mono h.2 fun e w'' he => ?_⟩
        cases e with
        | returned u => exact ⟨keep u, by rw [← Act.put_comm a v u h2]; exact he⟩
        | panicked c => exact absurd he (hQ _ _ _)
        | outgrown => exact he
      case row row args => exact ⟨h.1, RowsIn.mono h.2 fun u w'' he => ⟨keep u, by rw [← Act.put_comm a v u h2]; exact he⟩⟩
      case round l f tmps assign body =>
        refine ⟨h.1, RoundIn.mono h.2 fun e w'' he => ?_⟩
        cases e with
        | returned u => exact ⟨keep u, by rw [← Act.put_comm a v u h2]; exact he⟩
        | panicked c => exact absurd he (hQ _ _ _)
        | outgrown => exact he
    | halt x w' =>
      cases x <;> simp only [Oper.uponIn] at h ⊢
      case panic u => exact absurd h (hQ _ _ _)
  · rename_i hw
    simp only [hw] at h
    exact ⟨fun _ _ => trivial, keep _, by rw [← Act.put_comm a v undef h2]; exact h.2⟩
def Hold (P : Program) (ops : Array Oper) (o : Oper) (v : Value) (a : Act) (w : World) : Prop :=
  (Region.wanted o (yielded ops a.tmps) = true ∧ Ran P (execOp a.eval o) w v w) ∨ (Region.wanted o (yielded ops a.tmps) = false ∧ v = undef)
theorem Hold.wpOpIn {i : Nat} {o : Oper} {v : Value} {a : Act} {w : World} (hi : ops[i]? = some o) (hd : ∀ c, o.op ≠ .defer c) (hy : Hold P ops o v a w) {K : Act → World → Prop} (h : K (a.put o.dst v) w) : wpOpIn (FW r) n P ops Q i K a w := by
  unfold Go.wpOpIn
  simp only [hi]
  rcases hy with ⟨hw, hv⟩ | ⟨hw, rfl⟩
  · simp only [hw, if_true]
    exact wpIn_of_ran hd hv h
  · simp only [hw, Bool.false_eq_true, if_false]
    exact ⟨fun _ _ => trivial, h⟩
def Closed (bef : Nat → Nat → Bool) (listed : Array Bool) : Prop := ∀ j, listed.getD j false = true → ∀ i, bef j i = true → listed.getD i false = true
def BefP (ops : Array Oper) (bef : Nat → Nat → Bool) : Prop := ∀ j oj, ops[j]? = some oj → ∀ i, bef j i = true → ∃ e ∈ oj.after, Region.binds .any e = true ∧ (e.on = i ∨ bef e.on i = true)
theorem Closed.ready {listed : Array Bool} (hB : BefP ops bef) (hC : Closed bef listed) {j : Nat} (hj : j ∈ Region.ready .any ops listed) {i : Nat} (hb : bef j i = true) : listed.getD i false = true := by
  obtain ⟨h0, oj, hoj, hall⟩ := mem_ready.1 hj
  obtain ⟨e, he, hbd, h⟩ := hB j oj hoj i hb
  rcases h with rfl | h
  · exact hall e he hbd
  · exact hC e.on (hall e he hbd) i h
theorem Closed.set {listed : Array Bool} (hB : BefP ops bef) (hC : Closed bef listed) {j : Nat} (hj : j ∈ Region.ready .any ops listed) : Closed bef (listed.setIfInBounds j true) := by
  intro k hk i hb
  refine getD_set_true ?_
  by_cases hkj : j = k
  · subst hkj; exact hC.ready hB hj hb
  · rw [getD_set_ne false hkj] at hk; exact hC k hk i hb
theorem wpX_first {i : Nat} {oi : Oper} {v : Value} (hi : ops[i]? = some oi) (hsel : ∀ (j : Nat) (o : Oper), ops[j]? = some o → (∀ cs b, o.op ≠ .select cs b) ∧ ∀ c, o.op ≠ .defer c)
    (hQ : ∀ c a w, ¬ Q (.panic c) a w) (hB : BefP ops bef) :
    ∀ (fuel : Nat) (listed : Array Bool) (M : List (Nat × (World → Prop))) (a : Act) (w : World), Closed bef listed →
      (∀ j oj, ops[j]? = some oj → j ≠ i → listed.getD j true = false → (∀ e ∈ oj.after, Region.binds .any e = true → e.on ≠ i) →
        (∀ d, oi.dst = some d → d ∉ oj.looksAt ops) ∧ (∀ d, oi.dst = some d → oj.dst ≠ some d) ∧ (∀ d, oj.dst = some d → d ∉ oi.looksAt ops)) →
      i ∈ Region.ready .any ops listed → Hold P ops oi v a w → (∀ m ∈ M, m.2 w) →
      wpX r n P ops bef Q fuel (listed.setIfInBounds i true) ((i, fun w => Hold P ops oi v a w) :: M) (a.put oi.dst v) w → wpX r n P ops bef Q (fuel + 1) listed M a w := by
  intro fuel
  have hnotin : ∀ {listed : Array Bool} {j : Nat}, Closed bef listed → i ∈ Region.ready .any ops listed → j ∈ Region.ready .any ops listed → bef j i = false := by
    intro listed j hC hr hj
    cases hb : bef j i with
    | false => rfl
    | true =>
      have h1 := hC.ready hB hj hb
      have h0 := (mem_ready.1 hr).1
      rcases Nat.lt_or_ge i listed.size with h' | h'
      · simp [h'] at h0 h1; rw [h0] at h1; cases h1
      · simp [Array.getElem?_eq_none h'] at h1
  induction fuel with
  | zero =>
    intro listed M a w hC hfree hr hy hM H
    refine ⟨fun h => (by rw [h] at hr; cases hr), fun j hj => ?_⟩
    by_cases hji : j = i
    · subst hji; exact hy.wpOpIn hi (hsel _ _ hi).2 ⟨fun m hm _ => hM m hm, H⟩
    · have := ready_mono hj hji
      rw [H.1] at this
      cases this
  | succ fuel ih =>
    intro listed M a w hC hfree hr hy hM H
    refine ⟨fun h => (by rw [h] at hr; cases hr), fun j hj => ?_⟩
    by_cases hji : j = i
    · subst hji
      exact hy.wpOpIn hi (hsel _ _ hi).2 ⟨fun m hm _ => hM m hm, wpX_mono _ _ _ _ _ _ (fun m hm => ⟨m, List.mem_cons_of_mem _ (List.mem_filter.1 hm).1, rfl, fun _ h => h⟩) H⟩
    · have h1 := H.2 j (ready_mono hj hji)
      obtain ⟨hjun, oj, hoj, hall⟩ := mem_ready.1 hj
      have hnot : ∀ e ∈ oj.after, Region.binds .any e = true → e.on ≠ i := fun e he hb heq => by
        have h1 := hall e he hb
        have h0 := (mem_ready.1 hr).1
        rw [heq] at h1
        rcases Nat.lt_or_ge i listed.size with h' | h'
        · simp [h'] at h0 h1; rw [h0] at h1; cases h1
        · simp [Array.getElem?_eq_none h'] at h1
      obtain ⟨a1, a2, a3⟩ := hfree j oj hoj hji hjun hnot
      have hbf := hnotin hC hr hj
      have h2 := wpOpIn_putX hoj a1 a2 a3 (hsel i oi hi).1 (hsel j oj hoj).1 (hsel j oj hoj).2 hQ h1
      have hfree' : ∀ k ok, ops[k]? = some ok → k ≠ i → (listed.setIfInBounds j true).getD k true = false → (∀ e ∈ ok.after, Region.binds .any e = true → e.on ≠ i) →
          (∀ d, oi.dst = some d → d ∉ ok.looksAt ops) ∧ (∀ d, oi.dst = some d → ok.dst ≠ some d) ∧ (∀ d, ok.dst = some d → d ∉ oi.looksAt ops) := fun k ok hk hki hun hno => by
        refine hfree k ok hk hki ?_ hno
        by_cases hjk : j = k
        · subst hjk; exact hjun
        · rw [getD_set_ne true hjk] at hun; exact hun
      refine wpOpIn_mono (fun a' w' h3 => ?_) h2
      obtain ⟨⟨e1, e2⟩, e3, e4⟩ := h3
      have hy' : ∀ w, Hold P ops oi v a' w ↔ Hold P ops oi v a w := fun w => by unfold Hold; rw [e1, e2]
      have hM' : ∀ m ∈ M, bef j m.1 = false → m.2 w' := fun m hm hb => e3 m (List.mem_cons_of_mem _ hm) hb
      refine ⟨hM', ?_⟩
      refine ih (listed.setIfInBounds j true) (M.filter fun m => !bef j m.1) a' w' (hC.set hB hj) hfree' (ready_mono hr (Ne.symm hji)) ((hy' w').2 (e3 _ List.mem_cons_self hbf)) ?_ ?_
      · intro m hm
        obtain ⟨hm, hb⟩ := List.mem_filter.1 hm
        exact hM' m hm (by simpa using hb)
      · rw [Array.setIfInBounds_comm _ _ hji]
        refine wpX_mono _ _ _ _ _ _ (fun m hm => ?_) e4
        rcases List.mem_cons.1 hm with rfl | hm
        · exact ⟨_, List.mem_filter.2 ⟨List.mem_cons_self, by simp [hbf]⟩, rfl, fun w h => (hy' w).2 h⟩
        · obtain ⟨hm, hb⟩ := List.mem_filter.1 hm
          exact ⟨m, List.mem_filter.2 ⟨List.mem_cons_of_mem _ hm, hb⟩, rfl, fun _ h => h⟩
theorem wpX_one {i : Nat} {fuel : Nat} {listed : Array Bool} {M : List (Nat × (World → Prop))} {a : Act} {w : World} (hr : Region.ready .any ops listed = [i])
    (h : wpOpIn (FW r) n P ops Q i (fun a' w' => (∀ m ∈ M, bef i m.1 = false → m.2 w') ∧ wpX r n P ops bef Q fuel (listed.setIfInBounds i true) (M.filter fun m => !bef i m.1) a' w') a w) : wpX r n P ops bef Q (fuel + 1) listed M a w :=
  ⟨fun h0 => (by rw [hr] at h0; cases h0), fun j hj => by rw [hr] at hj; simp at hj; subst hj; exact h⟩
theorem wpX_done {listed : Array Bool} {M : List (Nat × (World → Prop))} {a : Act} {w : World} (hr : Region.ready .any ops listed = []) (h : Q .normal a w) : ∀ fuel, wpX r n P ops bef Q fuel listed M a w
  | 0 => ⟨hr, h⟩
  | _ + 1 => ⟨fun _ => h, by rw [hr]; simp⟩
end
end Go.Ev

/-  -/
set_option linter.unusedVariables false
namespace Go.Ev
open Go.RowKit
variable {P : Program} {N : Nat}
theorem cOpD_p (o : Oper) (h : pureOp P o = true) : PBS P N o (cOpD P N o) := by
  unfold pureOp at h
  unfold cOpD
  cases ho : o.op <;> simp only [ho] at h ⊢ <;> try (cases h; done)
  case move => unfold cOp; simp only [ho]; exact cMove_s ho
  case assign => unfold cOp; simp only [ho]; exact cAssign_s ho
  case pick => unfold cOp; simp only [ho]; exact cPick_s ho
  case build => unfold cOp; simp only [ho]; exact cBuild_s ho
  case load => unfold cOp; simp only [ho]; exact cLoad_s ho
  case nilCheck => unfold cOp; simp only [ho]; exact cNilCheck_s ho
  case binOp => unfold cOp; simp only [ho]; exact cBinOp_s ho
  case unOp => unfold cOp; simp only [ho]; exact cUnOp_s ho
  case fieldAddr => unfold cOp; simp only [ho]; exact cFieldAddr_s ho
  case field => unfold cOp; simp only [ho]; exact cField_s ho
  case indexAddr => unfold cOp; simp only [ho]; exact cIndexAddr_s ho
  case index => unfold cOp; simp only [ho]; exact cIndex_s ho
  case lookup => unfold cOp; simp only [ho]; exact cLookup_s ho
  case extract => unfold cOp; simp only [ho]; exact cExtract_s ho
  case slice t x lo hi mx =>
    cases mx with
    | none => exact cSliceQ_s ho
    | some m =>
      cases hi with
      | none => cases h
      | some hi => unfold cOp; simp only [ho]; exact cSlice_s ho
  case makeFunc f a b =>
    cases f <;> simp only at h <;> try (cases h; done)
    unfold cOp; simp only [ho]; exact cMakeFunc_s ho
  case convert s d x =>
    unfold cOp; simp only [ho]
    refine cConvert_p ho fun e he => ?_
    rw [he] at h; cases h
  case call c =>
    unfold cOp; simp only [ho]
    unfold cCall
    cases hc : c.callee with
    | builtin b =>
      simp only [hc] at h ⊢
      exact cBuiltin_p c b ho hc (by cases b <;> simp at h ⊢)
    | invoke a b => rw [hc] at h; cases h
    | value f => rw [hc] at h; cases h
mutual
theorem beqV_s : ∀ (a b : FV), beqV a b = true → a = b
  | .int k x, y, h => by cases y <;> simp only [beqV] at h <;> (try (cases h; done)); obtain ⟨h1, h2⟩ := and_true' h; have h1 := keq_ok h1; rw [ieq_eq] at h2; simp at h2; subst h1; subst h2; rfl
  | .bool x, y, h => by cases y <;> simp only [beqV] at h <;> (try (cases h; done)); simp at h; subst h; rfl
  | .str x, y, h => by cases y <;> simp only [beqV] at h <;> (try (cases h; done)); have h := (seq_iff _ _).1 h; subst h; rfl
  | .ptr i o, y, h => by cases y <;> simp only [beqV] at h <;> (try (cases h; done)); obtain ⟨h1, h2⟩ := and_true' h; rw [beq h1, beq h2]
  | .slice i o l c d, y, h => by cases y <;> simp only [beqV] at h <;> (try (cases h; done)); obtain ⟨h1, h⟩ := and_true' h; obtain ⟨h2, h⟩ := and_true' h; obtain ⟨h3, h⟩ := and_true' h; obtain ⟨h4, h⟩ := and_true' h; simp at h4; rw [beq h1, beq h2, beq h3, h4, beq h]
  | .nilp, y, h => by cases y <;> simp only [beqV] at h <;> first | rfl | cases h
  | .nils, y, h => by cases y <;> simp only [beqV] at h <;> first | rfl | cases h
  | .emp i o c q s, y, h => by cases y <;> simp only [beqV] at h <;> (try (cases h; done)); obtain ⟨h1, h⟩ := and_true' h; obtain ⟨h2, h⟩ := and_true' h; obtain ⟨h3, h⟩ := and_true' h; obtain ⟨h4, h⟩ := and_true' h; rw [beq h1, beq h2, beq h3, beq h4, beq h]
  | .map i, y, h => by cases y <;> simp only [beqV] at h <;> (try (cases h; done)); rw [beq h]
  | .nilm, y, h => by cases y <;> simp only [beqV] at h <;> first | rfl | cases h
  | .fn f a b, y, h => by cases y <;> simp only [beqV] at h <;> (try (cases h; done)); obtain ⟨h1, h⟩ := and_true' h; obtain ⟨h2, h⟩ := and_true' h; rw [beq h1, beqVs_s _ _ h2, beqVs_s _ _ h]
  | .yl i, y, h => by cases y <;> simp only [beqV] at h <;> (try (cases h; done)); rw [beq h]
  | .nilf, y, h => by cases y <;> simp only [beqV] at h <;> first | rfl | cases h
  | .agg a, y, h => by cases y <;> simp only [beqV] at h <;> (try (cases h; done)); rw [beqVs_s _ _ h]
  | .tup a, y, h => by cases y <;> simp only [beqV] at h <;> (try (cases h; done)); rw [beqVs_s _ _ h]
theorem beqVs_s : ∀ (a b : List FV), beqVs a b = true → a = b
  | [], y, h => by cases y <;> simp only [beqVs] at h <;> first | rfl | cases h
  | a :: x, y, h => by
    cases y with
    | nil => simp [beqVs] at h
    | cons b y => simp only [beqVs] at h; obtain ⟨h1, h2⟩ := and_true' h; rw [beqV_s _ _ h1, beqVs_s _ _ h2]
end
end Go.Ev

/-  -/
set_option linter.unusedVariables false
namespace Go.Ev
open Go.RowKit
section
variable {P : Program} {N : Nat} {ops : Array Oper}
theorem bits_iff (l : List Nat) (i : Nat) : (bits l).testBit i = true ↔ i ∈ l := by
  induction l with
  | nil => simp [bits]
  | cons t l ih =>
    simp only [bits, Nat.testBit_or, Nat.testBit_two_pow, Bool.or_eq_true, decide_eq_true_eq, ih, List.mem_cons]
    exact or_congr ⟨Eq.symm, Eq.symm⟩ Iff.rfl
theorem bits_no {l : List Nat} {i : Nat} : (bits l).testBit i = false ↔ i ∉ l := by
  rw [← bits_iff]; simp
theorem land_zero {a b : Nat} (h : Nat.beq (Nat.land a b) 0 = true) (i : Nat) (ha : a.testBit i = true) : b.testBit i = false := by
  have h1 : a &&& b = 0 := beq h
  have : (a &&& b).testBit i = false := by rw [h1]; simp
  rw [Nat.testBit_and, ha] at this
  simpa using this
theorem land_self {a b : Nat} : Nat.beq (Nat.land a b) a = true ↔ ∀ i, a.testBit i = true → b.testBit i = true := by
  constructor
  · intro h i hi
    have h1 : a &&& b = a := beq h
    rw [← h1, Nat.testBit_and] at hi
    exact (Bool.and_eq_true_iff.1 hi).2
  · intro h
    have : a &&& b = a := Nat.eq_of_testBit_eq fun i => by
      rw [Nat.testBit_and]
      cases ha : a.testBit i with
      | false => rfl
      | true => simp [h i ha]
    show Nat.beq (a &&& b) a = true
    rw [this, Nat.beq_refl]
/-! ### an operation behind its guard -/
theorem gB_cases {o : Oper} {f0 f : OpT} (hg : gB N ops f0 o.guard = .mk f) {σ : Ren} {n : Nat} {ts : T3} {a : Act} (hT : TR σ n N ts a.tmps) {call : CallT} {h : FH} {k : KV} {v : FV} {hf : FH} (he : f call ts h k = .ok v hf) :
    (Region.wanted o (yielded ops a.tmps) = true ∧ f0 call ts h k = .ok v hf) ∨ (Region.wanted o (yielded ops a.tmps) = false ∧ k (.tup []) h = .ok v hf) := by
  cases hgd : o.guard with
  | none =>
    rw [hgd] at hg; simp only [gB, OBox.mk.injEq] at hg; subst hg
    exact .inl ⟨by simp [Region.wanted, hgd], he⟩
  | some gw =>
    obtain ⟨j, want⟩ := gw
    rw [hgd] at hg
    simp only [gB] at hg
    cases hj : ops[j]? with
    | none => rw [hj] at hg; simp only [OBox.mk.injEq] at hg; subst hg; cases he
    | some o' =>
      rw [hj] at hg
      simp only at hg
      cases hd : o'.dst with
      | none => rw [hd] at hg; simp only [OBox.mk.injEq] at hg; subst hg; cases he
      | some d =>
        rw [hd] at hg
        simp only at hg
        rw [cP_eq] at hg
        by_cases hc : d + 1 ≤ N ∧ d ≤ 215
        · rw [if_pos hc] at hg
          simp only [OBox.mk.injEq] at hg
          subst hg
          have he := (gdK_eq _ _ _ _ _).symm.trans he
          obtain ⟨y, hy, he2⟩ := opt_ok he
          obtain ⟨hy1, hy2⟩ := hT.2 d y hc.1 hc.2 hy
          have hyield : yielded ops a.tmps j = (match val σ y with | .bool b => some b | _ => none) := by
            unfold yielded
            simp only [hj, Option.bind_some, hd, hy1]
            cases val σ y <;> rfl
          have other : (∀ b, y ≠ .bool b) → (k (.tup []) h = .ok v hf) → Region.wanted o (yielded ops a.tmps) = false := by
            intro hb _
            simp only [Region.wanted, hgd, hyield]
            cases y <;> first | exact absurd rfl (hb _) | rfl
          cases y with
          | bool b =>
            simp only [val] at hyield
            cases hb : (bif want then b else !b) with
            | true =>
              have he3 : (match (bif want then b else !b) with | true => f0 call ts h k | false => k (.tup []) h) = .ok v hf := he2
              rw [hb] at he3
              refine .inl ⟨?_, he3⟩
              simp only [Region.wanted, hgd, hyield]
              cases want <;> cases b <;> simp_all
            | false =>
              have he3 : (match (bif want then b else !b) with | true => f0 call ts h k | false => k (.tup []) h) = .ok v hf := he2
              rw [hb] at he3
              refine .inr ⟨?_, he3⟩
              simp only [Region.wanted, hgd, hyield]
              cases want <;> cases b <;> simp_all
          | _ => exact .inr ⟨other (by simp) he2, he2⟩
        · rw [if_neg hc] at hg
          simp only [OBox.mk.injEq] at hg; subst hg; cases he
theorem gB_pure {o : Oper} {f0 f : OpT} (hp : PurS P N o f0) (hg : gB N ops f0 o.guard = .mk f) {B : Nat} {w0 : World} {σ : Ren} {ts : T3} {h : FH} {a : Act} {w : World} {call : CallT} {k : KV} {v : FV} {hf : FH} (hR : HR P B w0 σ h w) (hT : TR σ h.next N ts a.tmps) (he : f call ts h k = .ok v hf) :
    ∃ u, k u h = .ok v hf ∧ u.ok h.next ∧ Hold P ops o (val σ u) a w := by
  rcases gB_cases hg hT he with ⟨hw, he⟩ | ⟨hw, he⟩
  · obtain ⟨u, e1, e2, e3⟩ := hp call k v hf hR hT he
    exact ⟨u, e1, e2, .inl ⟨hw, e3⟩⟩
  · exact ⟨.tup [], he, by simp [FV.ok, oks], .inr ⟨hw, rfl⟩⟩
theorem gB_eff {i : Nat} {o : Oper} {f0 f : OpT} (hp : OpS P N o f0) (hg : gB N ops f0 o.guard = .mk f) (hi : ops[i]? = some o) {B : Nat} {w0 : World} {σ : Ren} {ts : T3} {h : FH} {a : Act} {w : World} {call : CallT} {k : KV} {v : FV} {hf : FH} (hC : CallS P call) (hR : HR P B w0 σ h w) (hT : TR σ h.next N ts a.tmps) (he : f call ts h k = .ok v hf)
    {r : Option Nat} {n : Nat} {Q : Exit → Act → World → Prop} {K : Act → World → Prop} (hK : ∀ u h1 σ' w', k u h1 = .ok v hf → h1.ro = h.ro → h.next ≤ h1.next → Ext h.next σ σ' → HR P B w0 σ' h1 w' → u.ok h1.next → K (a.put o.dst (val σ' u)) w') :
    wpOpIn (FW r) n P ops Q i K a w := by
  unfold wpOpIn
  simp only [hi]
  rcases gB_cases hg hT he with ⟨hw, he⟩ | ⟨hw, he⟩
  · simp only [hw, if_true]
    exact hp call k v hf hC hR hT he r n K Q hK
  · simp only [hw, Bool.false_eq_true, if_false]
    exact ⟨fun _ _ => trivial, hK (.tup []) h σ w he rfl (Nat.le_refl _) (Ext.refl _ _) hR (by simp [FV.ok, oks])⟩
/-! ### watches -/
def CkW (P : Program) (B : Nat) (w0 : World) (σ : Ren) (h : FH) (m : Nat × (World → Prop)) (c : CK) : Prop :=
  ∀ σ' h' w', h.next ≤ h'.next → Ext h.next σ σ' → HR P B w0 σ' h' w' → ∀ r v hf, c h' r = .ok v hf → r = .ok v hf ∧ m.2 w'
def WSs (P : Program) (B : Nat) (w0 : World) (σ : Ren) (h : FH) : List (Nat × (World → Prop)) → List CK → Prop
  | [], [] => True
  | m :: M, c :: cs => CkW P B w0 σ h m c ∧ WSs P B w0 σ h M cs
  | _, _ => False
theorem CkW.ext {B : Nat} {w0 : World} {σ σ' : Ren} {h h' : FH} {m : Nat × (World → Prop)} {c : CK} (H : CkW P B w0 σ h m c) (hn : h.next ≤ h'.next) (he : Ext h.next σ σ') : CkW P B w0 σ' h' m c :=
  fun σ'' h'' w'' h1 h2 h3 r v hf hr => H σ'' h'' w'' (Nat.le_trans hn h1) (he.trans h2 hn) h3 r v hf hr
theorem WSs.ext {B : Nat} {w0 : World} {σ σ' : Ren} {h h' : FH} : ∀ {M : List (Nat × (World → Prop))} {cs : List CK}, WSs P B w0 σ h M cs → h.next ≤ h'.next → Ext h.next σ σ' → WSs P B w0 σ' h' M cs
  | [], [], _, _, _ => trivial
  | m :: M, c :: cs, H, hn, he => ⟨H.1.ext hn he, H.2.ext hn he⟩
  | [], _ :: _, H, _, _ => H.elim
  | _ :: _, [], H, _, _ => H.elim
theorem recheck_s {B : Nat} {w0 : World} {σ σ' : Ren} {h h' : FH} {w' : World} {v : FV} {hf : FH} {bm : Nat} (hn : h.next ≤ h'.next) (he : Ext h.next σ σ') (hR : HR P B w0 σ' h' w') : ∀ (M : List (Nat × (World → Prop))) (cs : List CK) (k : List CK → Ro), WSs P B w0 σ h M cs →
    recheck ((M.map (·.1)).map fun m => !Nat.testBit bm m) cs h' k = .ok v hf → ∃ cs', k cs' = .ok v hf ∧ WSs P B w0 σ' h' (M.filter fun m => !Nat.testBit bm m.1) cs' ∧ ∀ m ∈ M, Nat.testBit bm m.1 = false → m.2 w'
  | [], [], k, H, e => ⟨[], e, trivial, fun m hm => by cases hm⟩
  | [], _ :: _, k, H, e => H.elim
  | _ :: _, [], k, H, e => H.elim
  | m :: M, c :: cs, k, H, e => by
    simp only [List.map_cons, recheck_cons] at e
    cases hb : Nat.testBit bm m.1 with
    | true =>
      rw [hb] at e
      obtain ⟨cs', e1, e2, e3⟩ := recheck_s hn he hR M cs k H.2 e
      refine ⟨cs', e1, by simpa [List.filter_cons, hb] using e2, fun x hx hxb => ?_⟩
      rcases List.mem_cons.1 hx with rfl | hx
      · rw [hb] at hxb; cases hxb
      · exact e3 x hx hxb
    | false =>
      rw [hb] at e
      have e' : c h' (recheck ((M.map (·.1)).map fun m => !Nat.testBit bm m) cs h' fun r => k (c :: r)) = .ok v hf := e
      obtain ⟨f1, f2⟩ := H.1 σ' h' w' hn he hR _ _ _ e'
      obtain ⟨cs', e1, e2, e3⟩ := recheck_s hn he hR M cs _ H.2 f1
      refine ⟨c :: cs', e1, ?_, fun x hx hxb => ?_⟩
      · simp only [List.filter_cons, hb, Bool.not_false, if_true]
        exact ⟨H.1.ext hn he, e2⟩
      · rcases List.mem_cons.1 hx with rfl | hx
        · exact f2
        · exact e3 x hx hxb
/-! ### the plan -/
def DIs (P : Program) (N : Nat) (ops : Array Oper) (bms : List Nat) (d : DI) : Prop :=
  ∃ i o f0 f s, ops[i]? = some o ∧ d = .mk i (bits o.dst.toList) (bits (o.looksAt ops)) (aftM o) (bms.getD i 0) (pureOp P o) f s ∧ cD N o.dst = .mk s ∧ (bif pureOp P o then cOpD P N o else cOp P N o) = .mk f0 ∧ gB N ops f0 o.guard = .mk f
theorem mkDI_s {bms : List Nat} : ∀ (l : List Oper) (i : Nat) (r : List DI), (∀ j, l[j]? = ops[i + j]? ∨ l[j]? = none) → mkDI P N ops bms l i = some r → (∀ d ∈ r, DIs P N ops bms d) ∧ r.map DI.i = List.range' i l.length
  | [], i, r, hl, h => by simp only [mkDI, Option.some.injEq] at h; subst h; exact ⟨fun d hd => (by cases hd), rfl⟩
  | o :: l, i, r, hl, h => by
    have ho : ops[i]? = some o := by
      rcases hl 0 with h | h
      · simpa using h.symm
      · simp at h
    have hl' : ∀ j, l[j]? = ops[i + 1 + j]? ∨ l[j]? = none := fun j => by have := hl (j + 1); simpa [Nat.add_assoc, Nat.add_comm 1 j] using this
    simp only [mkDI] at h
    cases hs : cD N o.dst with
    | no => rw [hs] at h; cases h
    | mk s =>
      rw [hs] at h
      simp only at h
      obtain ⟨f0, hf0⟩ : ∃ f0, (bif pureOp P o then cOpD P N o else cOp P N o) = .mk f0 := by cases hx : (bif pureOp P o then cOpD P N o else cOp P N o) with | mk f => exact ⟨f, rfl⟩
      rw [hf0] at h
      simp only at h
      obtain ⟨f, hf⟩ : ∃ f, gB N ops f0 o.guard = .mk f := by cases hx : gB N ops f0 o.guard with | mk f => exact ⟨f, rfl⟩
      rw [hf] at h
      simp only at h
      cases hr : mkDI P N ops bms l (i + 1) with
      | none => rw [hr] at h; cases h
      | some r' =>
        rw [hr] at h
        simp only [Option.some.injEq] at h; subst h
        obtain ⟨a1, a2⟩ := mkDI_s l (i + 1) r' hl' hr
        refine ⟨fun d hd => ?_, by simp [a2, DI.i, List.range'_succ]⟩
        rcases List.mem_cons.1 hd with rfl | hd
        · exact ⟨i, o, f0, f, s, ho, rfl, hs, hf0, hf⟩
        · exact a1 d hd
structure Inv (P : Program) (N : Nat) (ops : Array Oper) (bms : List Nat) (listed : Array Bool) (rem : List DI) (L : Nat) : Prop where
  size : listed.size = ops.size
  rems : rem.map DI.i = (List.range ops.size).filter fun i => !listed.getD i true
  ok : ∀ d ∈ rem, DIs P N ops bms d
  hL : ∀ i, L.testBit i = listed.getD i false
variable {bms : List Nat} {listed : Array Bool} {rem : List DI} {L : Nat}
theorem okD_iff {o : Oper} {i dm lm bm : Nat} {pu : Bool} {f : OpT} {s : Option FV → T3 → T3} (hL : ∀ i, L.testBit i = listed.getD i false) :
    okD L (.mk i dm lm (aftM o) bm pu f s) = true ↔ ∀ e ∈ o.after, Region.binds .any e = true → listed.getD e.on false = true := by
  unfold okD
  simp only [DI.am]
  rw [land_self]
  constructor
  · intro h e he hb
    rw [← hL]
    refine h e.on ?_
    unfold aftM
    rw [bits_iff]
    exact List.mem_map.2 ⟨e, List.mem_filter.2 ⟨by simpa using he, hb⟩, rfl⟩
  · intro h i hi
    unfold aftM at hi
    rw [bits_iff] at hi
    obtain ⟨e, he, rfl⟩ := List.mem_map.1 hi
    obtain ⟨he, hb⟩ := List.mem_filter.1 he
    rw [hL]
    exact h e (by simpa using he) hb
theorem Inv.ready (I : Inv P N ops bms listed rem L) : Region.ready .any ops listed = (rem.filter (okD L)).map DI.i := by
  have h1 : Region.ready .any ops listed = ((List.range ops.size).filter fun i => !listed.getD i true).filter fun i => ((ops[i]?).map (·.after.all fun e => !Region.binds .any e || listed.getD e.on false)).getD false := by
    rw [List.filter_filter]
    unfold Region.ready
    congr 1
    funext i
    rw [Bool.and_comm]
  rw [h1, ← I.rems, List.filter_map]
  congr 1
  refine List.filter_congr fun d hd => ?_
  obtain ⟨i, o, f0, f, s, hi, rfl, _⟩ := I.ok d hd
  have := okD_iff (i := i) (dm := bits o.dst.toList) (lm := bits (o.looksAt ops)) (bm := bms.getD i 0) (pu := pureOp P o) (f := f) (s := s) (o := o) I.hL
  rw [Bool.eq_iff_iff, this]
  simp only [Function.comp, DI.i, hi, Option.map_some, Option.getD_some, Array.all_eq_true_iff_forall_mem, Bool.or_eq_true, Bool.not_eq_true']
  refine forall_congr' fun e => forall_congr' fun he => ?_
  cases Region.binds .any e <;> simp
theorem Inv.of (I : Inv P N ops bms listed rem L) {j : Nat} (h1 : j < ops.size) (h2 : listed.getD j true = false) : ∃ d ∈ rem, d.i = j := by
  have : j ∈ rem.map DI.i := by rw [I.rems]; exact List.mem_filter.2 ⟨List.mem_range.2 h1, by simpa using h2⟩
  obtain ⟨d, hd, e⟩ := List.mem_map.1 this
  exact ⟨d, hd, e⟩
theorem Inv.next (I : Inv P N ops bms listed rem L) {i : Nat} (hi : i < ops.size) : Inv P N ops bms (listed.setIfInBounds i true) (rmD i rem) (Nat.lor L (2 ^ i)) where
  size := by simp [I.size]
  rems := by
    unfold rmD
    have e1 : (List.filter (fun x => !Nat.beq x.i i) rem).map DI.i = (rem.map DI.i).filter fun x => !Nat.beq x i := by rw [List.filter_map]; rfl
    rw [e1, I.rems, List.filter_filter]
    refine List.filter_congr fun j hj => ?_
    have hlt := List.mem_range.1 hj
    by_cases hji : i = j
    · subst hji
      simp [Nat.beq_refl, I.size, hi]
    · rw [getD_set_ne true hji]
      have : Nat.beq j i = false := by
        cases hb : Nat.beq j i with
        | false => rfl
        | true => exact absurd (beq hb).symm hji
      simp [this]
  ok := fun d hd => I.ok d (List.mem_filter.1 hd).1
  hL := fun j => by
    show (L ||| 2 ^ i).testBit j = _
    rw [Nat.testBit_or, I.hL, Nat.testBit_two_pow]
    by_cases hji : i = j
    · subst hji
      simp [I.size, hi]
    · rw [getD_set_ne false hji]; simp [hji]
end
end Go.Ev

/-  -/
set_option linter.unusedVariables false
set_option linter.unusedSectionVars false
namespace Go.Ev
open Go.RowKit
/-! ### the same state under other numbers -/
theorem allN_s {f : Nat → Bool} : ∀ {n : Nat}, allN f n = true → ∀ j, j < n → f j = true
  | 0, _, j, h => absurd h (Nat.not_lt_zero _)
  | n + 1, he, j, h => by
    have he' : (bif f n then allN f n else false) = true := he
    cases hf : f n with
    | false => rw [hf] at he'; cases he'
    | true =>
      rw [hf] at he'
      rcases Nat.lt_or_eq_of_le (Nat.le_of_lt_succ h) with h | h
      · exact allN_s he' j h
      · subst h; exact hf
def Ren.by (σ : Ren) (r : Nat → Nat) : Ren := ⟨fun j => σ.blk (r j), fun j => σ.base (r j), fun j => σ.cap (r j), fun j => σ.emp (r j)⟩
theorem keysB_s {α : Type} {n : Nat} : ∀ {t : KT α}, keysB n t = true → ∀ c i v, t.get c i = some v → i < n
  | .nil, _, c, i, v, h => by cases h
  | .node k x l r, he, c, i, v, h => by
    have he' : (@Bool.rec (fun _ => Bool) false (@Bool.rec (fun _ => Bool) false (keysB n r) (keysB n l)) (Nat.ble (Nat.succ k) n)) = true := he
    cases h1 : Nat.ble (k + 1) n with
    | false => rw [h1] at he'; cases he'
    | true =>
      rw [h1] at he'
      have he2 : (@Bool.rec (fun _ => Bool) false (keysB n r) (keysB n l)) = true := he'
      cases h2 : keysB n l with
      | false => rw [h2] at he2; cases he2
      | true =>
        rw [h2] at he2
        have h3 : keysB n r = true := he2
        cases c with
        | zero =>
          rw [KT.get_zero] at h
          by_cases hk : k = i
          · subst hk; exact ble h1
          · rw [if_neg hk] at h; cases h
        | succ c =>
          rw [KT.get_succ] at h
          split at h
          · exact keysB_s h2 _ _ _ h
          · exact keysB_s h3 _ _ _ h
section
variable {σ : Ren} {r r' : Nat → Nat} {n : Nat} (hr : ∀ i, i < n → r i < n ∧ r' (r i) = i)
include hr
mutual
theorem eqR_s : ∀ (x y : FV), eqR r x y = true → x.ok n → val (σ.by r') y = val σ x ∧ y.ok n ∧ y.flat = x.flat
  | .int k a, y, h, ho => by
    cases y <;> simp only [eqR] at h <;> try (cases h; done)
    obtain ⟨h1, h2⟩ := and_true' h
    have h1 := keq_ok h1; rw [ieq_eq] at h2; simp at h2; subst h1; subst h2; exact ⟨rfl, trivial, rfl⟩
  | .bool a, y, h, ho => by
    cases y <;> simp only [eqR] at h <;> try (cases h; done)
    have := beq_iff_eq.1 h; subst this; exact ⟨rfl, trivial, rfl⟩
  | .str a, y, h, ho => by
    cases y <;> simp only [eqR] at h <;> try (cases h; done)
    have h := (seq_iff _ _).1 h; subst h; exact ⟨rfl, ho, rfl⟩
  | .ptr i o, y, h, ho => by
    cases y <;> simp only [eqR] at h <;> try (cases h; done)
    obtain ⟨h1, h2⟩ := and_true' h
    have h1 := beq h1; have h2 := beq h2; subst h1; subst h2
    obtain ⟨a, b⟩ := hr i ho
    exact ⟨by simp only [val, Ren.by, b], a, rfl⟩
  | .slice i o l c d, y, h, ho => by
    cases y <;> simp only [eqR] at h <;> try (cases h; done)
    obtain ⟨h1, h⟩ := and_true' h
    obtain ⟨h2, h⟩ := and_true' h
    obtain ⟨h3, h⟩ := and_true' h
    obtain ⟨h4, h5⟩ := and_true' h
    have h1 := beq h1; have h2 := beq h2; have h3 := beq h3; have h4 := beq_iff_eq.1 h4; have h5 := beq h5
    subst h1; subst h2; subst h3; subst h4; subst h5
    obtain ⟨a, b⟩ := hr i ho
    exact ⟨by simp only [val, Ren.by, b], a, rfl⟩
  | .nilp, y, h, ho => by cases y <;> simp only [eqR] at h <;> first | (cases h; done) | exact ⟨rfl, trivial, rfl⟩
  | .nils, y, h, ho => by cases y <;> simp only [eqR] at h <;> first | (cases h; done) | exact ⟨rfl, trivial, rfl⟩
  | .emp i o c q s, y, h, ho => by
    cases y <;> simp only [eqR] at h <;> try (cases h; done)
    obtain ⟨h1, h⟩ := and_true' h
    obtain ⟨h2, h⟩ := and_true' h
    obtain ⟨h3, h⟩ := and_true' h
    obtain ⟨h4, h5⟩ := and_true' h
    have h1 := beq h1; have h2 := beq h2; have h3 := beq h3; have h4 := beq h4; have h5 := beq h5
    subst h1; subst h2; subst h3; subst h4; subst h5
    obtain ⟨a, b⟩ := hr i ho
    exact ⟨by simp only [val, empA, Ren.by, b], a, rfl⟩
  | .map i, y, h, ho => by
    cases y <;> simp only [eqR] at h <;> try (cases h; done)
    have h1 := beq h; subst h1
    obtain ⟨a, b⟩ := hr i ho
    exact ⟨by simp only [val, Ren.by, b], a, rfl⟩
  | .nilm, y, h, ho => by cases y <;> simp only [eqR] at h <;> first | (cases h; done) | exact ⟨rfl, trivial, rfl⟩
  | .fn f a b, y, h, ho => by
    cases y <;> simp only [eqR] at h <;> try (cases h; done)
    obtain ⟨h1, h⟩ := and_true' h
    obtain ⟨h2, h3⟩ := and_true' h
    have h1 := beq h1; subst h1
    obtain ⟨a1, a2, a3⟩ := eqRs_s a _ h2 ho.1
    obtain ⟨b1, b2, b3⟩ := eqRs_s b _ h3 ho.2
    exact ⟨by simp only [val, a1, b1], ⟨a2, b2⟩, rfl⟩
  | .yl i, y, h, ho => by
    cases y <;> simp only [eqR] at h <;> try (cases h; done)
    have h1 := beq h; subst h1
    obtain ⟨a, b⟩ := hr i ho
    exact ⟨by simp only [val, Ren.by, b], a, rfl⟩
  | .nilf, y, h, ho => by cases y <;> simp only [eqR] at h <;> first | (cases h; done) | exact ⟨rfl, trivial, rfl⟩
  | .agg a, y, h, ho => by
    cases y <;> simp only [eqR] at h <;> try (cases h; done)
    obtain ⟨a1, a2, a3⟩ := eqRs_s a _ h ho.1
    exact ⟨by simp only [val, a1], ⟨a2, by rw [a3]; exact ho.2⟩, rfl⟩
  | .tup a, y, h, ho => by
    cases y <;> simp only [eqR] at h <;> try (cases h; done)
    obtain ⟨a1, a2, a3⟩ := eqRs_s a _ h ho
    exact ⟨by simp only [val, a1], a2, rfl⟩
theorem eqRs_s : ∀ (xs ys : List FV), eqRs r xs ys = true → oks n xs → vals (σ.by r') ys = vals σ xs ∧ oks n ys ∧ ys.all FV.flat = xs.all FV.flat
  | [], y, h, ho => by cases y <;> simp only [eqRs] at h <;> first | (cases h; done) | exact ⟨rfl, trivial, rfl⟩
  | x :: xs, y, h, ho => by
    cases y <;> simp only [eqRs] at h <;> try (cases h; done)
    obtain ⟨h1, h2⟩ := and_true' h
    obtain ⟨a1, a2, a3⟩ := eqR_s x _ h1 ho.1
    obtain ⟨b1, b2, b3⟩ := eqRs_s xs _ h2 ho.2
    exact ⟨by simp only [vals, a1, b1], ⟨a2, b2⟩, by simp only [List.all_cons, a3, b3]⟩
end
theorem eqO_s {x : Option FV} {y : FV} (h : eqO r x (some y) = true) : ∃ z, x = some z ∧ eqR r z y = true := by
  cases x with
  | none => cases h
  | some z => exact ⟨z, rfl, h⟩
theorem eqMs_s : ∀ (es es' : List (FV × FV × Nat)), eqMs r es es' = true → (∀ e ∈ es, e.1.ok n ∧ e.2.1.ok n) → es'.map (mE (σ.by r')) = es.map (mE σ) ∧ ∀ e ∈ es', e.1.ok n ∧ e.2.1.ok n
  | [], es', h, ho => by cases es' <;> simp only [eqMs] at h <;> first | (cases h; done) | exact ⟨rfl, fun e he => by cases he⟩
  | (a, b, c) :: es, es', h, ho => by
    cases es' with
    | nil => simp only [eqMs] at h; cases h
    | cons e' es' =>
      obtain ⟨a', b', c'⟩ := e'
      simp only [eqMs] at h
      obtain ⟨h1, h⟩ := and_true' h
      obtain ⟨h2, h⟩ := and_true' h
      obtain ⟨h3, h4⟩ := and_true' h
      have h3 := beq h3; subst h3
      obtain ⟨o1, o2⟩ := ho _ List.mem_cons_self
      obtain ⟨a1, a2, a3⟩ := eqR_s (σ := σ) hr a a' h1 o1
      obtain ⟨b1, b2, b3⟩ := eqR_s (σ := σ) hr b b' h2 o2
      obtain ⟨c1, c2⟩ := eqMs_s es es' h4 (fun e he => ho e (List.mem_cons_of_mem _ he))
      refine ⟨by simp only [List.map_cons, c1, mE, a1, b1], fun e he => ?_⟩
      rcases List.mem_cons.1 he with rfl | he
      · exact ⟨a2, b2⟩
      · exact c2 e he
theorem eqB_s {P : Program} {j : Nat} {o : Obj} {x y : Blk} (h : eqB r x y = true) (ho : BO P σ n (r' j) o x) : BO P (σ.by r') n j o y ∧ (y ≠ .dead ↔ x ≠ .dead) ∧ (Wr y ↔ Wr x) := by
  cases x with
  | cells t g m cs =>
    cases y <;> simp only [eqB] at h <;> try (cases h; done)
    obtain ⟨h1, h⟩ := and_true' h
    obtain ⟨h2, h⟩ := and_true' h
    obtain ⟨h3, h4⟩ := and_true' h
    have h1 := beq h1; have h2 := beq h2; have h3 := beq h3
    subst h1; subst h2; subst h3
    obtain ⟨c, fr, e1, e2, e3, e4, e5⟩ := ho
    refine ⟨⟨c, fr, e1, e2, e3, e4, fun j v hj hv => ?_⟩, ⟨fun _ => by simp, fun _ => by simp⟩, Iff.rfl⟩
    have := allN_s h4 j hj
    rw [hv] at this
    obtain ⟨z, z1, z2⟩ := eqO_s hr this
    obtain ⟨y1, y2, y3⟩ := e5 j z hj z1
    obtain ⟨x1, x2, x3⟩ := eqR_s (σ := σ) hr z v z2 y2
    exact ⟨by rw [x1]; exact y1, x2, by rw [x3]; exact y3⟩
  | map es c =>
    cases y <;> simp only [eqB] at h <;> try (cases h; done)
    obtain ⟨h1, h2⟩ := and_true' h
    have h2 := beq h2; subst h2
    obtain ⟨e1, e2⟩ := ho
    obtain ⟨a1, a2⟩ := eqMs_s (σ := σ) hr _ _ h1 e2
    exact ⟨⟨by rw [a1]; exact e1, a2⟩, ⟨fun _ => by simp, fun _ => by simp⟩, Iff.rfl⟩
  | siter s p =>
    cases y <;> simp only [eqB] at h <;> try (cases h; done)
    obtain ⟨h1, h2⟩ := and_true' h
    have h2 := beq h2; subst h2
    have h1 := (seq_iff _ _).1 h1; subst h1
    exact ⟨ho, ⟨fun _ => by simp, fun _ => by simp⟩, Iff.rfl⟩
  | mark =>
    cases y <;> simp only [eqB] at h <;> try (cases h; done)
    exact ⟨ho, ⟨fun _ => by simp, fun _ => by simp⟩, Iff.rfl⟩
  | dead =>
    cases y <;> simp only [eqB] at h <;> try (cases h; done)
    exact ⟨trivial, Iff.rfl, Iff.rfl⟩
  | loop _ _ _ _ _ _ _ => cases h
end
theorem eqv_s {P : Program} {B : Nat} {w0 w : World} {σ0 σ : Ren} {N n : Nat} {r r' : Nat → Nat} {ts1 ts2 : T3} {h1 h2 : FH} {tmps : Array Value} (he : eqv N n r r' ts1 h1 ts2 h2 = true)
    (hx : Ext n σ0 σ) (hR : HR P B w0 σ h2 w) (hT : TR σ h2.next N ts2 tmps) : ∃ σ', Ext n σ0 σ' ∧ n ≤ h1.next ∧ h1.ro = h2.ro ∧ HR P B w0 σ' h1 w ∧ TR σ' h1.next N ts1 tmps := by
  unfold eqv at he
  obtain ⟨c1, he⟩ := and_true' he
  obtain ⟨c2, he⟩ := and_true' he
  obtain ⟨c3, he⟩ := and_true' he
  obtain ⟨c4, he⟩ := and_true' he
  obtain ⟨c0, he⟩ := and_true' he
  obtain ⟨c5, he⟩ := and_true' he
  obtain ⟨c6, c7⟩ := and_true' he
  clear he
  have c1 := beq c1; have c2 := beq c2; have c3 := ble c3; have c4 := ble c4
  have R : ∀ j, j < h1.next → (r j < h1.next ∧ r' (r j) = j) ∧ (r' j < h1.next ∧ r (r' j) = j) ∧ (j < n → r' j = j) ∧ (n ≤ j → n ≤ r' j) := by
    intro j hj
    have h := allN_s c5 j hj
    cases hb : Nat.ble n j with
    | true =>
      rw [hb] at h
      have hb := ble hb
      obtain ⟨d1, h⟩ := and_true' (show (Nat.ble n (r j) && (Nat.ble (r j + 1) h1.next && (Nat.beq (r' (r j)) j && (Nat.ble n (r' j) && (Nat.ble (r' j + 1) h1.next && Nat.beq (r (r' j)) j))))) = true from h)
      obtain ⟨d2, h⟩ := and_true' h
      obtain ⟨d3, h⟩ := and_true' h
      obtain ⟨d4, h⟩ := and_true' h
      obtain ⟨d5, d6⟩ := and_true' h
      have d1 := ble d1; have d2 := ble d2; have d3 := beq d3; have d4 := ble d4; have d5 := ble d5; have d6 := beq d6
      exact ⟨⟨d2, d3⟩, ⟨d5, d6⟩, fun hh => by omega, fun _ => d4⟩
    | false =>
      rw [hb] at h
      have hb' : ¬ n ≤ j := fun hh => by
        have := Nat.ble_eq_true_of_le hh
        rw [this] at hb; cases hb
      obtain ⟨d1, d2⟩ := and_true' (show (Nat.beq (r j) j && Nat.beq (r' j) j) = true from h)
      have d1 := beq d1; have d2 := beq d2
      exact ⟨⟨by rw [d1]; exact hj, by rw [d1, d2]⟩, ⟨by rw [d2]; exact hj, by rw [d2, d1]⟩, fun _ => d2, fun hh => absurd hh hb'⟩
  have hr : ∀ i, i < h2.next → r i < h2.next ∧ r' (r i) = i := fun i hi => by rw [← c1] at hi ⊢; exact (R i hi).1
  have L1 : ∀ i b, h1.get i = some b → i < h1.next := fun i b hb => keysB_s c0 i i b hb
  have B1 : ∀ i b, h1.get i = some b → ∃ b2, h2.get (r' i) = some b2 ∧ eqB r b2 b = true := by
    intro i b hb
    have h := allN_s c6 i (L1 i b hb)
    rw [hb] at h
    simp only at h
    cases hg : h2.get (r' i) with
    | none => rw [hg] at h; cases h
    | some b2 => rw [hg] at h; exact ⟨b2, rfl, h⟩
  have hfix : ∀ j, j < n → r' j = j := fun j hj => (R j (Nat.lt_of_lt_of_le hj c3)).2.2.1 hj
  have hro : ∀ j, h1.ro ≤ j → j < h1.next → h2.ro ≤ r' j := fun j hj hn => by
    rw [← c2]
    by_cases hjn : j < n
    · rw [hfix j hjn]; exact hj
    · exact Nat.le_trans c4 ((R j hn).2.2.2 (by omega))
  have hrlt : ∀ j, j < h1.ro → r' j = j := fun j hj => hfix j (Nat.lt_of_lt_of_le hj c4)
  have BO1 : ∀ i b, h1.get i = some b → b ≠ .dead → ∃ b2 o, h2.get (r' i) = some b2 ∧ b2 ≠ .dead ∧ (Wr b ↔ Wr b2) ∧ w.heap[σ.blk (r' i)]? = some o ∧ BO P (σ.by r') h1.next i o b := by
    intro i b hb hd
    obtain ⟨b2, e1, e2⟩ := B1 i b hb
    have hd2 : b2 ≠ .dead := by
      intro h; subst h
      cases b <;> simp only [eqB] at e2 <;> first | (cases e2; done) | exact hd rfl
    obtain ⟨o, ho, hbo⟩ := hR.blk _ _ e1 hd2
    obtain ⟨a1, a2, a3⟩ := eqB_s (P := P) hr e2 hbo
    exact ⟨b2, o, e1, hd2, a3, ho, by rw [c1]; exact a1⟩
  refine ⟨σ.by r', ⟨fun i hi => ?_, fun i hi => ?_, fun i hi => ?_, fun i hi => ?_⟩, c3, c2, ⟨hR.below, hR.hB, Nat.le_trans c4 c3, L1, ?_, ?_, ?_, ?_⟩, hT.1, ?_⟩
  · show σ.blk (r' i) = _; rw [hfix i hi]; exact hx.blk i hi
  · show σ.base (r' i) = _; rw [hfix i hi]; exact hx.base i hi
  · show σ.cap (r' i) = _; rw [hfix i hi]; exact hx.cap i hi
  · show σ.emp (r' i) = _; rw [hfix i hi]; exact hx.emp i hi
  · intro i b hb hd
    obtain ⟨b2, o, e1, e2, e3, e4, e5⟩ := BO1 i b hb hd
    exact ⟨o, e4, e5⟩
  · intro i b hb hw hi
    obtain ⟨b2, o, e1, e2, e3, e4, e5⟩ := BO1 i b hb hw.nd
    exact hR.own _ _ e1 (e3.1 hw) (hro i hi (L1 i b hb))
  · intro i b hb hd hi
    obtain ⟨b2, o, e1, e2, e3, e4, e5⟩ := BO1 i b hb hd
    exact hR.old _ _ e1 e2 (by rw [hrlt i hi, ← c2]; exact hi)
  · intro i j bi bj hi hj h1' h2' hw hri hrj heq
    obtain ⟨b2, o, e1, e2, e3, e4, e5⟩ := BO1 i bi hi h1'
    obtain ⟨b3, o', f1, f2, f3, f4, f5⟩ := BO1 j bj hj h2'
    have := hR.sep _ _ _ _ e1 f1 e2 f2 (hw.imp e3.1 f3.1) (hro i hri (L1 i bi hi)) (hro j hrj (L1 j bj hj)) heq
    rw [← (R i (L1 i bi hi)).2.1.2, ← (R j (L1 j bj hj)).2.1.2, this]
  · intro t v ht1 ht2 hv
    have h := allN_s c7 t (by omega)
    rw [cP_eq, if_pos ⟨ht1, ht2⟩] at h
    simp only [hv] at h
    obtain ⟨z, z1, z2⟩ := eqO_s hr h
    obtain ⟨y1, y2⟩ := hT.2 t z ht1 ht2 z1
    obtain ⟨x1, x2, x3⟩ := eqR_s (σ := σ) hr z v z2 y2
    exact ⟨by rw [x1]; exact y1, by rw [c1]; exact x2⟩
end Go.Ev
