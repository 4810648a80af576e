/- Walks and plain laws, part 8 of 8: The walk of FollowMore. Conditions: none beyond those that each theorem states. -/
import Derived.Test.YtnnkfgekiaaehaaB7
/- The walk of FollowMore. -/
namespace Go.Proofs.Ytnnkfgekiaaehaa
open Go.ChangeShapes Go.WideShapes Go.ChangeAt Go.RowKit
set_option linter.unusedVariables false

/-- the grammar with a production less lies in the box b9 -/
def MF (g : Gr) (k : Nat) (b9 : Nat) (a : GA) (V wx : World) : Prop :=
  Blk wx b9 26 (gcells (lessG g k) a) ∧ GrAt wx wx.heap.size (lessG g k) a ∧ Below V.heap.size V wx

set_option maxRecDepth 100000 in
set_option maxHeartbeats 8000000 in
theorem followMore_walk (A : Option Addr) (len cap : Nat) (zs : List Int) (pn b : Int) (w : World) (wz : IsInts w A len cap zs) (wp : (Lit.int .i64 pn).wf = true) (wb : (Lit.int .i64 b).wf = true) :
    Calls Try.prog 4 #[.slice A len cap, .int .i64 pn, .int .i64 b] w fun e w' => e = .returned (.bool true) ∧ Below w.heap.size w w' := by
  obtain ⟨hr, hwf, hlen⟩ := ints_reads wz
  have hAny := Lib.hid (any_any A len cap (zs.take len) w hr hlen hwf)
  have hsl := slight_any (zs.take len)
  have hpne : 1 ≤ (anyG (zs.take len)).prods.length := by
    have hc := ((gchk_iff _).1 hsl.ok).2.2.2.2.2.2.2
    have hnm := (gok_of hsl.ok).nm
    unfold compB at hc
    rw [List.all_eq_true] at hc
    have := hc 0 (List.mem_range.2 (by omega))
    rw [List.any_eq_true] at this
    obtain ⟨x, hx, _⟩ := this
    exact List.length_pos_of_mem hx
  generalize anyG (zs.take len) = g at *
  clear hr hwf hlen wz
  have hk := gok_of hsl.ok
  have hnm := hk.nm
  have hn9 : g.names.length ≤ 8 := hnm.2
  have hpl : g.prods.length ≤ 24 := hk.pl
  have hMo := Lib.hid (fun (W : World) => mod_any b g.names.length W wb (by omega) (by omega))
  have hMp := Lib.hid (fun (W : World) => mod_any pn g.prods.length W wp (by omega) (by omega))
  have hsy := symOf_nt hsl.ok b
  have hsyd : symOf g b = 16 + b % (g.names.length : Int) := rfl
  have hs1 := Int.emod_nonneg b (show (g.names.length : Int) ≠ 0 by omega)
  have hs2 := Int.emod_lt_of_pos b (show (0 : Int) < g.names.length by omega)
  have hs3 := Int.emod_nonneg pn (show (g.prods.length : Int) ≠ 0 by omega)
  have hs4 := Int.emod_lt_of_pos pn (show (0 : Int) < g.prods.length by omega)
  obtain ⟨k, hkm⟩ := Int.eq_ofNat_of_zero_le hs3
  rw [hkm] at hs3 hs4 hMp
  generalize hbm : b % (g.names.length : Int) = bm at *
  generalize symOf g b = s at *
  have hkn : k < g.prods.length := by omega
  have hOf := Lib.hid (fun (a : GA) (W : World) (h : GrAt W W.heap.size g a) => of_any g a s W h hsl.ok hsy (hsl.few s))
  have hOwn := Lib.hid (fun (a : GA) (W : World) (h : GrAt W W.heap.size g a) => own_any g a W h (by have := hk.tk; omega) (by omega) (by omega) (fun p hp => by have := (hk.pr p hp).2.1; omega))
  have hAw := Lib.hid (fun (W : World) => awake_any W)
  have hsm : Small (lessG g k) := ⟨by show g.toks.length ≤ _; have := hk.tk; omega, by show g.names.length ≤ _; omega, by show (cutP g.prods k).length ≤ _; rw [cutP_len _ _ hkn]; omega, fun p hp => by have := (hk.pr p (cutP_mem _ _ p hp)).2.1; omega⟩
  have hsl' := Lib.hid hsl
  have hsy' := Lib.hid hsy
  have hk' := Lib.hid hk
  have htk := hk.tk
  replace hbm := Lib.hid hbm
  replace hkm := Lib.hid hkm
  clear hsl hsy hk hnm wb wp
  go_enter Try.func4, Try.ntmps4
  go_upto_region 2 with (go_at_call 7; refine hAny.out.mono ?_; rintro e w1 ⟨⟨ta, tc, na, nc, pa, pc⟩, rfl, hg1, hb1⟩; simp only [gval, gcells])
  have hb2 : Below w1.heap.size w1 (w1.alloc (.cells #[.int .i64 g.k, .slice ta g.toks.length tc, .string g.sep, .slice na g.names.length nc, .int .i64 g.start, .slice pa g.prods.length pc] 26)) := bAlc (Below.refl _ _) _
  have q7 := Blk.new w1 26 #[.int .i64 g.k, .slice ta g.toks.length tc, .string g.sep, .slice na g.names.length nc, .int .i64 g.start, .slice pa g.prods.length pc]
  have hg2 := hg1.step hb2
  have hbw := bStep hb1 hb2
  clear hg1 hb2 hb1
  generalize w1.alloc (.cells #[.int .i64 g.k, .slice ta g.toks.length tc, .string g.sep, .slice na g.names.length nc, .int .i64 g.start, .slice pa g.prods.length pc] 26) = W1 at *
  generalize w1.heap.size = b7 at *
  have c0 := q7.cell 0
  have c1 := q7.cell 1
  have c2 := q7.cell 2
  have c3 := q7.cell 3
  have c4 := q7.cell 4
  have c5 := q7.cell 5
  simp only [List.getElem?_toArray, List.getElem?_cons_zero, List.getElem?_cons_succ] at c0 c1 c2 c3 c4 c5
  go_upto_region 3 with (go_at_call 8; refine (hMp.out _).mono ?_; rintro e w' ⟨rfl, rfl⟩)
  go_upto_region 4 with (go_at_call 10; refine (hOwn.out _ _ hg2).mono ?_; rintro e w4 ⟨⟨ta2, tc2, na2, nc2, pa2, pc2⟩, rfl, hg4, hp4, ho4, hb4⟩; simp only [gval, gcells])
  clear c0 c1 c2 c3 c4 c5
  have q9 := Blk.new w4 26 #[.int .i64 g.k, .slice ta2 g.toks.length tc2, .string g.sep, .slice na2 g.names.length nc2, .int .i64 g.start, .slice pa2 g.prods.length pc2]
  have hb5 : Below w4.heap.size w4 (w4.alloc (.cells #[.int .i64 g.k, .slice ta2 g.toks.length tc2, .string g.sep, .slice na2 g.names.length nc2, .int .i64 g.start, .slice pa2 g.prods.length pc2] 26)) := bAlc (Below.refl _ _) _
  have hbX := bStep hb4 hb5
  have hp5 := hp4.step hb5
  have ht5 := ho4.1.step hb5
  have hn5 := ho4.2.step hb5
  have h4s : W1.heap.size ≤ w4.heap.size := hb4.size
  have hsep := hg4.sep
  have hts := hg4.ts
  have hns := hg4.ns
  clear hg4 hp4 ho4 hb4 hb5
  generalize w4.alloc (.cells #[.int .i64 g.k, .slice ta2 g.toks.length tc2, .string g.sep, .slice na2 g.names.length nc2, .int .i64 g.start, .slice pa2 g.prods.length pc2] 26) = W5 at *
  generalize w4.heap.size = b9 at *
  have hD : Below W5.heap.size W5 W5.drew := (Below.refl _ _).drew
  obtain ⟨gb, rfl, hgb1, hgb2, hgb3, ⟨gcs, hgb4⟩, hcr⟩ := cutp_run (pk := pc2) (hp5.step hD) hkn
  go_cut [] (fun wx => MF g k b9 ⟨ta2, tc2, na2, nc2, some ⟨gb, 0, none⟩, pc2⟩ W1 wx)
  case first =>
    have c5 := q9.cell 5
    have f5 := q9.frozen 5
    simp only [List.getElem?_toArray, List.getElem?_cons_zero, List.getElem?_cons_succ] at c5
    obtain ⟨e1, he1⟩ : ∃ e1 : Nat, e1 = k + 1 := ⟨_, rfl⟩
    rw [← he1] at hcr
    have zw3 : IntKind.i64.wrap ((k : Int) + 1) = (e1 : Int) := by rw [he1]; exact IntWalk.i64_in _ (by omega)
    have hz1 : (0 : Int) ≤ e1 := by omega
    have hz2 : (e1 : Int) ≤ g.prods.length := by omega
    have hz3 : (e1 : Int) ≤ pc2 := by omega
    have hz4 : (k : Int) ≤ pc2 := by omega
    have hz5 : e1 ≤ g.prods.length := by omega
    have hz6 : ¬ e1 = 0 := by omega
    have hz7 : ¬ e1 * 2 = 0 := by omega
    have hz8 : (0 : Int) ≤ k := by omega
    have hz9 : ¬ pc2 = 0 := by omega
    have hz10 : k ≤ pc2 := by omega
    unfold maxLen at hgb3
    -- what the cut leaves
    have hend : Hid (∀ W', PsO W' W1.heap.size (.slice (some ⟨gb, 0, none⟩) (k + (g.prods.length - e1)) pc2) (cutP g.prods k) → W5.drew.grownBy W' (some gb) → W'.cell? ⟨b9, 5, none⟩ = some (.slice (some ⟨gb, 0, none⟩) g.prods.length pc2) ∧ W'.frozen? ⟨b9, 5, none⟩ = false ∧
        MF g k b9 ⟨ta2, tc2, na2, nc2, some ⟨gb, 0, none⟩, pc2⟩ W1 (W'.setCell ⟨b9, 5, none⟩ (.slice (some ⟨gb, 0, none⟩) (k + (g.prods.length - e1)) pc2))) := Lib.hid fun W' hps hg => by
      have hne : b9 ≠ gb := fun e => by subst e; cases blk_type (q9.step hD) hgb4
      have q9' := (q9.step hD).grown hg (fun e => by injection e with e; exact hne e)
      have hln : k + (g.prods.length - e1) = (cutP g.prods k).length := by rw [cutP_len _ _ hkn, he1]
      rw [hln] at hps ⊢
      have hst := grownBy_setC' W' b9 5 (.slice (some ⟨gb, 0, none⟩) (cutP g.prods k).length pc2)
      have hty : ∀ (e : TypeId), e ≠ 59 → ∀ (b : Nat) (cs : Array Value), some gb = some b → ¬ Blk W5.drew b e cs := fun e he b cs e1 hq => by injection e1 with e1; subst e1; exact he (blk_type hq hgb4)
      have hty2 : ∀ (e : TypeId), e ≠ 26 → ∀ (b : Nat) (cs : Array Value), some b9 = some b → ¬ Blk W' b e cs := fun e he b cs e1 hq => by injection e1 with e1; subst e1; exact he (blk_type hq q9')
      have ht6 := row_grown (row_grown (row_step ht5 hD) hg (hty 9 (by decide))) hst (hty2 9 (by decide))
      have hn6 := row_grown (row_grown (row_step hn5 hD) hg (hty 9 (by decide))) hst (hty2 9 (by decide))
      have hp6 := hps.grown hst (hty2 3 (by decide)) (hty2 59 (by decide))
      have hbb : Below W1.heap.size W1 (W'.setCell ⟨b9, 5, none⟩ (.slice (some ⟨gb, 0, none⟩) (cutP g.prods k).length pc2)) := by
        refine bSet ((hbX.trans (hD.mono hbX.size)).trans ⟨hg.os, hg.tape, hg.output, hg.size, fun j hj => hg.block j ?_ (fun e => ?_)⟩) _ _ h4s
        · have h1 := hbX.size; have h2 := hD.size; omega
        · injection e with e; omega
      obtain ⟨_, _, et, rt, x1, x2⟩ := own_strs (show Own1 _ W1.heap.size 9 _ (strs g.toks) from ht6)
      obtain ⟨_, _, en, rn, x3, x4⟩ := own_strs (show Own1 _ W1.heap.size 9 _ (strs g.names) from hn6)
      obtain ⟨_, _, ep, rp, x5, x6⟩ := hp6.reads
      cases et; cases en; cases ep
      exact ⟨q9'.cell 5, q9'.frozen 5, q9'.put 5 _, ⟨rt, x1, x2, rn, x3, x4, rp, x5, x6, hsep, hts, hns⟩, hbb⟩
    by_cases hcap : pc2 = e1
    · have hpe : g.prods.length - e1 = 0 := by omega
      obtain ⟨W9, hrun, hps9, hg9⟩ := hcr 0 0 (.inr hpe)
      obtain ⟨c5', f5', hend9⟩ := hend.out W9 hps9 hg9
      rw [hpe] at hrun hend9
      subst hcap
      replace hend := Lib.hid hend
      replace hend9 := Lib.hid hend9
      replace hps9 := Lib.hid hps9
      replace hcr := Lib.hid hcr
      replace he1 := Lib.hid he1
      replace hpe := Lib.hid hpe
      refine wp_region_held_drew (S := (fun _ => True)) (by kernel_rfl) trivial (fun hHeld => ?_)
      refine wpAnyH_take (i := 0) (oi := ⟨some 24, _, _, _, _, _⟩) (v := ?vn1) rfl (by kernel_rfl) (by kernel_rfl) (by kernel_rfl) (fun _ _ _ h => h) (Or.inl ⟨by rfl, ?hyn1⟩) (by assumption) ?restn1
      case hyn1 => (intro w hSw; (try dsimp only at hSw); go_simp <;> with_reducible rfl)
      try simp only [Act.put, List.setIfInBounds_toArray, List.set_cons_zero, List.set_cons_succ]
      refine wpAnyH_take (i := 2) (oi := ⟨some 26, _, _, _, _, _⟩) (v := ?vn2) rfl (by kernel_rfl) (by kernel_rfl) (by kernel_rfl) (fun _ _ _ h => h) (Or.inl ⟨by rfl, ?hyn2⟩) (by assumption) ?restn2
      case hyn2 => (intro w hSw; (try dsimp only at hSw); go_simp <;> with_reducible rfl)
      try simp only [Act.put, List.setIfInBounds_toArray, List.set_cons_zero, List.set_cons_succ]
      refine wpAnyH_take (i := 4) (oi := ⟨some 28, _, _, _, _, _⟩) (v := ?vn3) rfl (by kernel_rfl) (by kernel_rfl) (by kernel_rfl) (fun _ _ _ h => h) (Or.inl ⟨by rfl, ?hyn3⟩) (by assumption) ?restn3
      case hyn3 => (intro w hSw; (try dsimp only at hSw); go_simp <;> with_reducible rfl)
      try simp only [Act.put, List.setIfInBounds_toArray, List.set_cons_zero, List.set_cons_succ]
      refine wpAnyH_take (i := 6) (oi := ⟨some 30, _, _, _, _, _⟩) (v := ?vn4) rfl (by kernel_rfl) (by kernel_rfl) (by kernel_rfl) (fun _ _ _ h => h) (Or.inl ⟨by rfl, ?hyn4⟩) (by assumption) ?restn4
      case hyn4 => (intro w hSw; (try dsimp only at hSw); go_simp <;> with_reducible rfl)
      try simp only [Act.put, List.setIfInBounds_toArray, List.set_cons_zero, List.set_cons_succ]
      refine wpAnyH_take (i := 7) (oi := ⟨some 31, _, _, _, _, _⟩) (v := ?vn5) rfl (by kernel_rfl) (by kernel_rfl) (by kernel_rfl) (fun _ _ _ h => h) (Or.inl ⟨by rfl, ?hyn5⟩) (by assumption) ?restn5
      case hyn5 => (intro w hSw; (try dsimp only at hSw); go_simp <;> with_reducible rfl)
      try simp only [Act.put, List.setIfInBounds_toArray, List.set_cons_zero, List.set_cons_succ]
      refine wpAnyH_ready (rs := [1, 5]) (by kernel_rfl) (by simp) ?_
      refine AllReadyH.cons (o := ⟨some 25, _, _, _, _, _⟩) rfl (fun K hK => ?_) ?_
      · go_simp
        refine hK.out _ _ ?_ (fun hHeld => ?_)
        · trivial
        clear hK K
        try simp only [Act.put, List.setIfInBounds_toArray, List.set_cons_zero, List.set_cons_succ]
        refine wpAnyH_take (i := 3) (oi := ⟨some 27, _, _, _, _, _⟩) (v := ?vn6) rfl (by kernel_rfl) (by kernel_rfl) (by kernel_rfl) (fun _ _ _ h => h) (Or.inl ⟨by rfl, ?hyn6⟩) (by assumption) ?restn6
        case hyn6 => (intro w hSw; (try dsimp only at hSw); go_simp <;> with_reducible rfl)
        try simp only [Act.put, List.setIfInBounds_toArray, List.set_cons_zero, List.set_cons_succ]
        refine wpAnyH_ready (rs := [5]) (by kernel_rfl) (by simp) ?_
        refine AllReadyH.cons (o := ⟨some 29, _, _, _, _, _⟩) rfl (fun K hK => ?_) ?_
        · go_simp
          refine hK.out _ _ ?_ (fun hHeld => ?_)
          · trivial
          clear hK K
          try simp only [Act.put, List.setIfInBounds_toArray, List.set_cons_zero, List.set_cons_succ]
          refine wpAnyH_take (i := 8) (oi := ⟨some 32, _, _, _, _, _⟩) (v := ?vn7) rfl (by kernel_rfl) (by kernel_rfl) (by kernel_rfl) (fun _ _ _ h => h) (Or.inl ⟨by rfl, ?hyn7⟩) (by assumption) ?restn7
          case hyn7 => (intro w hSw; (try dsimp only at hSw); go_simp <;> with_reducible rfl)
          try simp only [Act.put, List.setIfInBounds_toArray, List.set_cons_zero, List.set_cons_succ]
          refine wpAnyH_ready (rs := [9]) (by kernel_rfl) (by simp) ?_
          refine AllReadyH.cons (o := ⟨some 33, _, _, _, _, _⟩) rfl (fun K hK => ?_) ?_
          · skip
            refine step_of_wp _ (by rfl) ?_
            refine wp_of_append _ _ _ (by rfl) _ _ (by rfl) (by rfl) _ _ hrun ?_
            refine hK.out _ _ ?_ (fun hHeld => ?_)
            · trivial
            clear hK K
            try simp only [Act.put, List.setIfInBounds_toArray, List.set_cons_zero, List.set_cons_succ]
            refine wpAnyH_take (i := 10) (oi := ⟨some 34, _, _, _, _, _⟩) (v := ?vn8) rfl (by kernel_rfl) (by kernel_rfl) (by kernel_rfl) (fun _ _ _ h => h) (Or.inl ⟨by rfl, ?hyn8⟩) (by assumption) ?restn8
            case hyn8 => (intro w hSw; (try dsimp only at hSw); go_simp <;> with_reducible rfl)
            try simp only [Act.put, List.setIfInBounds_toArray, List.set_cons_zero, List.set_cons_succ]
            refine wpAnyH_ready (rs := [11]) (by kernel_rfl) (by simp) ?_
            refine AllReadyH.cons (o := ⟨none, _, _, _, _, _⟩) rfl (fun K hK => ?_) ?_
            · go_simp
              refine hK.out _ _ ?_ (fun hHeld => ?_)
              · trivial
              clear hK K
              try simp only [Act.put, List.setIfInBounds_toArray, List.set_cons_zero, List.set_cons_succ]
              refine wpAnyH_done (by kernel_rfl) ?_ _
              go_wp2_with fail
              go_meet
              exact hend9.out
            exact AllReadyH.nil
          exact AllReadyH.nil
        exact AllReadyH.nil
      refine AllReadyH.cons (o := ⟨some 29, _, _, _, _, _⟩) rfl (fun K hK => ?_) ?_
      · go_simp
        refine hK.out _ _ ?_ (fun hHeld => ?_)
        · trivial
        clear hK K
        try simp only [Act.put, List.setIfInBounds_toArray, List.set_cons_zero, List.set_cons_succ]
        refine wpAnyH_take (i := 8) (oi := ⟨some 32, _, _, _, _, _⟩) (v := ?vn9) rfl (by kernel_rfl) (by kernel_rfl) (by kernel_rfl) (fun _ _ _ h => h) (Or.inl ⟨by rfl, ?hyn9⟩) (by assumption) ?restn9
        case hyn9 => (intro w hSw; (try dsimp only at hSw); go_simp <;> with_reducible rfl)
        try simp only [Act.put, List.setIfInBounds_toArray, List.set_cons_zero, List.set_cons_succ]
        refine wpAnyH_ready (rs := [1]) (by kernel_rfl) (by simp) ?_
        refine AllReadyH.cons (o := ⟨some 25, _, _, _, _, _⟩) rfl (fun K hK => ?_) ?_
        · go_simp
          refine hK.out _ _ ?_ (fun hHeld => ?_)
          · trivial
          clear hK K
          try simp only [Act.put, List.setIfInBounds_toArray, List.set_cons_zero, List.set_cons_succ]
          refine wpAnyH_take (i := 3) (oi := ⟨some 27, _, _, _, _, _⟩) (v := ?vn10) rfl (by kernel_rfl) (by kernel_rfl) (by kernel_rfl) (fun _ _ _ h => h) (Or.inl ⟨by rfl, ?hyn10⟩) (by assumption) ?restn10
          case hyn10 => (intro w hSw; (try dsimp only at hSw); go_simp <;> with_reducible rfl)
          try simp only [Act.put, List.setIfInBounds_toArray, List.set_cons_zero, List.set_cons_succ]
          refine wpAnyH_ready (rs := [9]) (by kernel_rfl) (by simp) ?_
          refine AllReadyH.cons (o := ⟨some 33, _, _, _, _, _⟩) rfl (fun K hK => ?_) ?_
          · skip
            refine step_of_wp _ (by rfl) ?_
            refine wp_of_append _ _ _ (by rfl) _ _ (by rfl) (by rfl) _ _ hrun ?_
            refine hK.out _ _ ?_ (fun hHeld => ?_)
            · trivial
            clear hK K
            try simp only [Act.put, List.setIfInBounds_toArray, List.set_cons_zero, List.set_cons_succ]
            refine wpAnyH_take (i := 10) (oi := ⟨some 34, _, _, _, _, _⟩) (v := ?vn11) rfl (by kernel_rfl) (by kernel_rfl) (by kernel_rfl) (fun _ _ _ h => h) (Or.inl ⟨by rfl, ?hyn11⟩) (by assumption) ?restn11
            case hyn11 => (intro w hSw; (try dsimp only at hSw); go_simp <;> with_reducible rfl)
            try simp only [Act.put, List.setIfInBounds_toArray, List.set_cons_zero, List.set_cons_succ]
            refine wpAnyH_ready (rs := [11]) (by kernel_rfl) (by simp) ?_
            refine AllReadyH.cons (o := ⟨none, _, _, _, _, _⟩) rfl (fun K hK => ?_) ?_
            · go_simp
              refine hK.out _ _ ?_ (fun hHeld => ?_)
              · trivial
              clear hK K
              try simp only [Act.put, List.setIfInBounds_toArray, List.set_cons_zero, List.set_cons_succ]
              refine wpAnyH_done (by kernel_rfl) ?_ _
              go_wp2_with fail
              go_meet
              exact hend9.out
            exact AllReadyH.nil
          exact AllReadyH.nil
        exact AllReadyH.nil
      exact AllReadyH.nil
    · obtain ⟨W9, hrun, hps9, hg9⟩ := hcr (e1 * 2) (pc2 - e1) (.inl (by rw [he1]))
      obtain ⟨c5', f5', hend9⟩ := hend.out W9 hps9 hg9
      replace hend := Lib.hid hend
      replace hend9 := Lib.hid hend9
      replace hps9 := Lib.hid hps9
      replace hcr := Lib.hid hcr
      have hcap' : ¬ pc2 = e1 := hcap
      replace he1 := Lib.hid he1
      refine wp_region_held_drew (S := (fun _ => True)) (by kernel_rfl) trivial (fun hHeld => ?_)
      refine wpAnyH_take (i := 0) (oi := ⟨some 24, _, _, _, _, _⟩) (v := ?vm1) rfl (by kernel_rfl) (by kernel_rfl) (by kernel_rfl) (fun _ _ _ h => h) (Or.inl ⟨by rfl, ?hym1⟩) (by assumption) ?restm1
      case hym1 => (intro w hSw; (try dsimp only at hSw); go_simp <;> with_reducible rfl)
      try simp only [Act.put, List.setIfInBounds_toArray, List.set_cons_zero, List.set_cons_succ]
      refine wpAnyH_take (i := 2) (oi := ⟨some 26, _, _, _, _, _⟩) (v := ?vm2) rfl (by kernel_rfl) (by kernel_rfl) (by kernel_rfl) (fun _ _ _ h => h) (Or.inl ⟨by rfl, ?hym2⟩) (by assumption) ?restm2
      case hym2 => (intro w hSw; (try dsimp only at hSw); go_simp <;> with_reducible rfl)
      try simp only [Act.put, List.setIfInBounds_toArray, List.set_cons_zero, List.set_cons_succ]
      refine wpAnyH_take (i := 4) (oi := ⟨some 28, _, _, _, _, _⟩) (v := ?vm3) rfl (by kernel_rfl) (by kernel_rfl) (by kernel_rfl) (fun _ _ _ h => h) (Or.inl ⟨by rfl, ?hym3⟩) (by assumption) ?restm3
      case hym3 => (intro w hSw; (try dsimp only at hSw); go_simp <;> with_reducible rfl)
      try simp only [Act.put, List.setIfInBounds_toArray, List.set_cons_zero, List.set_cons_succ]
      refine wpAnyH_take (i := 6) (oi := ⟨some 30, _, _, _, _, _⟩) (v := ?vm4) rfl (by kernel_rfl) (by kernel_rfl) (by kernel_rfl) (fun _ _ _ h => h) (Or.inl ⟨by rfl, ?hym4⟩) (by assumption) ?restm4
      case hym4 => (intro w hSw; (try dsimp only at hSw); go_simp <;> with_reducible rfl)
      try simp only [Act.put, List.setIfInBounds_toArray, List.set_cons_zero, List.set_cons_succ]
      refine wpAnyH_take (i := 7) (oi := ⟨some 31, _, _, _, _, _⟩) (v := ?vm5) rfl (by kernel_rfl) (by kernel_rfl) (by kernel_rfl) (fun _ _ _ h => h) (Or.inl ⟨by rfl, ?hym5⟩) (by assumption) ?restm5
      case hym5 => (intro w hSw; (try dsimp only at hSw); go_simp <;> with_reducible rfl)
      try simp only [Act.put, List.setIfInBounds_toArray, List.set_cons_zero, List.set_cons_succ]
      refine wpAnyH_ready (rs := [1, 5]) (by kernel_rfl) (by simp) ?_
      refine AllReadyH.cons (o := ⟨some 25, _, _, _, _, _⟩) rfl (fun K hK => ?_) ?_
      · go_simp
        refine hK.out _ _ ?_ (fun hHeld => ?_)
        · trivial
        clear hK K
        try simp only [Act.put, List.setIfInBounds_toArray, List.set_cons_zero, List.set_cons_succ]
        refine wpAnyH_take (i := 3) (oi := ⟨some 27, _, _, _, _, _⟩) (v := ?vm6) rfl (by kernel_rfl) (by kernel_rfl) (by kernel_rfl) (fun _ _ _ h => h) (Or.inl ⟨by rfl, ?hym6⟩) (by assumption) ?restm6
        case hym6 => (intro w hSw; (try dsimp only at hSw); go_simp <;> with_reducible rfl)
        try simp only [Act.put, List.setIfInBounds_toArray, List.set_cons_zero, List.set_cons_succ]
        refine wpAnyH_ready (rs := [5]) (by kernel_rfl) (by simp) ?_
        refine AllReadyH.cons (o := ⟨some 29, _, _, _, _, _⟩) rfl (fun K hK => ?_) ?_
        · go_simp
          refine hK.out _ _ ?_ (fun hHeld => ?_)
          · trivial
          clear hK K
          try simp only [Act.put, List.setIfInBounds_toArray, List.set_cons_zero, List.set_cons_succ]
          refine wpAnyH_take (i := 8) (oi := ⟨some 32, _, _, _, _, _⟩) (v := ?vm7) rfl (by kernel_rfl) (by kernel_rfl) (by kernel_rfl) (fun _ _ _ h => h) (Or.inl ⟨by rfl, ?hym7⟩) (by assumption) ?restm7
          case hym7 => (intro w hSw; (try dsimp only at hSw); go_simp <;> with_reducible rfl)
          try simp only [Act.put, List.setIfInBounds_toArray, List.set_cons_zero, List.set_cons_succ]
          refine wpAnyH_ready (rs := [9]) (by kernel_rfl) (by simp) ?_
          refine AllReadyH.cons (o := ⟨some 33, _, _, _, _, _⟩) rfl (fun K hK => ?_) ?_
          · skip
            refine step_of_wp _ (by rfl) ?_
            refine wp_of_append _ _ _ (by rfl) _ _ (by rfl) (by rfl) _ _ hrun ?_
            refine hK.out _ _ ?_ (fun hHeld => ?_)
            · trivial
            clear hK K
            try simp only [Act.put, List.setIfInBounds_toArray, List.set_cons_zero, List.set_cons_succ]
            refine wpAnyH_take (i := 10) (oi := ⟨some 34, _, _, _, _, _⟩) (v := ?vm8) rfl (by kernel_rfl) (by kernel_rfl) (by kernel_rfl) (fun _ _ _ h => h) (Or.inl ⟨by rfl, ?hym8⟩) (by assumption) ?restm8
            case hym8 => (intro w hSw; (try dsimp only at hSw); go_simp <;> with_reducible rfl)
            try simp only [Act.put, List.setIfInBounds_toArray, List.set_cons_zero, List.set_cons_succ]
            refine wpAnyH_ready (rs := [11]) (by kernel_rfl) (by simp) ?_
            refine AllReadyH.cons (o := ⟨none, _, _, _, _, _⟩) rfl (fun K hK => ?_) ?_
            · go_simp
              refine hK.out _ _ ?_ (fun hHeld => ?_)
              · trivial
              clear hK K
              try simp only [Act.put, List.setIfInBounds_toArray, List.set_cons_zero, List.set_cons_succ]
              refine wpAnyH_done (by kernel_rfl) ?_ _
              go_wp2_with fail
              go_meet
              exact hend9.out
            exact AllReadyH.nil
          exact AllReadyH.nil
        exact AllReadyH.nil
      refine AllReadyH.cons (o := ⟨some 29, _, _, _, _, _⟩) rfl (fun K hK => ?_) ?_
      · go_simp
        refine hK.out _ _ ?_ (fun hHeld => ?_)
        · trivial
        clear hK K
        try simp only [Act.put, List.setIfInBounds_toArray, List.set_cons_zero, List.set_cons_succ]
        refine wpAnyH_take (i := 8) (oi := ⟨some 32, _, _, _, _, _⟩) (v := ?vm9) rfl (by kernel_rfl) (by kernel_rfl) (by kernel_rfl) (fun _ _ _ h => h) (Or.inl ⟨by rfl, ?hym9⟩) (by assumption) ?restm9
        case hym9 => (intro w hSw; (try dsimp only at hSw); go_simp <;> with_reducible rfl)
        try simp only [Act.put, List.setIfInBounds_toArray, List.set_cons_zero, List.set_cons_succ]
        refine wpAnyH_ready (rs := [1]) (by kernel_rfl) (by simp) ?_
        refine AllReadyH.cons (o := ⟨some 25, _, _, _, _, _⟩) rfl (fun K hK => ?_) ?_
        · go_simp
          refine hK.out _ _ ?_ (fun hHeld => ?_)
          · trivial
          clear hK K
          try simp only [Act.put, List.setIfInBounds_toArray, List.set_cons_zero, List.set_cons_succ]
          refine wpAnyH_take (i := 3) (oi := ⟨some 27, _, _, _, _, _⟩) (v := ?vm10) rfl (by kernel_rfl) (by kernel_rfl) (by kernel_rfl) (fun _ _ _ h => h) (Or.inl ⟨by rfl, ?hym10⟩) (by assumption) ?restm10
          case hym10 => (intro w hSw; (try dsimp only at hSw); go_simp <;> with_reducible rfl)
          try simp only [Act.put, List.setIfInBounds_toArray, List.set_cons_zero, List.set_cons_succ]
          refine wpAnyH_ready (rs := [9]) (by kernel_rfl) (by simp) ?_
          refine AllReadyH.cons (o := ⟨some 33, _, _, _, _, _⟩) rfl (fun K hK => ?_) ?_
          · skip
            refine step_of_wp _ (by rfl) ?_
            refine wp_of_append _ _ _ (by rfl) _ _ (by rfl) (by rfl) _ _ hrun ?_
            refine hK.out _ _ ?_ (fun hHeld => ?_)
            · trivial
            clear hK K
            try simp only [Act.put, List.setIfInBounds_toArray, List.set_cons_zero, List.set_cons_succ]
            refine wpAnyH_take (i := 10) (oi := ⟨some 34, _, _, _, _, _⟩) (v := ?vm11) rfl (by kernel_rfl) (by kernel_rfl) (by kernel_rfl) (fun _ _ _ h => h) (Or.inl ⟨by rfl, ?hym11⟩) (by assumption) ?restm11
            case hym11 => (intro w hSw; (try dsimp only at hSw); go_simp <;> with_reducible rfl)
            try simp only [Act.put, List.setIfInBounds_toArray, List.set_cons_zero, List.set_cons_succ]
            refine wpAnyH_ready (rs := [11]) (by kernel_rfl) (by simp) ?_
            refine AllReadyH.cons (o := ⟨none, _, _, _, _, _⟩) rfl (fun K hK => ?_) ?_
            · go_simp
              refine hK.out _ _ ?_ (fun hHeld => ?_)
              · trivial
              clear hK K
              try simp only [Act.put, List.setIfInBounds_toArray, List.set_cons_zero, List.set_cons_succ]
              refine wpAnyH_done (by kernel_rfl) ?_ _
              go_wp2_with fail
              go_meet
              exact hend9.out
            exact AllReadyH.nil
          exact AllReadyH.nil
        exact AllReadyH.nil
      exact AllReadyH.nil
  case rest =>
    clear hcr hgb4 hp5 ht5 hn5 q9 hbX hD
    obtain ⟨q9, hgL, hbL⟩ := hcut
    have q7c := q7.step hbL
    have hgc := hg2.step hbL
    have hbc := bStep hbw hbL
    clear hg2 q7 hbw hbL
    have q9' : Blk wc b9 26 #[.int .i64 g.k, .slice ta2 g.toks.length tc2, .string g.sep, .slice na2 g.names.length nc2, .int .i64 g.start, .slice (some ⟨gb, 0, none⟩) (cutP g.prods k).length pc2] := q9
    clear q9
    have c1 := q7c.cell 1
    have c3 := q7c.cell 3
    have e0 := q9'.cell 0
    have e1 := q9'.cell 1
    have e2 := q9'.cell 2
    have e3 := q9'.cell 3
    have e4 := q9'.cell 4
    have e5 := q9'.cell 5
    simp only [List.getElem?_toArray, List.getElem?_cons_zero, List.getElem?_cons_succ] at c1 c3 e0 e1 e2 e3 e4 e5
    have zw : IntKind.i64.wrap (16 + bm) = 16 + bm := IntWalk.i64_in _ (by omega)
    go_upto_region 6 with (go_at_call 8; refine (hMo.out _).mono ?_; rintro e w' ⟨rfl, rfl⟩)
    rw [← hsyd]
    have hsb : 16 ≤ s ∧ s < 16 + (g.names.length : Int) := nt_bd hsy'.out
    replace hsyd := Lib.hid hsyd
    by_cases hck : gchk (lessG g k) = 0
    · have hslL := hsl'.out.less hck
      have hOfL := Lib.hid (fun (W : World) (h : GrAt W W.heap.size (lessG g k) ⟨ta2, tc2, na2, nc2, some ⟨gb, 0, none⟩, pc2⟩) => of_any (lessG g k) ⟨ta2, tc2, na2, nc2, some ⟨gb, 0, none⟩, pc2⟩ s W h hck (by exact hsy'.out) (hslL.few s))
      replace hslL := Lib.hid hslL
      replace hck := Lib.hid hck
      go_upto_region 9 with (go_at_call 9; refine (hOfL.out _ hgL).mono ?_; rintro e w6 ⟨M, v6, rfl, hM, ho6, hb6⟩)
      obtain ⟨MA, mc, rfl, hrdM, _, _, _⟩ := ho6.reads
      obtain ⟨m1, m2, m3⟩ := fset_facts hslL.out hM
      have q7d := q7c.step hb6
      have hgd := hgc.step hb6
      have hbd := bStep hbc hb6
      clear ho6 hgL e0 e1 e2 e3 e4 e5 c1 c3 q7c hgc hbc hb6 q9'
      have c0 := q7d.cell 0
      have c1 := q7d.cell 1
      have c2 := q7d.cell 2
      have c3 := q7d.cell 3
      have c4 := q7d.cell 4
      have c5 := q7d.cell 5
      simp only [List.getElem?_toArray, List.getElem?_cons_zero, List.getElem?_cons_succ] at c0 c1 c2 c3 c4 c5
      go_upto_region 12 with (go_at_call 9; refine (hOf.out ⟨ta, tc, na, nc, pa, pc⟩ _ hgd).mono ?_; rintro e w7 ⟨L, v7, rfl, hL, ho7, hb7⟩)
      obtain ⟨LA, lc, rfl, hrdL, _, _, _⟩ := ho7.reads
      obtain ⟨l1, l2, l3⟩ := fset_facts hsl'.out hL
      have hsub := Lib.hid (fset_less hL hM)
      have q7e := q7d.step hb7
      have hbe := bStep hbd hb7
      have hrdM7 := (hrdM.below hb7).mono hb7.size
      clear ho7 hgd c0 c1 c2 c3 c4 c5 q7d hbd hb7 hrdM
      obtain ⟨Mn, hMn⟩ : ∃ Mn, Mn = M.length := ⟨_, rfl⟩
      rw [← hMn] at hrdM7 m3 ⊢
      replace hMn := Lib.hid hMn
      obtain ⟨Ln, hLn⟩ : ∃ Ln, Ln = L.length := ⟨_, rfl⟩
      rw [← hLn] at hrdL l3 ⊢
      replace hLn := Lib.hid hLn
      go_wp2_with fail
      go_loopg [14] Mn (fun gk s14 wr => ∃ i : Nat, s14 = .int .i64 i ∧ i + gk = Mn ∧ Below w7.heap.size w7 wr)
      case atStart => exact ⟨0, rfl, by omega, Below.refl _ _⟩
      case round =>
        obtain ⟨i, rfl, hi, hb⟩ := hrel
        replace hi := Lib.hid hi
        by_cases hin : i < Mn
        · have hil : i < M.length := by have := hMn.out; omega
          have hxi : M[i]? = some M[i] := List.getElem?_eq_getElem hil
          obtain ⟨mb, moff, rfl, hmbt, x0, x1, x2, x3, x4⟩ := (hrdM7.below hb).get hxi
          have hxm : M[i] ∈ M := List.getElem_mem hil
          generalize M[i] = x at *
          have hz1 : (0 : Int) ≤ i := by omega
          have hz2 : (i : Int) < Mn := by omega
          have hHas := Lib.hid (fun (W : World) (h : Below w7.heap.size w7 W) => has_any LA Ln lc L x W ((hrdL.below h).mono h.size) l2 (m2 x hxm) (by unfold maxLen; omega))
          rw [decide_eq_true (hsub.out x hxm)] at hHas
          have hChk := Lib.hid (fun (W : World) => lcheck_any x g.toks.length W)
          rw [show lchk x g.toks.length = 0 from m1 x hxm] at hChk
          unfold Lk.v at hHas hChk
          have qb := q7e.step hb
          have y1 := qb.cell 1
          simp only [List.getElem?_toArray, List.getElem?_cons_zero, List.getElem?_cons_succ] at y1
          have hAll : Hid (∀ w', Below wr.heap.size wr w' → w'.cell? ⟨mb, moff + i * 5, none⟩ = some (.int .i64 x.n) ∧ w'.cell? ⟨mb, moff + i * 5 + 1, none⟩ = some (.int .i64 x.a) ∧ w'.cell? ⟨mb, moff + i * 5 + 2, none⟩ = some (.int .i64 x.b) ∧ w'.cell? ⟨mb, moff + i * 5 + 3, none⟩ = some (.int .i64 x.c) ∧ w'.cell? ⟨mb, moff + i * 5 + 4, none⟩ = some (.int .i64 x.d) ∧ w'.cell? ⟨b7, 1, none⟩ = some (.slice ta g.toks.length tc) ∧ Below wr.heap.size wr w') :=
            Lib.hid fun w' h => ⟨cell_later h x0, cell_later h x1, cell_later h x2, cell_later h x3, cell_later h x4, cell_later h y1, h⟩
          have hcb : Hid (∀ X, Below wr.heap.size wr X → Below w7.heap.size w7 X) := Lib.hid fun X h => bStep hb h
          replace hxi := Lib.hid hxi
          replace hxm := Lib.hid hxm
          clear x0 x1 x2 x3 x4 y1
          go_upto_region 15 with (fail)
          first | go_region_held3 (fun w' => w'.cell? ⟨mb, moff + i * 5, none⟩ = some (.int .i64 x.n) ∧ w'.cell? ⟨mb, moff + i * 5 + 1, none⟩ = some (.int .i64 x.a) ∧ w'.cell? ⟨mb, moff + i * 5 + 2, none⟩ = some (.int .i64 x.b) ∧ w'.cell? ⟨mb, moff + i * 5 + 3, none⟩ = some (.int .i64 x.c) ∧ w'.cell? ⟨mb, moff + i * 5 + 4, none⟩ = some (.int .i64 x.d) ∧ w'.cell? ⟨b7, 1, none⟩ = some (.slice ta g.toks.length tc) ∧ Below wr.heap.size wr w')
            ((refine hAll.out _ ?_; (repeat (first | assumption | exact Below.refl _ _ | (refine bStep ?_ (by assumption)) | (with_reducible refine bAlc ?_ _) | (with_reducible refine bDrw ?_)))))
            (first
              | (go_at_call 15; refine (hHas.out _ (hcb.out _ (by repeat (first | assumption | exact Below.refl _ _ | (refine bStep ?_ (by assumption)) | (with_reducible refine bAlc ?_ _) | (with_reducible refine bDrw ?_))))).mono ?_; rintro e w8 ⟨rfl, hb8⟩)
              | (go_at_call 16; refine (hChk.out _).mono ?_; rintro e w9 ⟨rfl, hb9⟩)) | fail
          all_goals
            go_wp2_with fail
            go_roundg (Mn - (i + 1))
            case measure => have := hi.out; omega
            case rel => exact ⟨i + 1, by go_num, by have := hi.out; omega, hcb.out _ (by repeat (first | assumption | exact Below.refl _ _ | (refine bStep ?_ (by assumption)) | (with_reducible refine bAlc ?_ _) | (with_reducible refine bDrw ?_)))⟩
        · go_wp2_with (go_at_call 13; refine (hAw.out _).mono ?_; rintro e w9 ⟨rfl, hb9⟩)
          go_ret
          exact ⟨rfl, bStep (bStep hbe hb) hb9⟩
    · have hE : nonE (lessG g k) s = gchk (lessG g k) := by unfold nonE; rw [if_neg hck]
      have hOfB := Lib.hid (fun (W : World) (h : GrAt W W.heap.size (lessG g k) ⟨ta2, tc2, na2, nc2, some ⟨gb, 0, none⟩, pc2⟩) => of_bad (lessG g k) ⟨ta2, tc2, na2, nc2, some ⟨gb, 0, none⟩, pc2⟩ s W h hsm (by omega) (by omega) (by rw [hE]; exact hck))
      have hCh := Lib.hid (fun (W : World) (h : GrAt W W.heap.size (lessG g k) ⟨ta2, tc2, na2, nc2, some ⟨gb, 0, none⟩, pc2⟩) => rcheckg_any (lessG g k) ⟨ta2, tc2, na2, nc2, some ⟨gb, 0, none⟩, pc2⟩ W h hsm)
      rw [hE] at hOfB
      generalize gchk (lessG g k) = E at *
      have hEb : (E != 0) = true := by simpa using hck
      replace hE := Lib.hid hE
      go_upto_region 8 with (go_at_call 9; refine (hOfB.out _ hgL).mono ?_; rintro e w6 ⟨rfl, hb6⟩)
      have q9d := q9'.step hb6
      have hgd := hgL.step hb6
      have hbd := bStep hbc hb6
      clear e0 e1 e2 e3 e4 e5 c1 c3
      have e0 := q9d.cell 0
      have e1 := q9d.cell 1
      have e2 := q9d.cell 2
      have e3 := q9d.cell 3
      have e4 := q9d.cell 4
      have e5 := q9d.cell 5
      simp only [List.getElem?_toArray, List.getElem?_cons_zero, List.getElem?_cons_succ] at e0 e1 e2 e3 e4 e5
      go_wp2_with (first
        | (go_at_call 14; refine (hCh.out _ hgd).mono ?_; rintro e w7 ⟨rfl, hb7⟩)
        | (go_at_call 13; refine (hAw.out _).mono ?_; rintro e w9 ⟨rfl, hb9⟩))
      go_ret
      exact ⟨rfl, bStep (bStep hbd hb7) hb9⟩
end Go.Proofs.Ytnnkfgekiaaehaa
