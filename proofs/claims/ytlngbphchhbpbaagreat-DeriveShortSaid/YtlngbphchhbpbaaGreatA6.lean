/- Walks and plain laws, part 6 of 7: derive.Shortest: the rounds; The reference's least lengths: the walk; The reference's Lengths, Least, length, order: the walks; ref19.length, order: the walks; ref19.join: the walk; ref19.shortest: the walk; ref19.Shortest: the walk; The grammar and the look that come in as arguments: opened. Conditions: none beyond those that each theorem states. -/
import Derived.Test.YtlngbphchhbpbaaGreatA5
import Derived.BigQuiet
import Derived.Deep.Strs
import Derived.Deep.SlicePairs
import Derived.OpenShut
import Derived.ChangeOld
/- derive.Shortest: the rounds. -/
namespace Go.Proofs.YtlngbphchhbpbaaGreat
open Go.ChangeShapes Go.WideShapes Go.ChangeAt Go.RowKit
set_option linter.unusedVariables false

theorem fchk_sym {g : Gr} {f : List Int} (h : fchk g f = 0) : ∀ s ∈ f, syB g s = true := by
  unfold fchk at h
  split at h
  · rename_i h1; exact absurd h h1
  · split at h
    · omega
    · split at h
      · rename_i h3; exact List.all_eq_true.1 h3
      · omega

theorem info4b : (Tryz.prog.info? 4).map (fun i => (i.zero, i.size, i.bytes)) = some (some (.bool false), 1, 1) := by kernel_rfl
theorem under82 : Tryz.prog.underlying 46 = some (.slice 4) := by kernel_rfl
theorem fil_nil (z : Value) (n : Nat) : madeCells #[z] n = (List.replicate n z).toArray := by rw [fil_start z z n]; unfold fil; simp
set_option maxRecDepth 100000 in
set_option maxHeartbeats 4000000 in
theorem shortestT_any (g : Gr) (a : GA) (FA : Option Addr) (k c : Nat) (f : List Int) (w : World) (hg : GrAt w w.heap.size g a) (hs : Small g) (hf : Rd1 w w.heap.size FA k (ints f)) (hk : k ≤ maxLen) : Calls Tryz.prog 8 #[gval g a, .slice FA k c] w (RetSh g f w) := by
  obtain ⟨ta, tc, na, nc, pa, pc⟩ := a
  have hG0 := GB.start hg
  have hfl : f.length = k := by have := hf.1; simpa [ints] using this
  have hC := Lib.hid (fun (W : World) (h : GrAt W W.heap.size g ⟨ta, tc, na, nc, pa, pc⟩) (h2 : Rd1 W W.heap.size FA k (ints f)) => fcheck_any g ⟨ta, tc, na, nc, pa, pc⟩ FA k c f W h hs h2 hk)
  have hLe := Lib.hid (fun (W : World) (h : GrAt W W.heap.size g ⟨ta, tc, na, nc, pa, pc⟩) => least_any g ⟨ta, tc, na, nc, pa, pc⟩ W h hs)
  by_cases h0 : fchk g f = 0
  · obtain ⟨hok, hk200⟩ := fchk_len h0
    have hE1 := Lib.hid (fun (L : List Int) (w' : World) (h2 : LenL g.prods g.names.length L) (h3 : -1 ∈ L) (h4 : Below w.heap.size w w') => (show RetSh g f w (.returned (.tuple #[.slice none 0 0, .int .i64 16])) w' from ⟨h4, .inr ⟨h0, L, h2, .inl ⟨h3, rfl⟩⟩⟩))
    have hE2 := Lib.hid (fun (L : List Int) (w' : World) (h2 : LenL g.prods g.names.length L) (h3 : -1 ∉ L) (h5 : 200 < lenS L f) (h4 : Below w.heap.size w w') => (show RetSh g f w (.returned (.tuple #[.slice none 0 0, .int .i64 4])) w' from ⟨h4, .inr ⟨h0, L, h2, .inr ⟨h3, .inl ⟨h5, rfl⟩⟩⟩⟩))
    have hE3 := Lib.hid (fun (L : List Int) (x : List Int) (v : Value) (w' : World) (h2 : LenL g.prods g.names.length L) (h3 : -1 ∉ L) (h5 : lenS L f ≤ 200) (h6 : RdI w' v x) (h7 : Best g.prods L f x) (h4 : Below w.heap.size w w') => (show RetSh g f w (.returned (.tuple #[v, .int .i64 0])) w' from ⟨h4, .inr ⟨h0, L, h2, .inr ⟨h3, .inr ⟨h5, x, v, rfl, h6, h7⟩⟩⟩⟩))
    have hLe2 := Lib.hid (fun (W : World) (h : GrAt W W.heap.size g ⟨ta, tc, na, nc, pa, pc⟩) => (show Calls Tryz.prog 6 #[gval g ⟨ta, tc, na, nc, pa, pc⟩] W fun e w' => ∃ L : List Int, LenL g.prods g.names.length L ∧ ((-1 ∈ L ∧ e = .returned (.tuple #[.slice none 0 0, .int .i64 16])) ∨
      (-1 ∉ L ∧ ∃ b : Nat, e = .returned (.tuple #[.slice (some ⟨b, 0, none⟩) g.names.length g.names.length, .int .i64 0]) ∧ Blk w' b 3 (ints L).toArray)) ∧ Below W.heap.size W w' from (hLe.out W h).mono fun e w' hr => by
        obtain ⟨hb, ⟨h1, _⟩ | ⟨_, L, h2, h3⟩⟩ := hr
        · exact absurd hok h1
        · exact ⟨L, h2, h3, hb⟩))
    have hps := Lib.hid (psok_of hok)
    have hkk := gok_of hok
    have hsyf : Hid (SyN g.names.length f) := Lib.hid (fun s hs => by
      have := fchk_sym h0 s hs
      have := hkk.tk
      unfold syB tmB ntB at *
      rw [Bool.or_eq_true, decide_eq_true_iff, decide_eq_true_iff] at *
      omega)
    have hlet : Hid (∀ p ∈ g.prods, ∀ s ∈ p.right, s < 16 → 0 ≤ s ∧ s < 8) := Lib.hid (fun p hp s hs h16 => by
      have := hkk.tk
      rcases (hkk.pr p hp).2.2 s hs with h' | h' <;> omega)
    obtain ⟨n, hn⟩ : ∃ n, n = g.names.length := ⟨_, rfl⟩
    obtain ⟨m, hm⟩ : ∃ m, m = g.prods.length := ⟨_, rfl⟩
    have hn8 : n ≤ 8 := by rw [hn]; exact hkk.nm.2
    have hn1 : 1 ≤ n := by rw [hn]; exact hkk.nm.1
    have hm24 : m ≤ 24 := by rw [hm]; exact hkk.pl
    rw [hfl] at hk200
    rw [h0] at hC
    clear hg hs h0 hok hLe hkk
    unfold gval at *
    unfold gcells at *
    dsimp only at *
    generalize hRR : RetSh g f w = RR at *
    replace hRR := Lib.hid hRR
    rw [← hn] at hG0 hC hLe2 hE1 hE2 hE3 hps hsyf ⊢
    rw [← hm] at hG0 hC hLe2 ⊢
    replace hn := Lib.hid hn
    replace hm := Lib.hid hm
    replace hfl := Lib.hid hfl
    have hz0 : (0 : Int) ≤ k := by omega
    have hzn : (0 : Int) ≤ n := by omega
    have hfb : Rd1 (w.alloc (.cells #[.int .i64 g.k, .slice ta g.toks.length tc, .string g.sep, .slice na n nc, .int .i64 g.start, .slice pa m pc] 25)) w.heap.size FA k (ints f) := hf.below (bAlc (Below.refl _ _) _)
    go_enter Tryz.func8, Tryz.ntmps8
    obtain ⟨c0, c1, c2, c3, c4, c5⟩ := hG0.cells
    dsimp only at c1 c3 c5
    rw [← hn.out] at c3
    rw [← hm.out] at c5
    go_upto_region 4 with (go_at_call 19; refine (hC.out _ (hG0.2.1.mono hG0.2.2.size) (hfb.mono hG0.2.2.size)).mono ?_; rintro e w1 ⟨rfl, hb1⟩)
    have hG1 := hG0.step hb1
    clear c0 c1 c2 c3 c4 c5 hG0 hb1 hC hfb
    obtain ⟨c0, c1, c2, c3, c4, c5⟩ := hG1.cells
    dsimp only at c1 c3 c5
    rw [← hn.out] at c3
    rw [← hm.out] at c5
    have hRL := hLe2.out _ (hG1.2.1.mono hG1.2.2.size)
    obtain ⟨_, _, _, ⟨L, hL, _, _⟩, _⟩ := hRL []
    by_cases hno : -1 ∈ L
    · have hA := Lib.hid (hRL.mono (R' := fun e w' => e = .returned (.tuple #[.slice none 0 0, .int .i64 16]) ∧ Below w1.heap.size w1 w') (by
        rintro e w' ⟨L', hL', h, hb⟩
        have := lens_uniq hL' hL
        subst this
        rcases h with ⟨_, rfl⟩ | ⟨h, _⟩
        · exact ⟨rfl, hb⟩
        · exact absurd hno h))
      have hfin := Lib.hid (fun (w' : World) (hb : Below w.heap.size w w') => hE1.out L w' hL hno hb)
      clear hRL hno
      go_wp2_with (go_at_call 6; refine hA.out.mono ?_; rintro e w2 ⟨rfl, hb2⟩)
      first
        | exact hfin.out _ (hG1.step hb2).2.2
        | (go_ret2; exact hfin.out _ (hG1.step hb2).2.2)
    · have hA := Lib.hid (hRL.mono (R' := fun e w' => ∃ b : Nat, e = .returned (.tuple #[.slice (some ⟨b, 0, none⟩) n n, .int .i64 0]) ∧ Blk w' b 3 (ints L).toArray ∧ Below w1.heap.size w1 w') (by
        rintro e w' ⟨L', hL', h, hb⟩
        have := lens_uniq hL' hL
        subst this
        rcases h with ⟨h, _⟩ | ⟨_, b, rfl, hq⟩
        · exact absurd h hno
        · exact ⟨b, rfl, hq, hb⟩))
      have hy : AllY L := fun v hv => by
        rcases hL.bd v hv with h | h
        · subst h; exact absurd hv hno
        · exact h.1
      have hLb : ∀ v ∈ L, v ≤ 5764801 := fun v hv => by rcases hL.bd v hv with h | h <;> omega
      have hLl := hL.len
      replace hE2 := Lib.hid (fun (w' : World) (h5 : 200 < lenS L f) (hb : Below w.heap.size w w') => hE2.out L w' hL hno h5 hb)
      replace hE3 := Lib.hid (fun (x : List Int) (v : Value) (w' : World) (h5 : lenS L f ≤ 200) (h6 : RdI w' v x) (h7 : Best g.prods L f x) (hb : Below w.heap.size w w') => hE3.out L x v w' hL hno h5 h6 h7 hb)
      replace hL := Lib.hid hL
      replace hy := Lib.hid hy
      replace hLb := Lib.hid hLb
      replace hLl := Lib.hid hLl
      clear hRL hno hLe2 hE1
      go_upto_region 7 with (go_at_call 6; refine hA.out.mono ?_; rintro e w2 ⟨lb, rfl, ql, hb2⟩)
      have hG2 := hG1.step hb2
      clear c0 c1 c2 c3 c4 c5 hG1 hb2 hA
      have hf2 := hf.below hG2.2.2
      go_wp2_with fail
      go_loopg [38, 9] k (fun gk s38 s9 wr => ∃ (i : Nat) (t : Int), s38 = .int .i64 i ∧ s9 = .int .i64 t ∧ i + gk = k ∧ Hid (t = lenS L (f.take i)) ∧ wr = w2)
      case atStart => exact ⟨0, 0, rfl, rfl, by omega, Lib.hid (by simp [lenS]), rfl⟩
      case round =>
        obtain ⟨i, t, rfl, rfl, hi, ht, rfl⟩ := hrel
        replace hi := Lib.hid hi
        have htb := lenS_up hLb.out (f.take i)
        have htp := lenS_pos hy.out (f.take i)
        have htl : (f.take i).length ≤ 200 := by rw [List.length_take]; have := hfl.out; omega
        have htb2 : t ≤ 1152960200 := by rw [ht.out]; omega
        have htb3 : 0 ≤ t := by rw [ht.out]; exact htp
        clear htb htp htl
        by_cases hin : i < k
        · have hil : i < f.length := by have := hfl.out; omega
          have hx : f[i]? = some f[i] := List.getElem?_eq_getElem hil
          obtain ⟨b1, off1, rfl, hbt1, x0⟩ := hf2.get (show (ints f)[i]? = some (.int .i64 f[i]) by rw [ints, List.getElem?_map, hx]; rfl)
          have htk := take_snocG hx
          have hsx := hsyf.out _ (List.getElem_mem hil)
          generalize f[i] = s at *
          have hz1 : (i : Int) < k := by omega
          have hz2 : (0 : Int) ≤ i := by omega
          replace hx := Lib.hid hx
          replace htk := Lib.hid htk
          by_cases h16 : s < 16
          · have hd : decide (16 ≤ s) = false := decide_eq_false (by omega)
            have ht2 : Hid (t + 1 = lenS L (f.take (i + 1))) := Lib.hid (by rw [htk.out, lenS_snoc, if_pos h16, ← ht.out])
            clear h16 hsx
            go_wp2_with (go_at_call 20; refine (isnt_any s _).mono ?_; rintro e w1 ⟨rfl, rfl⟩; rw [hd])
            go_roundg (k - (i + 1))
            case measure => have := hi.out; omega
            case rel => exact ⟨i + 1, t + 1, by go_num, rfl, by have := hi.out; omega, ht2, rfl⟩
          · have hd : decide (16 ≤ s) = true := decide_eq_true (by omega)
            obtain ⟨j, hj⟩ := Int.eq_ofNat_of_zero_le (show 0 ≤ s - 16 by omega)
            have hj2 : (s - 16).toNat = j := by omega
            have hjn : j < n := by omega
            have ht2 : Hid (t + L.getD j 0 = lenS L (f.take (i + 1))) := Lib.hid (by rw [htk.out, lenS_snoc, if_neg h16, ← ht.out, hj2])
            have hv : L[j]? = some (L.getD j 0) := by rw [List.getD_eq_getElem?_getD, List.getElem?_eq_getElem (by have := hLl.out; omega)]; rfl
            have y0 : wr.cell? ⟨lb, j, none⟩ = some (.int .i64 (L.getD j 0)) := by rw [ql.cell, List.getElem?_toArray, ints, List.getElem?_map, hv]; rfl
            have hvb := hLb.out _ (List.mem_of_getElem? hv)
            have hvb2 := hy.out.get j
            generalize L.getD j 0 = v at *
            have hzj : (0 : Int) ≤ j := by omega
            have hzjn : (j : Int) < n := by omega
            have hs2 : s ≤ 1000 := by omega
            replace hv := Lib.hid hv
            clear h16 hsx hj2
            go_wp2_with (go_at_call 20; refine (isnt_any s _).mono ?_; rintro e w1 ⟨rfl, rfl⟩; rw [hd])
            go_roundg (k - (i + 1))
            case measure => have := hi.out; omega
            case rel => exact ⟨i + 1, t + v, by go_num, rfl, by have := hi.out; omega, ht2, rfl⟩
        · have htE : t = lenS L f := by rw [ht.out, List.take_of_length_le (by have := hfl.out; omega)]
          have hin2 : ¬ (i : Int) < k := by omega
          by_cases h200 : 200 < lenS L f
          · have hfin := Lib.hid (hE2.out wr h200 hG2.2.2)
            have hz9 : 200 < t := by omega
            replace htE := Lib.hid htE
            clear h200
            go_wp2_with fail
            first
              | exact hfin.out
              | (go_ret2; exact hfin.out)
          · have hz9 : ¬ 200 < t := by omega
            have h200' : lenS L f ≤ 200 := by omega
            replace htE := Lib.hid htE
            replace h200' := Lib.hid h200'
            clear h200 hE2 ht hi
            obtain ⟨i26, hi26, hq0, hq1, hq2⟩ := info_parts info26
            obtain ⟨i4, hi4, hp0, hp1, hp2⟩ := info_parts info4b
            obtain ⟨c0, c1, c2, c3, c4, c5⟩ := hG2.cells
            dsimp only at c3
            rw [← hn.out] at c3
            clear c0 c1 c2 c4 c5
            go_upto_region 18 with (at_make; refine wpList_make_row _ rfl _ _ 39 rfl 26 i26 (.slice none 0 0) under41 hi26 hq0 hq1 rfl _ _ n rfl rfl (by rw [hq2]; omega) (by omega) ?_)
            rw [fil_nil]
            have hG3 := hG2.alloc (.cells (List.replicate n (Value.slice none 0 0)).toArray 26)
            have ql3 := ql.alloc (.cells (List.replicate n (Value.slice none 0 0)).toArray 26)
            have hF3 : FS (wr.alloc (.cells (List.replicate n (Value.slice none 0 0)).toArray 26)) wr.heap.size n (List.replicate n []) := ⟨_, Blk.new _ _ _, by simp, by simp, fun i l hl => by
              have hil := (List.getElem?_eq_some_iff.1 hl).1
              rw [List.length_replicate] at hil
              rw [List.getElem?_replicate, if_pos hil] at hl
              injection hl with hl
              subst hl
              exact ⟨_, by simp [hil], RdI.nil _⟩⟩
            have hfbl : wr.heap.size < (wr.alloc (.cells (List.replicate n (Value.slice none 0 0)).toArray 26)).heap.size := by simp
            have hwf : w.heap.size < wr.heap.size := hG2.lt
            clear c3 hG2 ql
            generalize wr.alloc (.cells (List.replicate n (Value.slice none 0 0)).toArray 26) = W3 at *
            generalize wr.heap.size = fb at *
            obtain ⟨c0, c1, c2, c3, c4, c5⟩ := hG3.cells
            dsimp only at c3
            rw [← hn.out] at c3
            clear c0 c1 c2 c4 c5
            go_upto_region 19 with (at_make; refine wpList_make_row _ rfl _ _ 46 rfl 4 i4 (.bool false) under82 hi4 hp0 hp1 rfl _ _ n rfl rfl (by rw [hp2]; omega) (by omega) ?_)
            rw [fil_nil]
            have hb01 : (List.replicate n (Value.bool false)).toArray = (bools (List.replicate n false)).toArray := by simp [bools]
            rw [hb01]
            have hSH : SH w g ⟨ta, tc, na, nc, pa, pc⟩ lb fb W3.heap.size n L (List.replicate n []) (List.replicate n false) (W3.alloc (.cells (bools (List.replicate n false)).toArray 4)) :=
              ⟨hG3.alloc _, ql3.alloc _, hF3.step (bAlc (Below.refl _ _) _), Blk.new _ _ _, by simp, by omega, by omega⟩
            clear hb01 hG3 ql3 hF3 c3 hf2 hfbl
            generalize W3.alloc (.cells (bools (List.replicate n false)).toArray 4) = W4 at *
            generalize W3.heap.size = kb at *
            go_wp2_with fail
            go_loopg [14] (meaK (List.replicate n []) (List.replicate n false) + 1) (fun gk s14 wr => ∃ (ss : List (List Int)) (ks : List Bool) (ch : Bool), s14 = .bool ch ∧ Hid (gk = if ch = true then meaK ss ks + 1 else 0) ∧ SH w g ⟨ta, tc, na, nc, pa, pc⟩ lb fb kb n L ss ks wr ∧ Hid (KnS g.prods L ss ks ∧ SmS ss) ∧ Hid (ch = false → KnC g.prods L ss ks))
            case atStart => exact ⟨_, _, true, rfl, Lib.hid (by simp), hSH, Lib.hid ⟨fun a ha hka => by
              rw [List.getD_eq_getElem?_getD, List.getElem?_replicate] at hka
              split at hka <;> simp at hka, fun l hl => by have := (List.mem_replicate.1 hl).2; subst this; exact ⟨by simp, fun c hc => by simp at hc⟩⟩, Lib.hid (fun h => by cases h)⟩
            case round =>
              clear hSH
              obtain ⟨ss, ks, ch, rfl, hgk, hSH, hK, hCl⟩ := hrel
              cases ch with
              | false =>
                obtain ⟨x, hjx, hbest⟩ := joined_best hL.out hy.out hps.out hK.out.1 (hCl.out rfl) hsyf.out h200'.out
                have hJ := Lib.hid (joined_any f FA k c fb kb n ss ks wr ((hf.below hSH.1.2.2).mono hSH.1.2.2.size) hSH.2.2.1 hSH.2.2.2.1 hSH.2.2.2.2.1 hsyf.out hk200 hn8 (fun l hl => by have := (hK.out.2 l hl).1; omega))
                rw [hjx] at hJ
                have hbw := Lib.hid hSH.1.2.2
                replace hbest := Lib.hid hbest
                replace hjx := Lib.hid hjx
                clear hCl hgk hK hSH
                have hJ2 := Lib.hid (hJ.out.mono (R' := fun e w' => ∃ v, e = .returned (.tuple #[v, .bool true]) ∧ RdI w' v x ∧ Below wr.heap.size wr w') (by
                  rintro e w' ⟨hb9, ⟨h, _⟩ | ⟨l, v, h, rfl, hv⟩⟩
                  · cases h
                  · injection h with h
                    subst h
                    exact ⟨v, rfl, hv, hb9⟩))
                clear hJ
                go_wp2_with (go_at_call 21; refine hJ2.out.mono ?_; rintro e w9 ⟨v, rfl, hv, hb9⟩)
                first
                  | exact hE3.out x v w9 h200'.out hv hbest.out (bStep hbw.out hb9)
                  | (go_ret2; exact hE3.out x v w9 h200'.out hv hbest.out (bStep hbw.out hb9))
              | true =>
                clear hCl
                obtain ⟨c0, c1, c2, c3, c4, c5⟩ := hSH.1.cells
                dsimp only at c5
                rw [← hm.out] at c5
                clear c0 c1 c2 c3 c4
                go_wp2_with fail
                clear c5
                have hSH' := hSH
                go_loopg [68, 14] m (fun gk2 s68 s14 wr => ∃ (i : Nat) (ss1 : List (List Int)) (ks1 : List Bool) (ch1 : Bool), s68 = .int .i64 i ∧ s14 = .bool ch1 ∧ i + gk2 = m ∧ SH w g ⟨ta, tc, na, nc, pa, pc⟩ lb fb kb n L ss1 ks1 wr ∧ Hid (KnS g.prods L ss1 ks1 ∧ SmS ss1) ∧
                  Hid ((ch1 = false ∧ ss1 = ss ∧ ks1 = ks ∧ KnC (g.prods.take i) L ss ks) ∨ (ch1 = true ∧ meaK ss1 ks1 < meaK ss ks)))
                case atStart => exact ⟨0, ss, ks, false, rfl, rfl, by omega, hSH', hK, Lib.hid (.inl ⟨rfl, rfl, rfl, fun p hp => by simp at hp⟩)⟩
                case round =>
                  clear hSH hSH' hK
                  obtain ⟨i, ss1, ks1, ch1, rfl, rfl, hi, hSH, hK, hD⟩ := hrel
                  replace hi := Lib.hid hi
                  by_cases hin : i < m
                  · have hil : i < g.prods.length := by have := hm.out; omega
                    have hxi : g.prods[i]? = some g.prods[i] := List.getElem?_eq_getElem hil
                    obtain ⟨b, off, rfl, hbt, y0, RA, rc, y1, hRd, hrl, hrm⟩ := hSH.1.2.1.prods.get hxi
                    have hpm := List.getElem_mem hil
                    have htk : g.prods.take (i + 1) = g.prods.take i ++ [g.prods[i]] := List.take_succ_eq_append_getElem hil
                    obtain ⟨hpl, hpr6, hsy⟩ := hps.out _ hpm
                    have hltp := hlet.out _ hpm
                    generalize g.prods[i] = p at *
                    obtain ⟨pl, pr⟩ := p
                    dsimp only at y0 y1 hRd hrl hpl hpr6 hsy hltp
                    obtain ⟨j, hj⟩ := Int.eq_ofNat_of_zero_le (show 0 ≤ pl - 16 by omega)
                    have hj2 : (pl - 16).toNat = j := by omega
                    have hj3 : pl = 16 + (j : Int) := by omega
                    have hjn : j < n := by omega
                    have hv : L[j]? = some (L.getD j 0) := by rw [List.getD_eq_getElem?_getD, List.getElem?_eq_getElem (by have := hLl.out; omega)]; rfl
                    have hvb := hLb.out _ (List.mem_of_getElem? hv)
                    have hvb2 := hy.out.get j
                    -- nothing made better: one production more
                    have hsame : (L.getD j 0 ≤ 200 → ∀ l, jnF ss1 ks1 [] pr = some l → (l.length : Int) = L.getD j 0 → ks1.getD j false = true ∧ lex l (ss1.getD j []) ≠ -1) → Hid ((ch1 = false ∧ ss1 = ss ∧ ks1 = ks ∧ KnC (g.prods.take (i + 1)) L ss ks) ∨ (ch1 = true ∧ meaK ss1 ks1 < meaK ss ks)) := fun h => Lib.hid (by
                      rcases hD.out with ⟨a1, a2, a3, a4⟩ | a
                      · refine .inl ⟨a1, a2, a3, fun q hq => ?_⟩
                        rw [htk] at hq
                        rcases List.mem_append.1 hq with hq | hq
                        · exact a4 q hq
                        · have : q = ⟨pl, pr⟩ := by simpa using hq
                          subst this
                          show L.getD (pl - 16).toNat 0 ≤ 200 → ∀ l, jnF ss ks [] pr = some l → (l.length : Int) = L.getD (pl - 16).toNat 0 → ks.getD (pl - 16).toNat false = true ∧ lex l (ss.getD (pl - 16).toNat []) ≠ -1
                          rw [hj2, ← a2, ← a3]
                          exact h
                      · exact .inr a)
                    have hzi : (0 : Int) ≤ i := by omega
                    have hzim : (i : Int) < m := by omega
                    have hmul : (i : Int) * 2 ≤ 100 := by omega
                    have hzj : (0 : Int) ≤ j := by omega
                    have hzjn : (j : Int) < n := by omega
                    have hpl2 : pl ≤ 1000 := by omega
                    replace hxi := Lib.hid hxi
                    replace htk := Lib.hid htk
                    replace hpm := Lib.hid hpm
                    replace hltp := Lib.hid hltp
                    replace hj3 := Lib.hid hj3
                    clear hj2 hpl
                    go_upto_region 25 with (fail)
                    have hSH3 := hSH.step (bAlc (Below.refl _ _) (.cells #[.int .i64 pl, .slice RA pr.length rc] 37))
                    have qp : Blk (wr.alloc (.cells #[.int .i64 pl, .slice RA pr.length rc] 37)) wr.heap.size 37 #[.int .i64 pl, .slice RA pr.length rc] := Blk.new _ _ _
                    have hRd3 : Rd1 (wr.alloc (.cells #[.int .i64 pl, .slice RA pr.length rc] 37)) w.heap.size RA pr.length (ints pr) := hRd.below ((bAlc (Below.refl _ _) (.cells #[.int .i64 pl, .slice RA pr.length rc] 37)).mono hSH.1.2.2.size)
                    clear hSH hRd y0 y1
                    generalize wr.alloc (.cells #[.int .i64 pl, .slice RA pr.length rc] 37) = W5 at *
                    generalize wr.heap.size = Bp at *
                    have l0 : W5.cell? ⟨lb, j, none⟩ = some (.int .i64 (L.getD j 0)) := by rw [hSH3.2.1.cell, List.getElem?_toArray, ints, List.getElem?_map, hv]; rfl
                    have p0 := qp.cell 0
                    have p1 := qp.cell 1
                    simp only [List.getElem?_toArray, List.getElem?_cons_zero, List.getElem?_cons_succ] at p0 p1
                    have hJ := Lib.hid (joined_any pr RA pr.length rc fb kb n ss1 ks1 W5 (hRd3.mono hSH3.1.2.2.size) hSH3.2.2.1 hSH3.2.2.2.1 hSH3.2.2.2.2.1 hsy (by omega) hn8 (fun l hl => by have := (hK.out.2 l hl).1; omega))
                    replace hsy := Lib.hid hsy
                    obtain ⟨v, hvv⟩ : ∃ v, v = L.getD j 0 := ⟨_, rfl⟩
                    rw [← hvv] at l0 hvb hvb2 hsame
                    replace hv := Lib.hid hv
                    replace hvv := Lib.hid hvv
                    by_cases h2 : v ≤ 200
                    · have h2' : ¬ 200 < v := by omega
                      cases hjo : jnF ss1 ks1 [] pr with
                      | none =>
                        rw [hjo] at hJ
                        have hJ2 := Lib.hid (hJ.out.mono (R' := fun e w' => e = .returned (.tuple #[.slice none 0 0, .bool false]) ∧ Below W5.heap.size W5 w') (by
                          rintro e w' ⟨hb9, ⟨h, rfl⟩ | ⟨l, v, h, _⟩⟩
                          · exact ⟨rfl, hb9⟩
                          · cases h))
                        have hDn := hsame fun _ l h => by rw [hjo] at h; cases h
                        replace hjo := Lib.hid hjo
                        clear hJ hsame h2
                        go_wp2_with (go_at_call 21; refine hJ2.out.mono ?_; rintro e w6 ⟨rfl, hb6⟩)
                        go_roundg (m - (i + 1))
                        case measure => have := hi.out; omega
                        case rel => exact ⟨i + 1, ss1, ks1, ch1, by go_num, rfl, by have := hi.out; omega, hSH3.step hb6, hK, hDn⟩
                      | some l =>
                        rw [hjo] at hJ
                        have hJ2 := Lib.hid (hJ.out.mono (R' := fun e w' => ∃ v, e = .returned (.tuple #[v, .bool true]) ∧ RdI w' v l ∧ Below W5.heap.size W5 w') (by
                          rintro e w' ⟨hb9, ⟨h, _⟩ | ⟨l2, v, h, rfl, hv⟩⟩
                          · cases h
                          · injection h with h
                            subst h
                            exact ⟨v, rfl, hv, hb9⟩))
                        obtain ⟨l2, el, hder, hll⟩ := jnF_snd hK.out.1 hjo
                        rw [List.nil_append] at el
                        subst el
                        have hfl26 : ss1.length = n := by obtain ⟨_, _, _, h3, _⟩ := hSH3.2.2.1; exact h3
                        have hkl26 : ks1.length = n := hSH3.2.2.2.2.1
                        have hfk : fb ≠ kb := by obtain ⟨cs, f1, _⟩ := hSH3.2.2.1; exact blk_ne f1 hSH3.2.2.2.1 (by decide)
                        have hl8 : Let8 l := der_letters (P := fun c => 0 ≤ c ∧ c < 8) hlet.out hder hltp.out
                        have hupd : (l.length : Int) = v → (ks1.getD j false = true → lex l (ss1.getD j []) = -1) → Hid (KnS g.prods L (ss1.set j l) (ks1.set j true) ∧ SmS (ss1.set j l)) ∧
                            Hid ((true = false ∧ ss1.set j l = ss ∧ ks1.set j true = ks ∧ KnC (g.prods.take (i + 1)) L ss ks) ∨ (true = true ∧ meaK (ss1.set j l) (ks1.set j true) < meaK ss ks)) := fun hlv hx => by
                          have h200 : l.length ≤ 200 := by omega
                          refine ⟨Lib.hid ⟨hK.out.1.set hfl26 hkl26 hjn ⟨⟨pl, pr⟩, hpm.out, hj3.out, hder⟩ (by rw [← hvv.out]; exact hlv), hK.out.2.set h200 hl8⟩, Lib.hid (.inr ⟨rfl, ?_⟩)⟩
                          have hlt := meaK_set ss1 ks1 j l (by omega) (by omega) (fun _ => by
                            have h1 := rnk_lt hl8
                            have h2 : 8 ^ l.length ≤ 8 ^ 201 := Nat.pow_le_pow_right (by omega) (by omega)
                            omega) (fun hk => rnk_lex hl8 (hK.out.2.get j).2 (by
                              have := (hK.out.1 (16 + (j : Int)) (by omega) (by rw [show (16 + (j : Int) - 16).toNat = j by omega]; exact hk)).2
                              rw [show (16 + (j : Int) - 16).toNat = j by omega, ← hvv.out] at this
                              omega) (hx hk))
                          rcases hD.out with ⟨_, a2, a3, _⟩ | ⟨_, a2⟩
                          · rw [a2, a3] at hlt ⊢; exact hlt
                          · omega
                        replace hjo := Lib.hid hjo
                        replace hder := Lib.hid hder
                        replace hl8 := Lib.hid hl8
                        replace hll := Lib.hid hll
                        clear hJ h2
                        go_upto_region 28 with (go_at_call 21; refine hJ2.out.mono ?_; rintro e W6 ⟨v6, rfl, hv6, hb6⟩)
                        have hSH6 := hSH3.step hb6
                        have hv6' := hv6
                        obtain ⟨LA, lc, rfl, lr, lc1, lc2⟩ := hv6'
                        have l0 := cell_later hb6 l0
                        have hkv : Hid (ks1[j]? = some (ks1.getD j false)) := Lib.hid (by rw [List.getD_eq_getElem?_getD, List.getElem?_eq_getElem (by omega)]; rfl)
                        have y0 : W6.cell? ⟨kb, j, none⟩ = some (.bool (ks1.getD j false)) := by rw [hSH6.2.2.2.1.cell, List.getElem?_toArray, bools, List.getElem?_map, hkv.out]; rfl
                        clear p0 p1 hJ2
                        by_cases hlv : (l.length : Int) = v
                        · have hlb : ((l.length : Int) == v) = true := by simpa using hlv
                          have hl200 : l.length ≤ 200 := by omega
                          cases hkj : ks1.getD j false with
                          | false =>
                            rw [hkj] at y0
                            have q4 := hSH6.2.2.2.1.far (p := ⟨fb, j, none⟩) (by simp; exact Ne.symm hfk) (.slice LA l.length lc)
                            have z0 : (W6.setCell ⟨fb, j, none⟩ (.slice LA l.length lc)).cell? ⟨kb, j, none⟩ = some (.bool (ks1.getD j false)) := by rw [q4.cell, List.getElem?_toArray, bools, List.getElem?_map, hkv.out]; rfl
                            have z1 := q4.frozen j
                            obtain ⟨⟨u0, x2⟩, x3⟩ := hSH6.2.2.1.blk hjn
                            obtain ⟨hK2, hD2⟩ := hupd (hlv) (fun h => by rw [hkj] at h; cases h)
                            rw [hkj] at z0
                            have hSH7 := hSH6.set hjn hv6
                            replace hkj := Lib.hid hkj
                            clear hSH6 hSH3 hupd hsame q4
                            go_wp2_with (fail)
                            go_roundg (m - (i + 1))
                            case measure => have := hi.out; omega
                            case rel => exact ⟨i + 1, ss1.set j l, ks1.set j true, true, by go_num, rfl, by have := hi.out; omega, hSH7, hK2, Lib.hid (by have := hD2.out; simpa using this)⟩
                          | true =>
                            rw [hkj] at y0
                            obtain ⟨SA, sc, s0, hSr, hsc1, hsc2⟩ := hSH6.2.2.1.get hjn
                            have hsl := (hK.out.2.get j).1
                            obtain ⟨sl, hsle⟩ : ∃ sl, sl = ss1.getD j [] := ⟨_, rfl⟩
                            rw [← hsle] at s0 hSr hsc1 hsl hupd
                            have hcm := Lib.hid (slicescmp_any LA SA l.length sl.length lc sc l sl W6 W6.heap.size lr hSr (by omega) (by omega))
                            rw [cmpI_lex] at hcm
                            by_cases hlx : lex l sl = -1
                            · rw [hlx] at hcm
                              replace hlx := Lib.hid hlx
                              replace hsle := Lib.hid hsle
                              have q4 := hSH6.2.2.2.1.far (p := ⟨fb, j, none⟩) (by simp; exact Ne.symm hfk) (.slice LA l.length lc)
                              have z0 : (W6.setCell ⟨fb, j, none⟩ (.slice LA l.length lc)).cell? ⟨kb, j, none⟩ = some (.bool (ks1.getD j false)) := by rw [q4.cell, List.getElem?_toArray, bools, List.getElem?_map, hkv.out]; rfl
                              have z1 := q4.frozen j
                              obtain ⟨⟨u0, x2⟩, x3⟩ := hSH6.2.2.1.blk hjn
                              obtain ⟨hK2, hD2⟩ := hupd (hlv) (fun _ => hlx.out)
                              rw [hkj] at z0
                              have hSH7 := hSH6.set hjn hv6
                              replace hkj := Lib.hid hkj
                              clear hSH6 hSH3 hupd hsame q4
                              go_wp2_with (go_at_call 22; refine hcm.out.mono ?_; rintro e w7 ⟨rfl, rfl⟩)
                              go_roundg (m - (i + 1))
                              case measure => have := hi.out; omega
                              case rel => exact ⟨i + 1, ss1.set j l, ks1.set j true, true, by go_num, rfl, by have := hi.out; omega, hSH7, hK2, Lib.hid (by have := hD2.out; simpa using this)⟩
                            · have hDn := hsame fun _ l' h hl' => by
                                rw [hjo.out] at h
                                injection h with h
                                subst h
                                rw [← hsle]
                                exact ⟨hkj, hlx⟩
                              have hge : ¬ lex l sl < 0 := by rcases lex_vals l sl with h | h | h <;> omega
                              generalize lex l sl = lx at *
                              replace hkj := Lib.hid hkj
                              replace hsle := Lib.hid hsle
                              clear hlx hupd hsame
                              go_wp2_with (go_at_call 22; refine hcm.out.mono ?_; rintro e w7 ⟨rfl, rfl⟩)
                              go_roundg (m - (i + 1))
                              case measure => have := hi.out; omega
                              case rel => exact ⟨i + 1, ss1, ks1, ch1, by go_num, rfl, by have := hi.out; omega, hSH6, hK, hDn⟩
                        · have hlb : ((l.length : Int) == v) = false := by simpa using hlv
                          have hDn := hsame fun _ l' h hl' => by
                            rw [hjo.out] at h
                            injection h with h
                            subst h
                            exact absurd hl' hlv
                          clear hupd hsame hlv
                          go_wp2_with fail
                          go_roundg (m - (i + 1))
                          case measure => have := hi.out; omega
                          case rel => exact ⟨i + 1, ss1, ks1, ch1, by go_num, rfl, by have := hi.out; omega, hSH6, hK, hDn⟩
                    · have h2' : 200 < v := by omega
                      have hDn := hsame fun h => absurd h h2
                      clear hsame hJ h2
                      go_wp2_with fail
                      go_roundg (m - (i + 1))
                      case measure => have := hi.out; omega
                      case rel => exact ⟨i + 1, ss1, ks1, ch1, by go_num, rfl, by have := hi.out; omega, hSH3, hK, hDn⟩
                  · have him : i = m := by have := hi.out; omega
                    replace him := Lib.hid him
                    go_wp2_with fail
                    go_roundg (if ch1 = true then meaK ss1 ks1 + 1 else 0)
                    case measure =>
                      have h1 := hgk.out
                      simp at h1
                      rcases hD.out with ⟨a1, a2, a3, a4⟩ | ⟨a1, a2⟩
                      · rw [a1, if_neg (by simp)]; omega
                      · rw [a1, if_pos rfl]; omega
                    case rel => exact ⟨ss1, ks1, ch1, rfl, Lib.hid rfl, hSH, hK, Lib.hid (fun e => by
                      rcases hD.out with ⟨a1, a2, a3, a4⟩ | ⟨a1, a2⟩
                      · rw [a2, a3]
                        rwa [List.take_of_length_le (by have := hm.out; have := him.out; omega)] at a4
                      · rw [a1] at e; cases e)⟩
  · have hR := Lib.hid (fun (w' : World) (h3 : Below w.heap.size w w') => (show RetSh g f w (.returned (.tuple #[.slice none 0 0, .int .i64 (fchk g f)])) w' from ⟨h3, .inl ⟨h0, rfl⟩⟩))
    have h1 : (fchk g f == 0) = false := by simpa using h0
    have h2 : (fchk g f != 0) = true := by simpa using h0
    have hfb : Rd1 (w.alloc (.cells (gcells g ⟨ta, tc, na, nc, pa, pc⟩) 25)) w.heap.size FA k (ints f) := hf.below (bAlc (Below.refl _ _) _)
    generalize RetSh g f w = RR at *
    clear hg hs h0 hLe hfl hf
    generalize fchk g f = E at *
    unfold gval at *
    unfold gcells at *
    dsimp only at *
    go_enter Tryz.func8, Tryz.ntmps8
    obtain ⟨c0, c1, c2, c3, c4, c5⟩ := hG0.cells
    dsimp only at c1 c3 c5
    go_wp2_with (go_at_call 19; refine (hC.out _ (hG0.2.1.mono hG0.2.2.size) (hfb.mono hG0.2.2.size)).mono ?_; rintro e w1 ⟨rfl, hb1⟩)
    first
      | exact hR.out _ (hG0.step hb1).2.2
      | (go_ret2; exact hR.out _ (hG0.step hb1).2.2)
end Go.Proofs.YtlngbphchhbpbaaGreat

/- The reference's least lengths: the walk. -/
namespace Go.Proofs.YtlngbphchhbpbaaGreat
open Go.ChangeShapes Go.WideShapes Go.ChangeAt Go.RowKit
set_option linter.unusedVariables false

theorem ridx_any (s : Int) (w : World) (h : s ≤ 1000) : Calls Tryz.prog 59 #[.int .i64 s] w fun e w' => e = .returned (.int .i64 (if s < 16 then -1 else s - 16)) ∧ w = w' := by
  by_cases h16 : s < 16
  · rw [if_pos h16]
    go_enter Tryz.func59, Tryz.ntmps59
    go_wp2_with fail
    go_ret
    exact ⟨rfl, rfl⟩
  · rw [if_neg h16]
    have h1 : 16 ≤ s := by omega
    go_enter Tryz.func59, Tryz.ntmps59
    go_wp2_with fail
    go_ret
    exact ⟨rfl, rfl⟩
theorem costF_snoc (t : Int) (out : List Int) (s : Int) : ∀ (f : List Int) (c : Int), costF t out c (f ++ [s]) = satA (costF t out c f) (if s < 16 then t else out.getD (s - 16).toNat 0)
  | [], c => rfl
  | a :: f, c => by rw [List.cons_append, costF, costF_snoc t out s f]; rfl
theorem satA_non {a : Int} (h : 0 ≤ a) : satA a Non = Non := by unfold satA; split <;> omega
theorem satA_non2 {a : Int} (h : 0 ≤ a) : satA Non a = Non := by unfold satA; split <;> omega
/-- the sum of the first symbols -/
def PaS (t : Int) (out : List Int) (own : Int) (f : List Int) (sm : Int) (is : Bool) : Prop := (is = true → costF t out own f = sm ∧ 0 ≤ sm) ∧ (is = false → costF t out own f = Non)
theorem PaS.step {t : Int} {out : List Int} {own : Int} {f : List Int} {sm : Int} {is : Bool} (h : PaS t out own f sm is) (s v : Int) (hc : 0 ≤ (if s < 16 then t else out.getD (s - 16).toNat 0))
    (hv : v = if (if s < 16 then t else out.getD (s - 16).toNat 0) = Non then -1 else (if s < 16 then t else out.getD (s - 16).toNat 0)) (hb : is = true → sm + v ≤ 1000000000) : PaS t out own (f ++ [s]) (sm + v) (is && decide (0 ≤ v)) := by
  unfold PaS
  rw [costF_snoc]
  generalize (if s < 16 then t else out.getD (s - 16).toNat 0) = c at *
  cases is with
  | false =>
    refine ⟨fun e => by simp at e, fun _ => ?_⟩
    rw [h.2 rfl]; exact satA_non2 hc
  | true =>
    obtain ⟨h1, h2⟩ := h.1 rfl
    rw [h1]
    by_cases e : c = Non
    · rw [if_pos e] at hv
      subst hv
      refine ⟨fun e' => by simp at e', fun _ => ?_⟩
      rw [e]; exact satA_non h2
    · rw [if_neg e] at hv
      subst hv
      have hb2 := hb rfl
      refine ⟨fun _ => ⟨?_, by omega⟩, fun e' => by simp [hc] at e'⟩
      unfold satA Non
      rw [if_pos (by omega)]
theorem chS_get (out : List Int) {j : Nat} (h : j < out.length) : (choS (-1) out)[j]? = some (if out.getD j 0 = Non then -1 else out.getD j 0) := by
  simp [choS, List.getElem?_map, List.getElem?_eq_getElem h, List.getD_eq_getElem?_getD]
theorem chS_set (out : List Int) (j : Nat) (c : Int) (h : c ≠ Non) : (choS (-1) out).set j c = choS (-1) (out.set j c) := by
  unfold choS
  rw [List.map_set, if_neg h]
/-- the state of the reference's rounds -/
def SL (w : World) (g : Gr) (a : GA) (lb n : Nat) (out : List Int) (W : World) : Prop := GB w g a W ∧ Blk W lb 3 (ints (choS (-1) out)).toArray ∧ w.heap.size < lb
def RetRl (g : Gr) (own t : Int) (w : World) (e : Ending) (w' : World) : Prop := ∃ (out : List Int) (b : Nat), e = .returned (.slice (some ⟨b, 0, none⟩) g.names.length g.names.length) ∧ Blk w' b 3 (ints (choS (-1) out)).toArray ∧ LeC g.prods g.names.length own t out ∧ Below w.heap.size w w'
set_option maxRecDepth 100000 in
set_option maxHeartbeats 4000000 in
theorem rleast_any (g : Gr) (a : GA) (tm own t : Int) (w : World) (hg : GrAt w w.heap.size g a) (hok : gchk g = 0) (hown : 0 ≤ own ∧ own ≤ 1) (htm : (tm = 1 ∧ t = 1) ∨ (tm = -1 ∧ t = Non)) :
    Calls Tryz.prog 37 #[gval g a, .int .i64 tm, .int .i64 own] w (RetRl g own t w) := by
  obtain ⟨ta, tc, na, nc, pa, pc⟩ := a
  have hG0 := GB.start hg
  have hk := gok_of hok
  have hps := psok_of hok
  have ht : 0 ≤ t ∧ (t ≤ 1 ∨ t = Non) := by unfold Non at htm ⊢; omega
  have htN : 0 ≤ t ∧ t ≤ Non := by unfold Non at ht ⊢; omega
  have hownN : 0 ≤ own ∧ own ≤ Non := by unfold Non; omega
  have htv : tm = if t = Non then -1 else t := by
    rcases htm with ⟨h1, h2⟩ | ⟨h1, h2⟩
    · rw [h1, h2]; rfl
    · rw [h1, h2]; rfl
  have htm2 : -1 ≤ tm ∧ tm ≤ 1 := by omega
  have hRet := Lib.hid (fun (out : List Int) (b : Nat) (w' : World) (h1 : Blk w' b 3 (ints (choS (-1) out)).toArray) (h2 : CoS g.prods g.names.length own t out) (h3 : ClC g.prods own t out) (h4 : Below w.heap.size w w') =>
    (show RetRl g own t w (.returned (.slice (some ⟨b, 0, none⟩) g.names.length g.names.length)) w' from ⟨out, b, rfl, h1, h2.toLe hps hk.nm.2 h3 hown ht, h4⟩))
  have hStp := Lib.hid (fun (out : List Int) (h : CoS g.prods g.names.length own t out) (p : Pr) (hp : p ∈ g.prods) (hlt : costF t out own p.right < out.getD (p.left - 16).toNat 0) => h.step hps hown ht hp hlt)
  have hSt0 := Lib.hid (CoS.start g.prods g.names.length own t)
  obtain ⟨n, hn⟩ : ∃ n, n = g.names.length := ⟨_, rfl⟩
  obtain ⟨m, hm⟩ : ∃ m, m = g.prods.length := ⟨_, rfl⟩
  have hn8 : n ≤ 8 := by rw [hn]; exact hk.nm.2
  have hn1 : 1 ≤ n := by rw [hn]; exact hk.nm.1
  have hm24 : m ≤ 24 := by rw [hm]; exact hk.pl
  obtain ⟨i3, hi3, hq0, hq1, hq2⟩ := info_parts info3
  replace hps := Lib.hid hps
  replace htN := Lib.hid htN
  replace htv := Lib.hid htv
  replace hownN := Lib.hid hownN
  clear hg hok hk ht htm
  unfold gval at *
  unfold gcells at *
  dsimp only at *
  rw [← hn] at hG0 hRet hStp hSt0 hps ⊢
  rw [← hm] at hG0 ⊢
  generalize hRR : RetRl g own t w = R at *
  replace hRR := Lib.hid hRR
  replace hn := Lib.hid hn
  replace hm := Lib.hid hm
  have hzn : (0 : Int) ≤ n := by omega
  go_enter Tryz.func37, Tryz.ntmps37
  obtain ⟨c0, c1, c2, c3, c4, c5⟩ := hG0.cells
  dsimp only at c3
  rw [← hn.out] at c3
  clear c0 c1 c2 c4 c5
  go_upto_region 2 with (at_make; refine wpList_make_row _ rfl _ _ 26 rfl 3 i3 (.int .i64 0) under22 hi3 hq0 hq1 rfl _ _ n rfl rfl (by rw [hq2]; omega) (by omega) ?_)
  clear c3
  have hG1 := hG0.alloc (.cells (madeCells #[.int .i64 0] n) 3)
  have q1 : Blk ((w.alloc (.cells #[.int .i64 g.k, .slice ta g.toks.length tc, .string g.sep, .slice na n nc, .int .i64 g.start, .slice pa m pc] 25)).alloc (.cells (madeCells #[.int .i64 0] n) 3)) (w.heap.size + 1) 3 (madeCells #[.int .i64 0] n) := Blk.newAt _ _ _ _ (by simp)
  rw [fil_start _ (.int .i64 (-1))] at q1 hG1 ⊢
  have hlb : w.heap.size < w.heap.size + 1 := by omega
  clear hG0
  generalize (w.alloc (.cells #[.int .i64 g.k, .slice ta g.toks.length tc, .string g.sep, .slice na n nc, .int .i64 g.start, .slice pa m pc] 25)).alloc (.cells (fil (.int .i64 0) (.int .i64 (-1)) n 0) 3) = w1 at *
  generalize w.heap.size + 1 = lb at *
  go_wp2_with fail
  go_loopg [8] n (fun gk s8 wr => ∃ i : Nat, s8 = .int .i64 i ∧ i + gk = n ∧ Blk wr lb 3 (fil (.int .i64 0) (.int .i64 (-1)) n i) ∧ GB w g ⟨ta, tc, na, nc, pa, pc⟩ wr)
  case atStart => exact ⟨0, rfl, by omega, q1, hG1⟩
  case round =>
    clear q1 hG1
    obtain ⟨i, rfl, hi, q, hG⟩ := hrel
    replace hi := Lib.hid hi
    have hz2 : (0 : Int) ≤ i := by omega
    by_cases hin : i < n
    · have hz1 : (i : Int) < n := by omega
      have hs := fil_size (.int .i64 0) (.int .i64 (-1)) n i (by omega)
      have x0 : wr.cell? ⟨lb, i, none⟩ = some ((fil (.int .i64 0) (.int .i64 (-1)) n i)[i]'(by omega)) := by rw [q.cell]; exact Array.getElem?_eq_getElem _
      have x1 := q.frozen i
      have q2 := q.put i (.int .i64 (-1))
      rw [fil_next _ _ _ _ hin] at q2
      have hG2 := hG.far ⟨lb, i, none⟩ (.int .i64 (-1)) hlb
      generalize (fil (.int .i64 0) (.int .i64 (-1)) n i)[i]'(by omega) = y at x0
      replace hs := Lib.hid hs
      clear q hG
      go_wp2_with fail
      go_roundg (n - (i + 1))
      case measure => have := hi.out; omega
      case rel => exact ⟨i + 1, by go_num, by have := hi.out; omega, q2, hG2⟩
    · have hin2 : i = n := by have := hi.out; omega
      subst hin2
      rw [fil_end] at q
      have hci : (List.replicate i (Value.int .i64 (-1))).toArray = (ints (choS (-1) (List.replicate i Non))).toArray := by simp [ints, choS]
      rw [hci] at q
      have hSL : SL w g ⟨ta, tc, na, nc, pa, pc⟩ lb i (List.replicate i Non) wr := ⟨hG, q, hlb⟩
      clear hci q hG
      go_wp2_with fail
      go_loopg [9] (sumI (List.replicate i Non) + 1) (fun gk s9 wr => ∃ (out : List Int) (ch : Bool), s9 = .bool ch ∧ Hid (gk = if ch = true then sumI out + 1 else 0) ∧ Hid (CoS g.prods i own t out) ∧ SL w g ⟨ta, tc, na, nc, pa, pc⟩ lb i out wr ∧ Hid (ch = false → ClC g.prods own t out))
      case atStart => exact ⟨_, true, rfl, Lib.hid (by simp), hSt0, hSL, Lib.hid (fun h => by cases h)⟩
      case round =>
        clear hSL
        obtain ⟨out, ch, rfl, hgk, hCo, hSL, hCl⟩ := hrel
        cases ch with
        | false =>
          have hret := Lib.hid (hRet.out out lb wr hSL.2.1 hCo.out (hCl.out rfl) hSL.1.2.2)
          go_wp2_with fail
          first
            | exact hret.out
            | (go_ret; exact hret.out)
        | true =>
          clear hCl
          go_wp2_with fail
          have hSL' := hSL
          go_loopg [10, 9] m (fun gk2 s10 s9 wr => ∃ (p : Nat) (out1 : List Int) (ch1 : Bool), s10 = .int .i64 p ∧ s9 = .bool ch1 ∧ p + gk2 = m ∧ Hid (CoS g.prods i own t out1) ∧ SL w g ⟨ta, tc, na, nc, pa, pc⟩ lb i out1 wr ∧
            Hid ((ch1 = false ∧ out1 = out ∧ ∀ x ∈ g.prods.take p, out.getD (x.left - 16).toNat 0 ≤ costF t out own x.right) ∨ (ch1 = true ∧ sumI out1 < sumI out)))
          case atStart => exact ⟨0, out, false, rfl, rfl, by omega, hCo, hSL', Lib.hid (.inl ⟨rfl, rfl, by simp⟩)⟩
          case round =>
            clear hSL hSL' hCo
            obtain ⟨p, out1, ch1, rfl, rfl, hp, hCo, hSL, hD⟩ := hrel
            replace hp := Lib.hid hp
            obtain ⟨c0, c1, c2, c3, c4, c5⟩ := hSL.1.cells
            dsimp only at c5
            rw [← hm.out] at c5
            clear c0 c1 c2 c3 c4
            have hzp : (0 : Int) ≤ p := by omega
            by_cases hpm : p < m
            · have hzpm : (p : Int) < m := by omega
              have hmul : (p : Int) * 2 ≤ 100 := by omega
              have hpl : p < g.prods.length := by have := hm.out; omega
              have hxp : g.prods[p]? = some g.prods[p] := List.getElem?_eq_getElem hpl
              obtain ⟨b, off, rfl, hbt, y0, RA, rc, y1, hRd, hrl, hrm⟩ := hSL.1.2.1.prods.get hxp
              have hmem := List.getElem_mem hpl
              have htk : g.prods.take (p + 1) = g.prods.take p ++ [g.prods[p]] := List.take_succ_eq_append_getElem hpl
              obtain ⟨hlb2, hpr6, hsy⟩ := hps.out _ hmem
              have hStp1 := Lib.hid (fun h => hStp.out out1 hCo.out _ hmem h)
              generalize g.prods[p] = pp at *
              obtain ⟨pl, pr⟩ := pp
              dsimp only at y0 y1 hRd hrl hlb2 hpr6 hsy hStp1
              obtain ⟨k, hkk⟩ : ∃ k, k = pr.length := ⟨_, rfl⟩
              rw [← hkk] at y1 hRd hrl hpr6
              replace hkk := Lib.hid hkk
              replace hxp := Lib.hid hxp
              replace htk := Lib.hid htk
              replace hmem := Lib.hid hmem
              replace hsy := Lib.hid hsy
              have hzk : (0 : Int) ≤ k := by omega
              have hPa0 : Hid (PaS t out1 own (pr.take 0) own true) := Lib.hid ⟨fun _ => ⟨rfl, hownN.out.1⟩, fun h => by cases h⟩
              go_wp2_with fail
              go_loopg [11, 12, 13] k (fun gk3 s11 s12 s13 wx => ∃ (q : Nat) (sm : Int) (is : Bool), s13 = .int .i64 q ∧ s11 = .int .i64 sm ∧ s12 = .bool is ∧ q + gk3 = k ∧ (-(q : Int) ≤ sm ∧ sm ≤ 1 + (q : Int) * 5764801) ∧ Hid (PaS t out1 own (pr.take q) sm is) ∧ wx = wr)
              case atStart => exact ⟨0, own, true, rfl, rfl, rfl, by omega, by omega, hPa0, rfl⟩
              case round =>
                clear hPa0
                obtain ⟨q, sm, is, rfl, rfl, rfl, hq, ⟨hs1, hs2⟩, hPa, rfl⟩ := hrel
                replace hq := Lib.hid hq
                have hzq : (0 : Int) ≤ q := by omega
                have hq6 : q ≤ 6 := by have := hq.out; omega
                have hs4 : sm ≤ 100000000 := by omega
                have hs5 : -10 ≤ sm := by omega
                by_cases hqk : q < k
                · have hql : q < pr.length := by have := hkk.out; omega
                  have hx : pr[q]? = some pr[q] := List.getElem?_eq_getElem hql
                  obtain ⟨rb, roff, rfl, hrbt, x0⟩ := hRd.get (show (ints pr)[q]? = some (.int .i64 pr[q]) by rw [ints, List.getElem?_map, hx]; rfl)
                  have htk2 := take_snocG hx
                  have hsx := hsy.out _ (List.getElem_mem hql)
                  generalize pr[q] = s at *
                  have hzqk : (q : Int) < k := by omega
                  have hs1000 : s ≤ 1000 := by omega
                  replace hx := Lib.hid hx
                  have hix := Lib.hid (fun (W : World) => ridx_any s W hs1000)
                  by_cases h16 : s < 16
                  · rw [if_pos h16] at hix
                    have hcs : 0 ≤ (if s < 16 then t else out1.getD (s - 16).toNat 0) := by rw [if_pos h16]; exact htN.out.1
                    have hvs : tm = if (if s < 16 then t else out1.getD (s - 16).toNat 0) = Non then -1 else (if s < 16 then t else out1.getD (s - 16).toNat 0) := by rw [if_pos h16]; exact htv.out
                    clear h16 hsx
                    have hpb : is = true → sm + tm ≤ 1000000000 := fun _ => by omega
                    have hP2 := hPa.out.step s tm hcs hvs hpb
                    rw [← htk2] at hP2
                    have hs3 : -((q + 1 : Nat) : Int) ≤ sm + tm ∧ sm + tm ≤ 1 + ((q + 1 : Nat) : Int) * 5764801 := by omega
                    clear hcs hvs hpb
                    cases is with
                    | false =>
                      rw [Bool.false_and] at hP2
                      replace hP2 := Lib.hid hP2
                      go_wp2_with (go_at_call 59; refine (hix.out _).mono ?_; rintro e w2 ⟨rfl, rfl⟩)
                      go_roundg (k - (q + 1))
                      case measure => have := hq.out; omega
                      case rel => exact ⟨q + 1, sm + tm, false, by go_num, rfl, rfl, by have := hq.out; omega, hs3, hP2, rfl⟩
                    | true =>
                      by_cases h0 : 0 ≤ tm
                      · rw [Bool.true_and, decide_eq_true h0] at hP2
                        replace hP2 := Lib.hid hP2
                        go_wp2_with (go_at_call 59; refine (hix.out _).mono ?_; rintro e w2 ⟨rfl, rfl⟩)
                        go_roundg (k - (q + 1))
                        case measure => have := hq.out; omega
                        case rel => exact ⟨q + 1, sm + tm, true, by go_num, rfl, rfl, by have := hq.out; omega, hs3, hP2, rfl⟩
                      · rw [Bool.true_and, decide_eq_false h0] at hP2
                        replace hP2 := Lib.hid hP2
                        go_wp2_with (go_at_call 59; refine (hix.out _).mono ?_; rintro e w2 ⟨rfl, rfl⟩)
                        go_roundg (k - (q + 1))
                        case measure => have := hq.out; omega
                        case rel => exact ⟨q + 1, sm + tm, false, by go_num, rfl, by simp <;> omega, by have := hq.out; omega, hs3, hP2, rfl⟩
                  · rw [if_neg h16] at hix
                    obtain ⟨j, hj⟩ := Int.eq_ofNat_of_zero_le (show 0 ≤ s - 16 by omega)
                    have hj2 : (s - 16).toNat = j := by omega
                    have hji : j < i := by omega
                    have hjo : j < out1.length := by rw [hCo.out.len]; exact hji
                    have hcg := chS_get out1 hjo
                    obtain ⟨v, hv⟩ : ∃ v, v = if out1.getD j 0 = Non then -1 else out1.getD j 0 := ⟨_, rfl⟩
                    rw [← hv] at hcg
                    have l0 : wr.cell? ⟨lb, j, none⟩ = some (.int .i64 v) := by rw [hSL.2.1.cell, List.getElem?_toArray, ints, List.getElem?_map, hcg]; rfl
                    have hob := hCo.out.inb.get j
                    have hvb : -1 ≤ v ∧ v ≤ 5764801 := by
                      rw [hv]
                      split
                      · omega
                      · have hmo : out1.getD j 0 ∈ out1 := by rw [List.getD_eq_getElem?_getD, List.getElem?_eq_getElem hjo]; exact List.getElem_mem _
                        have := hCo.out.small hn8 hmo (by omega)
                        omega
                    obtain ⟨hvb1, hvb2⟩ := hvb
                    have hcs : 0 ≤ (if s < 16 then t else out1.getD (s - 16).toNat 0) := by rw [if_neg h16, hj2]; exact hob.1
                    have hvs : v = if (if s < 16 then t else out1.getD (s - 16).toNat 0) = Non then -1 else (if s < 16 then t else out1.getD (s - 16).toNat 0) := by rw [if_neg h16, hj2]; exact hv
                    have hzj : (0 : Int) ≤ j := by omega
                    have hzji : (j : Int) < i := by omega
                    rw [hj] at hix
                    replace hv := Lib.hid hv
                    replace hcg := Lib.hid hcg
                    clear h16 hsx hob hj2 hj
                    have hpb : is = true → sm + v ≤ 1000000000 := fun _ => by omega
                    have hP2 := hPa.out.step s v hcs hvs hpb
                    rw [← htk2] at hP2
                    have hs3 : -((q + 1 : Nat) : Int) ≤ sm + v ∧ sm + v ≤ 1 + ((q + 1 : Nat) : Int) * 5764801 := by omega
                    clear hcs hvs hpb
                    cases is with
                    | false =>
                      rw [Bool.false_and] at hP2
                      replace hP2 := Lib.hid hP2
                      go_wp2_with (go_at_call 59; refine (hix.out _).mono ?_; rintro e w2 ⟨rfl, rfl⟩)
                      go_roundg (k - (q + 1))
                      case measure => have := hq.out; omega
                      case rel => exact ⟨q + 1, sm + v, false, by go_num, rfl, rfl, by have := hq.out; omega, hs3, hP2, rfl⟩
                    | true =>
                      by_cases h0 : 0 ≤ v
                      · rw [Bool.true_and, decide_eq_true h0] at hP2
                        replace hP2 := Lib.hid hP2
                        go_wp2_with (go_at_call 59; refine (hix.out _).mono ?_; rintro e w2 ⟨rfl, rfl⟩)
                        go_roundg (k - (q + 1))
                        case measure => have := hq.out; omega
                        case rel => exact ⟨q + 1, sm + v, true, by go_num, rfl, rfl, by have := hq.out; omega, hs3, hP2, rfl⟩
                      · rw [Bool.true_and, decide_eq_false h0] at hP2
                        replace hP2 := Lib.hid hP2
                        go_wp2_with (go_at_call 59; refine (hix.out _).mono ?_; rintro e w2 ⟨rfl, rfl⟩)
                        go_roundg (k - (q + 1))
                        case measure => have := hq.out; omega
                        case rel => exact ⟨q + 1, sm + v, false, by go_num, rfl, by simp <;> omega, by have := hq.out; omega, hs3, hP2, rfl⟩
                · have hqk2 : ¬ (q : Int) < k := by omega
                  have hfull := hPa.out
                  rw [List.take_of_length_le (by have := hkk.out; omega)] at hfull
                  obtain ⟨j, hj⟩ := Int.eq_ofNat_of_zero_le (show 0 ≤ pl - 16 by omega)
                  have hj2 : (pl - 16).toNat = j := by omega
                  have hji : j < i := by omega
                  have hjo : j < out1.length := by rw [hCo.out.len]; exact hji
                  have hcg := chS_get out1 hjo
                  obtain ⟨v, hv⟩ : ∃ v, v = if out1.getD j 0 = Non then -1 else out1.getD j 0 := ⟨_, rfl⟩
                  rw [← hv] at hcg
                  have l0 : wr.cell? ⟨lb, j, none⟩ = some (.int .i64 v) := by rw [hSL.2.1.cell, List.getElem?_toArray, ints, List.getElem?_map, hcg]; rfl
                  have l1 := hSL.2.1.frozen j
                  have hob := hCo.out.inb.get j
                  have hix := Lib.hid (fun (W : World) => ridx_any pl W (by omega))
                  rw [if_neg (by omega), hj] at hix
                  rw [hj2] at hStp1
                  have hzj : (0 : Int) ≤ j := by omega
                  have hzji : (j : Int) < i := by omega
                  have hsame : out1.getD j 0 ≤ costF t out1 own pr → Hid ((ch1 = false ∧ out1 = out ∧ ∀ x ∈ g.prods.take (p + 1), out.getD (x.left - 16).toNat 0 ≤ costF t out own x.right) ∨ (ch1 = true ∧ sumI out1 < sumI out)) := fun h => Lib.hid (by
                    rcases hD.out with ⟨a1, a2, a3⟩ | a
                    · refine .inl ⟨a1, a2, fun x hx => ?_⟩
                      rw [htk.out] at hx
                      rcases List.mem_append.1 hx with hx | hx
                      · exact a3 x hx
                      · have : x = ⟨pl, pr⟩ := by simpa using hx
                        subst this
                        show out.getD (pl - 16).toNat 0 ≤ costF t out own pr
                        rw [hj2, ← a2]; exact h
                    · exact .inr a)
                  have hupd : costF t out1 own pr = sm → sm < out1.getD j 0 → 0 ≤ sm → Hid (CoS g.prods i own t (out1.set j sm)) ∧ Hid ((true = false ∧ out1.set j sm = out ∧ ∀ x ∈ g.prods.take (p + 1), out.getD (x.left - 16).toNat 0 ≤ costF t out own x.right) ∨ (true = true ∧ sumI (out1.set j sm) < sumI out)) ∧ SL w g ⟨ta, tc, na, nc, some ⟨b, off, none⟩, pc⟩ lb i (out1.set j sm) (wr.setCell ⟨lb, j, none⟩ (.int .i64 sm)) := fun he hlt h0 => by
                    have h1 := hStp1.out (by rw [he]; exact hlt)
                    rw [he] at h1
                    have hvv : out1[j]? = some (out1.getD j 0) := by rw [List.getD_eq_getElem?_getD, List.getElem?_eq_getElem hjo]; rfl
                    have h2 := sumI_set out1 j sm _ hvv h0 hlt
                    refine ⟨Lib.hid h1, Lib.hid (.inr ⟨rfl, ?_⟩), hSL.1.far _ _ hSL.2.2, ?_, hSL.2.2⟩
                    · rcases hD.out with ⟨_, a2, _⟩ | ⟨_, a2⟩
                      · rw [a2] at h2 ⊢; exact h2
                      · omega
                    · have h3 := hSL.2.1.put j (.int .i64 sm)
                      rw [ints_set, chS_set _ _ _ (by omega)] at h3
                      exact h3
                  clear hj2 hStp1 hPa
                  cases is with
                  | false =>
                    have hDn := hsame (by rw [hfull.2 rfl]; exact hob.2)
                    replace hfull := Lib.hid hfull
                    replace hv := Lib.hid hv
                    replace hcg := Lib.hid hcg
                    clear hsame hupd
                    go_wp2_with (go_at_call 59; refine (hix.out _).mono ?_; rintro e w2 ⟨rfl, rfl⟩)
                    go_roundg (m - (p + 1))
                    case measure => have := hp.out; omega
                    case rel => exact ⟨p + 1, out1, ch1, by go_num, rfl, by have := hp.out; omega, hCo, hSL, hDn⟩
                  | true =>
                    obtain ⟨hf1, hf2⟩ := hfull.1 rfl
                    replace hfull := Lib.hid hfull
                    by_cases hN : out1.getD j 0 = Non
                    · have hv0 : v < 0 := by rw [hv, if_pos hN]; omega
                      obtain ⟨hCo2, hD2, hSL2⟩ := hupd hf1 (by rw [hN]; unfold Non; omega) hf2
                      replace hf1 := Lib.hid hf1
                      replace hN := Lib.hid hN
                      replace hv := Lib.hid hv
                      replace hcg := Lib.hid hcg
                      clear hsame hupd hSL
                      go_wp2_with (go_at_call 59; refine (hix.out _).mono ?_; rintro e w2 ⟨rfl, rfl⟩)
                      go_roundg (m - (p + 1))
                      case measure => have := hp.out; omega
                      case rel => exact ⟨p + 1, out1.set j sm, true, by go_num, rfl, by have := hp.out; omega, hCo2, hSL2, Lib.hid (by have := hD2.out; simpa using this)⟩
                    · have hve : v = out1.getD j 0 := by rw [hv, if_neg hN]
                      have hv0 : ¬ v < 0 := by omega
                      replace hN := Lib.hid hN
                      replace hv := Lib.hid hv
                      replace hcg := Lib.hid hcg
                      by_cases hlt : sm < v
                      · obtain ⟨hCo2, hD2, hSL2⟩ := hupd hf1 (by rw [← hve]; exact hlt) hf2
                        replace hf1 := Lib.hid hf1
                        replace hve := Lib.hid hve
                        clear hsame hupd hSL
                        go_wp2_with (go_at_call 59; refine (hix.out _).mono ?_; rintro e w2 ⟨rfl, rfl⟩)
                        go_roundg (m - (p + 1))
                        case measure => have := hp.out; omega
                        case rel => exact ⟨p + 1, out1.set j sm, true, by go_num, rfl, by have := hp.out; omega, hCo2, hSL2, Lib.hid (by have := hD2.out; simpa using this)⟩
                      · have hDn := hsame (by rw [hf1, ← hve]; omega)
                        replace hf1 := Lib.hid hf1
                        replace hve := Lib.hid hve
                        clear hsame hupd
                        go_wp2_with (go_at_call 59; refine (hix.out _).mono ?_; rintro e w2 ⟨rfl, rfl⟩)
                        go_roundg (m - (p + 1))
                        case measure => have := hp.out; omega
                        case rel => exact ⟨p + 1, out1, ch1, by go_num, rfl, by have := hp.out; omega, hCo, hSL, hDn⟩
            · have hpm2 : p = m := by have := hp.out; omega
              have hzpm : ¬ (p : Int) < m := by omega
              replace hpm2 := Lib.hid hpm2
              go_wp2_with fail
              go_roundg (if ch1 = true then sumI out1 + 1 else 0)
              case measure =>
                have h1 := hgk.out
                simp at h1
                rcases hD.out with ⟨a1, a2, _⟩ | ⟨a1, a2⟩
                · rw [a1, if_neg (by simp)]; omega
                · rw [a1, if_pos rfl]; omega
              case rel => exact ⟨out1, ch1, rfl, Lib.hid rfl, hCo, hSL, Lib.hid (fun e => by
                rcases hD.out with ⟨_, a2, a3⟩ | ⟨a1, _⟩
                · rw [a2]
                  intro q hq
                  exact a3 q (by rw [hpm2.out, hm.out, List.take_of_length_le (Nat.le_refl _)]; exact hq)
                · rw [a1] at e; cases e)⟩
end Go.Proofs.YtlngbphchhbpbaaGreat

/- The reference's Lengths, Least, length, order: the walks. -/
namespace Go.Proofs.YtlngbphchhbpbaaGreat
open Go.ChangeShapes Go.WideShapes Go.ChangeAt Go.RowKit
set_option linter.unusedVariables false

set_option maxRecDepth 100000 in
set_option maxHeartbeats 2000000 in
theorem rlengths_any (g : Gr) (a : GA) (w : World) (hg : GrAt w w.heap.size g a) (hs : Small g) : Calls Tryz.prog 18 #[gval g a] w (RetLn g w) := by
  obtain ⟨ta, tc, na, nc, pa, pc⟩ := a
  have hG0 := GB.start hg
  have hC := Lib.hid (fun (W : World) (h : GrAt W W.heap.size g ⟨ta, tc, na, nc, pa, pc⟩) => rcheckg_any g ⟨ta, tc, na, nc, pa, pc⟩ W h hs)
  by_cases h0 : gchk g = 0
  · have hR := Lib.hid (fun (L : List Int) (b : Nat) (w' : World) (h1 : Blk w' b 3 (ints L).toArray) (h2 : LenL g.prods g.names.length L) (h3 : Below w.heap.size w w') => (show RetLn g w (.returned (.tuple #[.slice (some ⟨b, 0, none⟩) g.names.length g.names.length, .int .i64 0])) w' from ⟨h3, .inr ⟨h0, L, b, rfl, h1, h2⟩⟩))
    have hps := Lib.hid (psok_of h0)
    have hCo := Lib.hid (fun (W : World) (h : GrAt W W.heap.size g ⟨ta, tc, na, nc, pa, pc⟩) => rleast_any g ⟨ta, tc, na, nc, pa, pc⟩ 1 0 1 W h h0 (by omega) (.inl ⟨rfl, rfl⟩))
    rw [h0] at hC
    clear hg h0 hs
    unfold gval at *
    unfold gcells at *
    dsimp only at *
    generalize RetLn g w = RR at *
    go_enter Tryz.func18, Tryz.ntmps18
    obtain ⟨c0, c1, c2, c3, c4, c5⟩ := hG0.cells
    dsimp only at c1 c3 c5
    go_upto_region 4 with (go_at_call 36; refine (hC.out _ (hG0.2.1.mono hG0.2.2.size)).mono ?_; rintro e w1 ⟨rfl, hb1⟩)
    have hG1 := hG0.step hb1
    clear c0 c1 c2 c3 c4 c5 hG0 hb1 hC
    obtain ⟨c0, c1, c2, c3, c4, c5⟩ := hG1.cells
    dsimp only at c1 c3 c5
    go_wp2_with (go_at_call 37; refine (hCo.out _ (hG1.2.1.mono hG1.2.2.size)).mono ?_; rintro e w2 ⟨out, b, rfl, qo, hLe, hb2⟩)
    first
      | exact hR.out _ _ _ qo (hLe.lens hps.out) (bStep hG1.2.2 hb2)
      | (go_ret2; exact hR.out _ _ _ qo (hLe.lens hps.out) (bStep hG1.2.2 hb2))
  · have hR := Lib.hid (fun (w' : World) (h3 : Below w.heap.size w w') => (show RetLn g w (.returned (.tuple #[.slice none 0 0, .int .i64 (gchk g)])) w' from ⟨h3, .inl ⟨h0, rfl⟩⟩))
    have h1 : (gchk g == 0) = false := by simpa using h0
    have h2 : (gchk g != 0) = true := by simpa using h0
    generalize RetLn g w = RR at *
    clear hg hs h0
    generalize gchk g = E at *
    unfold gval at *
    unfold gcells at *
    dsimp only at *
    go_enter Tryz.func18, Tryz.ntmps18
    obtain ⟨c0, c1, c2, c3, c4, c5⟩ := hG0.cells
    dsimp only at c1 c3 c5
    go_wp2_with (go_at_call 36; refine (hC.out _ (hG0.2.1.mono hG0.2.2.size)).mono ?_; rintro e w1 ⟨rfl, hb1⟩)
    first
      | exact hR.out _ (hG0.step hb1).2.2
      | (go_ret2; exact hR.out _ (hG0.step hb1).2.2)
set_option maxRecDepth 100000 in
set_option maxHeartbeats 2000000 in
theorem rleastE_any (g : Gr) (a : GA) (w : World) (hg : GrAt w w.heap.size g a) (hs : Small g) : Calls Tryz.prog 7 #[gval g a] w (RetLe g w) := by
  obtain ⟨ta, tc, na, nc, pa, pc⟩ := a
  have hG0 := GB.start hg
  have hC := Lib.hid (fun (W : World) (h : GrAt W W.heap.size g ⟨ta, tc, na, nc, pa, pc⟩) => rlengths_any g ⟨ta, tc, na, nc, pa, pc⟩ W h hs)
  by_cases h0 : gchk g = 0
  · have hR := Lib.hid (fun (L : List Int) (b : Nat) (w' : World) (h1 : Blk w' b 3 (ints L).toArray) (h2 : LenL g.prods g.names.length L) (hno : -1 ∉ L) (h3 : Below w.heap.size w w') => (show RetLe g w (.returned (.tuple #[.slice (some ⟨b, 0, none⟩) g.names.length g.names.length, .int .i64 0])) w' from ⟨h3, .inr ⟨h0, L, h2, .inr ⟨hno, b, rfl, h1⟩⟩⟩))
    have hR2 := Lib.hid (fun (L : List Int) (w' : World) (h2 : LenL g.prods g.names.length L) (hno : -1 ∈ L) (h3 : Below w.heap.size w w') => (show RetLe g w (.returned (.tuple #[.slice none 0 0, .int .i64 16])) w' from ⟨h3, .inr ⟨h0, L, h2, .inl ⟨hno, rfl⟩⟩⟩))
    have hnm := (gok_of h0).nm
    have hC2 := Lib.hid (fun (W : World) (h : GrAt W W.heap.size g ⟨ta, tc, na, nc, pa, pc⟩) => (show Calls Tryz.prog 18 #[gval g ⟨ta, tc, na, nc, pa, pc⟩] W fun e w' => ∃ (L : List Int) (b : Nat), e = .returned (.tuple #[.slice (some ⟨b, 0, none⟩) g.names.length g.names.length, .int .i64 0]) ∧ Blk w' b 3 (ints L).toArray ∧ LenL g.prods g.names.length L ∧ Below W.heap.size W w' from
      (hC.out W h).mono fun e w' hr => by
        obtain ⟨hb, ⟨h1, _⟩ | ⟨_, L, b, h2, h3, h4⟩⟩ := hr
        · exact absurd h0 h1
        · exact ⟨L, b, h2, h3, h4, hb⟩))
    clear hg h0 hs hC
    unfold gval at *
    unfold gcells at *
    dsimp only at *
    generalize RetLe g w = RR at *
    obtain ⟨n, hn⟩ : ∃ n, n = g.names.length := ⟨_, rfl⟩
    rw [← hn] at hG0 hR hR2 hnm hC2 ⊢
    go_enter Tryz.func7, Tryz.ntmps7
    obtain ⟨c0, c1, c2, c3, c4, c5⟩ := hG0.cells
    dsimp only at c1 c3 c5
    rw [← hn] at c3
    replace hn := Lib.hid hn
    go_upto_region 4 with (go_at_call 18; refine (hC2.out _ (hG0.2.1.mono hG0.2.2.size)).mono ?_; rintro e w1 ⟨L, b, rfl, qb, hL, hb1⟩)
    have hbw := Lib.hid (bStep hG0.2.2 hb1)
    have hLl := Lib.hid hL.len
    clear c0 c1 c2 c3 c4 c5 hG0 hb1 hC2
    go_wp2_with fail
    go_loopg [6] n (fun gk s6 wr => ∃ i : Nat, s6 = .int .i64 i ∧ i + gk = n ∧ Hid (-1 ∉ L.take i) ∧ wr = w1)
    case atStart => exact ⟨0, rfl, by omega, Lib.hid (by simp), rfl⟩
    case round =>
      obtain ⟨i, rfl, hi, hno, rfl⟩ := hrel
      replace hi := Lib.hid hi
      have hz2 : (0 : Int) ≤ i := by omega
      by_cases hin : i < n
      · have hiL : i < L.length := by have := hLl.out; omega
        have hx : L[i]? = some L[i] := List.getElem?_eq_getElem hiL
        have x0 : wr.cell? ⟨b, i, none⟩ = some (.int .i64 L[i]) := by rw [qb.cell, List.getElem?_toArray, ints, List.getElem?_map, hx]; rfl
        have htk : L.take (i + 1) = L.take i ++ [L[i]] := List.take_succ_eq_append_getElem hiL
        have hmem := List.getElem_mem hiL
        have hbd := hL.bd _ hmem
        generalize L[i] = v at *
        have hz1 : (i : Int) < n := by omega
        replace hx := Lib.hid hx
        by_cases hv : v < 0
        · have hv1 : v = -1 := by omega
          have hfin := Lib.hid (hR2.out L wr hL (by rw [← hv1]; exact hmem) hbw.out)
          replace htk := Lib.hid htk
          clear hbd hv1 hmem
          go_wp2_with fail
          first
            | exact hfin.out
            | (go_ret2; exact hfin.out)
        · have hno2 : Hid (-1 ∉ L.take (i + 1)) := Lib.hid (by
            rw [htk]
            intro h
            rcases List.mem_append.1 h with h | h
            · exact hno.out h
            · have : (-1 : Int) = v := by simpa using h
              omega)
          replace htk := Lib.hid htk
          clear hbd hmem
          go_wp2_with fail
          go_roundg (n - (i + 1))
          case measure => have := hi.out; omega
          case rel => exact ⟨i + 1, by go_num, by have := hi.out; omega, hno2, rfl⟩
      · have hfin := Lib.hid (hR.out L b wr qb hL (by
          have := hno.out
          rwa [List.take_of_length_le (by have := hLl.out; have := hi.out; omega)] at this) hbw.out)
        go_wp2_with fail
        first
          | exact hfin.out
          | (go_ret2; exact hfin.out)
  · have hR := Lib.hid (fun (w' : World) (h3 : Below w.heap.size w w') => (show RetLe g w (.returned (.tuple #[.slice none 0 0, .int .i64 (gchk g)])) w' from ⟨h3, .inl ⟨h0, rfl⟩⟩))
    have hC2 := Lib.hid (fun (W : World) (h : GrAt W W.heap.size g ⟨ta, tc, na, nc, pa, pc⟩) => (show Calls Tryz.prog 18 #[gval g ⟨ta, tc, na, nc, pa, pc⟩] W fun e w' => e = .returned (.tuple #[.slice none 0 0, .int .i64 (gchk g)]) ∧ Below W.heap.size W w' from
      (hC.out W h).mono fun e w' hr => by
        obtain ⟨hb, ⟨h1, h2⟩ | ⟨h1, _⟩⟩ := hr
        · exact ⟨h2, hb⟩
        · exact absurd h1 h0))
    have h1 : (gchk g == 0) = false := by simpa using h0
    have h2 : (gchk g != 0) = true := by simpa using h0
    generalize RetLe g w = RR at *
    clear hg hs h0 hC
    generalize gchk g = E at *
    unfold gval at *
    unfold gcells at *
    dsimp only at *
    go_enter Tryz.func7, Tryz.ntmps7
    obtain ⟨c0, c1, c2, c3, c4, c5⟩ := hG0.cells
    dsimp only at c1 c3 c5
    go_wp2_with (go_at_call 18; refine (hC2.out _ (hG0.2.1.mono hG0.2.2.size)).mono ?_; rintro e w1 ⟨rfl, hb1⟩)
    first
      | exact hR.out _ (hG0.step hb1).2.2
      | (go_ret2; exact hR.out _ (hG0.step hb1).2.2)
end Go.Proofs.YtlngbphchhbpbaaGreat

/- ref19.length, order: the walks. -/
namespace Go.Proofs.YtlngbphchhbpbaaGreat
open Go.ChangeShapes Go.WideShapes Go.ChangeAt Go.RowKit
set_option linter.unusedVariables false

theorem min40 (x : Int) (h : x ≤ 1099511627776) : min x 1099511627776 = x := by omega
set_option maxRecDepth 100000 in
set_option maxHeartbeats 2000000 in
theorem rlength_any (f L : List Int) (RA : Option Addr) (k rc lb n : Nat) (w : World) (hf : Rd1 w w.heap.size RA k (ints f)) (ql : Blk w lb 3 (ints L).toArray) (hLl : L.length = n) (hy : AllY L) (hLb : ∀ v ∈ L, v ≤ 5764801) (hsy : SyN n f) (hk : k ≤ 200) (hn : n ≤ 8) :
    Calls Tryz.prog 24 #[.slice RA k rc, .slice (some ⟨lb, 0, none⟩) n n] w (fun e w' => e = .returned (.int .i64 (lenS L f)) ∧ w' = w) := by
  have hfl : f.length = k := by have := hf.1; simpa [ints] using this
  have hY := Lib.hid (fun (t : Int) (h : t = lenS L f) => (show (Ending.returned (.int .i64 t)) = .returned (.int .i64 (lenS L f)) by rw [h]))
  replace hfl := Lib.hid hfl
  replace hsy := Lib.hid hsy
  replace hLl := Lib.hid hLl
  replace hLb := Lib.hid hLb
  replace hy := Lib.hid hy
  have hz0 : (0 : Int) ≤ k := by omega
  generalize hRR : lenS L f = RR at *
  replace hRR := Lib.hid hRR
  go_enter Tryz.func24, Tryz.ntmps24
  go_wp2_with fail
  go_loopg [6, 5] k (fun gk s6 s5 wr => ∃ (i : Nat) (t : Int), s6 = .int .i64 i ∧ s5 = .int .i64 t ∧ i + gk = k ∧ Hid (t = lenS L (f.take i)) ∧ wr = w)
  case atStart => exact ⟨0, 0, rfl, rfl, by omega, Lib.hid (by simp [lenS]), rfl⟩
  case round =>
    obtain ⟨i, t, rfl, rfl, hi, ht, rfl⟩ := hrel
    replace hi := Lib.hid hi
    have htb := lenS_up hLb.out (f.take i)
    have htp := lenS_pos hy.out (f.take i)
    have htl : (f.take i).length ≤ 200 := by rw [List.length_take]; have := hfl.out; omega
    have htb2 : t ≤ 1152960200 := by rw [ht.out]; omega
    have htb3 : 0 ≤ t := by rw [ht.out]; exact htp
    clear htb htp htl
    by_cases hin : i < k
    · have hil : i < f.length := by have := hfl.out; omega
      have hx : f[i]? = some f[i] := List.getElem?_eq_getElem hil
      obtain ⟨b1, off1, rfl, hbt1, x0⟩ := hf.get (show (ints f)[i]? = some (.int .i64 f[i]) by rw [ints, List.getElem?_map, hx]; rfl)
      have htk := take_snocG hx
      have hsx := hsy.out _ (List.getElem_mem hil)
      generalize f[i] = s at *
      have hz1 : (i : Int) < k := by omega
      have hz2 : (0 : Int) ≤ i := by omega
      replace hx := Lib.hid hx
      replace htk := Lib.hid htk
      by_cases h16 : s < 16
      · have ht2 : Hid (t + 1 = lenS L (f.take (i + 1))) := Lib.hid (by rw [htk.out, lenS_snoc, if_pos h16, ← ht.out])
        have hmn := min40 (t + 1) (by omega)
        clear hsx
        go_wp2_with fail
        go_roundg (k - (i + 1))
        case measure => have := hi.out; omega
        case rel => exact ⟨i + 1, t + 1, by go_num, by (first | rfl | go_num), by have := hi.out; omega, ht2, rfl⟩
      · obtain ⟨j, hj⟩ := Int.eq_ofNat_of_zero_le (show 0 ≤ s - 16 by omega)
        have hj2 : (s - 16).toNat = j := by omega
        have hjn : j < n := by omega
        have ht2 : Hid (t + L.getD j 0 = lenS L (f.take (i + 1))) := Lib.hid (by rw [htk.out, lenS_snoc, if_neg h16, ← ht.out, hj2])
        have hv : L[j]? = some (L.getD j 0) := by rw [List.getD_eq_getElem?_getD, List.getElem?_eq_getElem (by have := hLl.out; omega)]; rfl
        have y0 : wr.cell? ⟨lb, j, none⟩ = some (.int .i64 (L.getD j 0)) := by rw [ql.cell, List.getElem?_toArray, ints, List.getElem?_map, hv]; rfl
        have hvb := hLb.out _ (List.mem_of_getElem? hv)
        have hvb2 := hy.out.get j
        generalize L.getD j 0 = v at *
        have hzj : (0 : Int) ≤ j := by omega
        have hzjn : (j : Int) < n := by omega
        have hs2 : s ≤ 1000 := by omega
        have hmn := min40 (t + v) (by omega)
        replace hv := Lib.hid hv
        clear hsx hj2
        go_wp2_with fail
        go_roundg (k - (i + 1))
        case measure => have := hi.out; omega
        case rel => exact ⟨i + 1, t + v, by go_num, by (first | rfl | go_num), by have := hi.out; omega, ht2, rfl⟩
    · have hfin := Lib.hid (hY.out t (by rw [ht.out, List.take_of_length_le (by have := hfl.out; omega)]; exact hRR.out))
      go_wp2_with fail
      go_ret
      exact ⟨hfin.out, rfl⟩

/- order: the comparison of two lists of the same length -/
set_option maxRecDepth 100000 in
set_option maxHeartbeats 2000000 in
theorem rorder_any (x y : List Int) (XA YA : Option Addr) (n xc yc : Nat) (w : World) (hx : Rd1 w w.heap.size XA n (ints x)) (hy : Rd1 w w.heap.size YA n (ints y)) (hn : n ≤ 200) :
    Calls Tryz.prog 41 #[.slice XA n xc, .slice YA n yc] w (fun e w' => e = .returned (.int .i64 (lex x y)) ∧ Below w.heap.size w w') := by
  have hxl : x.length = n := by have := hx.1; simpa [ints] using this
  have hyl : y.length = n := by have := hy.1; simpa [ints] using this
  obtain ⟨R, hR⟩ : ∃ R, R = lex x y := ⟨_, rfl⟩
  rw [← hR]
  have hR0 : Hid (lex (x.drop 0) (y.drop 0) = R) := Lib.hid hR.symm
  have hxl' := Lib.hid hxl
  have hyl' := Lib.hid hyl
  clear hxl hyl hR
  have hz0 : (0 : Int) ≤ n := by omega
  go_enter Tryz.func41, Tryz.ntmps41
  go_wp2_with fail
  go_loopg [5] n (fun gk s5 wr => ∃ (i : Nat), s5 = .int .i64 i ∧ i + gk = n ∧ Hid (lex (x.drop i) (y.drop i) = R) ∧ Below w.heap.size w wr)
  case atStart => exact ⟨0, rfl, by omega, hR0, Below.refl _ _⟩
  case round =>
    obtain ⟨i, rfl, hi, hj, hb⟩ := hrel
    replace hi := Lib.hid hi
    by_cases hin : i < n
    · have hil : i < x.length := by have := hxl'.out; omega
      have hjl : i < y.length := by have := hyl'.out; omega
      have ex : x[i]? = some x[i] := List.getElem?_eq_getElem hil
      have ey : y[i]? = some y[i] := List.getElem?_eq_getElem hjl
      obtain ⟨b1, off1, rfl, hbt1, x0⟩ := (hx.below hb).get (show (ints x)[i]? = some (.int .i64 x[i]) by rw [ints, List.getElem?_map, ex]; rfl)
      obtain ⟨b2, off2, rfl, hbt2, y0⟩ := (hy.below hb).get (show (ints y)[i]? = some (.int .i64 y[i]) by rw [ints, List.getElem?_map, ey]; rfl)
      have d1 := drop_consG ex
      have d2 := drop_consG ey
      generalize x[i] = s at *
      generalize y[i] = t at *
      have hz1 : (i : Int) < n := by omega
      have hz2 : (0 : Int) ≤ i := by omega
      have hjj := hj.out
      rw [d1, d2] at hjj
      unfold lex at hjj
      replace ex := Lib.hid ex
      replace ey := Lib.hid ey
      replace d1 := Lib.hid d1
      replace d2 := Lib.hid d2
      clear hj
      by_cases h1 : s < t
      · rw [if_pos h1] at hjj
        subst hjj
        have hd1 : decide (s < t) = true := decide_eq_true h1
        go_wp2_with (go_quiet (fail))
        go_ret
        exact ⟨rfl, bDrwN hb _⟩
      · have hd1 : decide (s < t) = false := decide_eq_false h1
        rw [if_neg h1] at hjj
        by_cases h2 : t < s
        · rw [if_pos h2] at hjj
          subst hjj
          have hd2 : decide (t < s) = true := decide_eq_true h2
          go_wp2_with (go_quiet (fail))
          go_ret
          exact ⟨rfl, bDrwN hb _⟩
        · rw [if_neg h2] at hjj
          have hd2 : decide (t < s) = false := decide_eq_false h2
          replace hjj := Lib.hid hjj
          go_wp2_with (go_quiet (fail))
          go_roundg (n - (i + 1))
          case measure => have := hi.out; omega
          case rel => exact ⟨i + 1, by go_num, Nat.add_sub_cancel' hin, hjj, bDrwN hb _⟩
    · have hjj := hj.out
      rw [List.drop_eq_nil_of_le (by have := hxl'.out; omega), List.drop_eq_nil_of_le (by have := hyl'.out; omega)] at hjj
      unfold lex at hjj
      subst hjj
      go_wp2_with fail
      go_ret
      exact ⟨rfl, hb⟩
end Go.Proofs.YtlngbphchhbpbaaGreat

/- ref19.join: the walk. -/
namespace Go.Proofs.YtlngbphchhbpbaaGreat
open Go.ChangeShapes Go.WideShapes Go.ChangeAt Go.RowKit
set_option linter.unusedVariables false

set_option maxRecDepth 100000 in
set_option maxHeartbeats 2000000 in
theorem rjoin_any (ps : List Pr) (L : List Int) (f : List Int) (RA : Option Addr) (k rc fb kb n : Nat) (ss : List (List Int)) (ks : List Bool) (w : World) (hf : Rd1 w w.heap.size RA k (ints f)) (hfs : FS w fb n ss) (hks : Blk w kb 4 (bools ks).toArray) (hkl : ks.length = n) (hsy : SyN n f) (hk : k ≤ 200) (hn : n ≤ 8) (hKn : KnS ps L ss ks) (hy : AllY L) (hl2 : lenS L f ≤ 200) :
    Calls Tryz.prog 26 #[.slice RA k rc, .slice (some ⟨fb, 0, none⟩) n n, .slice (some ⟨kb, 0, none⟩) n n] w (RetJn (jnF ss ks [] f) w) := by
  have hfl : f.length = k := by have := hf.1; simpa [ints] using this
  obtain ⟨R, hR⟩ : ∃ R, R = jnF ss ks [] f := ⟨_, rfl⟩
  rw [← hR]
  have hR0 := Lib.hid (show jnF ss ks [] (f.drop 0) = R from hR.symm)
  have hN := Lib.hid (fun (w' : World) (h : R = none) (hb : Below w.heap.size w w') => (show RetJn R w (.returned (.tuple #[.slice none 0 0, .bool false])) w' from ⟨hb, .inl ⟨h, rfl⟩⟩))
  have hY := Lib.hid (fun (l : List Int) (v : Value) (w' : World) (h : R = some l) (hr : RdI w' v l) (hb : Below w.heap.size w w') => (show RetJn R w (.returned (.tuple #[v, .bool true])) w' from ⟨hb, .inr ⟨l, v, h, rfl, hr⟩⟩))
  generalize hRR : RetJn R w = RR at *
  replace hRR := Lib.hid hRR
  clear hR
  replace hfl := Lib.hid hfl
  replace hkl := Lib.hid hkl
  replace hsy := Lib.hid hsy
  replace hKn := Lib.hid hKn
  replace hy := Lib.hid hy
  have hz0 : (0 : Int) ≤ k := by omega
  go_enter Tryz.func26, Tryz.ntmps26
  go_wp2_with fail
  have hown0 : Src1 (w.alloc (.cells #[] 3)) w.heap.size (.slice (some ⟨w.heap.size, 0, none⟩) 0 0) [] := .inr (Own1.empty w _ 3 (Nat.le_refl _))
  have hb0 : Below w.heap.size w (w.alloc (.cells #[] 3)) := bAlc (Below.refl _ _) _
  generalize w.alloc (.cells #[] 3) = w0 at *
  go_loopg [8, 9] k (fun gk s8 s14 wr => ∃ (i : Nat) (out : List Int), s14 = .int .i64 i ∧ i + gk = k ∧ Src1 wr w.heap.size s8 out ∧ Hid ((out.length : Int) + lenS L (f.drop i) ≤ 200) ∧ Hid (jnF ss ks out (f.drop i) = R) ∧ Below w.heap.size w wr)
  case atStart => exact ⟨0, [], rfl, by omega, hown0, Lib.hid (by simpa using hl2), hR0, hb0⟩
  case round =>
    clear hown0 hb0
    obtain ⟨i, out, rfl, hi, hown, hol, hj, hb⟩ := hrel
    replace hi := Lib.hid hi
    by_cases hin : i < k
    · have hil : i < f.length := by have := hfl.out; omega
      have hx : f[i]? = some f[i] := List.getElem?_eq_getElem hil
      obtain ⟨b1, off1, rfl, hbt1, x0⟩ := (hf.below hb).get (show (ints f)[i]? = some (.int .i64 f[i]) by rw [ints, List.getElem?_map, hx]; rfl)
      have hdr := drop_consG hx
      have hsx := hsy.out _ (List.getElem_mem hil)
      generalize f[i] = s at *
      have hz1 : (i : Int) < k := by omega
      have hz2 : (0 : Int) ≤ i := by omega
      have hjj := hj.out
      rw [hdr] at hjj
      have hll := hol.out
      rw [hdr] at hll
      unfold lenS at hll
      have hpos := lenS_pos hy.out (f.drop (i + 1))
      replace hx := Lib.hid hx
      replace hdr := Lib.hid hdr
      by_cases h16 : s < 16
      · have hd : decide (16 ≤ s) = false := decide_eq_false (by omega)
        rw [jnF, if_pos h16] at hjj
        rw [if_pos h16] at hll
        obtain ⟨v', W', hrun, hs', hb'⟩ := app_src (W := wr.alloc (.cells #[.int .i64 s] 3)) (c := 1) (k := [s]) (m := 1) (B := some ⟨wr.heap.size, 0, none⟩) (hown.step (bAlc (Below.refl _ _) _)) (by have := hb.size; simp; omega) (rd_blk (Blk.new wr 3 _)) (by omega)
        have hb'' := (bAlc hb _).trans hb'
        have hol2 : Hid (((out ++ [s]).length : Int) + lenS L (f.drop (i + 1)) ≤ 200) := Lib.hid (by rw [List.length_append, List.length_singleton]; omega)
        replace hrun := Lib.hid hrun
        replace hjj := Lib.hid hjj
        clear hsx hown hj hll hpos hol
        go_wp2_with (at_builtin; refine wpList_appR _ rfl _ _ 26 rfl _ _ rfl rfl _ _ hrun.out ?_)
        go_roundg (k - (i + 1))
        case measure => have := hi.out; omega
        case rel => exact ⟨i + 1, out ++ [s], by go_num, by have := hi.out; omega, hs', hol2, hjj, hb''⟩
      · have hd : decide (16 ≤ s) = true := decide_eq_true (by omega)
        rw [jnF, if_neg h16] at hjj
        rw [if_neg h16] at hll
        obtain ⟨j, hjv⟩ := Int.eq_ofNat_of_zero_le (show 0 ≤ s - 16 by omega)
        have hj2 : (s - 16).toNat = j := by omega
        rw [hj2] at hjj hll
        have hgp := hy.out.get j
        have hjn : j < n := by omega
        have hzj : (0 : Int) ≤ j := by omega
        have hzjn : (j : Int) < n := by omega
        have hs2 : s ≤ 1000 := by omega
        have hkr := (hks.step hb)
        have hkv : ks[j]? = some (ks.getD j false) := by rw [List.getD_eq_getElem?_getD, List.getElem?_eq_getElem (by have := hkl.out; omega)]; rfl
        have y0 : wr.cell? ⟨kb, j, none⟩ = some (.bool (ks.getD j false)) := by
          rw [hkr.cell, List.getElem?_toArray, bools, List.getElem?_map, hkv]; rfl
        replace hkv := Lib.hid hkv
        clear hsx
        cases hkk : ks.getD j false with
        | false =>
          rw [hkk] at hjj y0
          rw [if_pos rfl] at hjj
          have hfin := Lib.hid (hN.out wr hjj.symm hb)
          replace hjj := Lib.hid hjj
          replace hkk := Lib.hid hkk
          clear hown hj hll hpos hol hgp hj2
          go_wp2_with fail
          first
            | exact hfin.out
            | (go_ret2; exact hfin.out)
        | true =>
          rw [hkk] at hjj y0
          rw [if_neg (by simp)] at hjj
          obtain ⟨SA, sc, x1, hSr, hsc1, hsc2⟩ := (hfs.step hb).get hjn
          have hsl2 := (hKn.out s (by omega) (by rw [hj2]; exact hkk)).2
          rw [hj2] at hsl2
          generalize ss.getD j [] = sl at *
          obtain ⟨v', W', hrun, hs', hb'⟩ := app_src (c := sc) hown hb.size hSr (by omega)
          have hb'' := hb.trans hb'
          obtain ⟨A', c', rfl, hrr, hcc1, hcc2⟩ := hs'.reads (by rw [List.length_append]; omega)
          replace hrun := Lib.hid hrun
          replace hkk := Lib.hid hkk
          clear hown hj
          have h200 : ¬ 200 < (out ++ sl).length := by rw [List.length_append]; omega
          · rw [if_neg h200] at hjj
            have hol2 : Hid (((out ++ sl).length : Int) + lenS L (f.drop (i + 1)) ≤ 200) := Lib.hid (by rw [List.length_append]; omega)
            have hs2' : Src1 W' w.heap.size (.slice A' (out ++ sl).length c') (out ++ sl) := hs'
            replace hjj := Lib.hid hjj
            obtain ⟨ol, hoe⟩ : ∃ ol, ol = (out ++ sl).length := ⟨_, rfl⟩
            rw [← hoe] at hrun hs2'
            replace hoe := Lib.hid hoe
            clear hs' hrr hcc1 h200 hll hpos hol hgp hj2 hsl2
            go_wp2_with (at_builtin; refine wpList_appR _ rfl _ _ 26 rfl _ _ rfl rfl _ _ hrun.out ?_)
            go_roundg (k - (i + 1))
            case measure => have := hi.out; omega
            case rel => exact ⟨i + 1, out ++ sl, by go_num, by have := hi.out; omega, hs2', hol2, hjj, hb''⟩
    · have hjj := hj.out
      rw [List.drop_eq_nil_of_le (by have := hfl.out; omega), jnF] at hjj
      have hfin := Lib.hid (hY.out out u8 wr hjj.symm (hown.reads (by have := hol.out; have := lenS_pos hy.out (f.drop i); omega)) hb)
      replace hjj := Lib.hid hjj
      go_wp2_with fail
      first
        | exact hfin.out
        | (go_ret2; exact hfin.out)
end Go.Proofs.YtlngbphchhbpbaaGreat

/- ref19.shortest: the walk. -/
namespace Go.Proofs.YtlngbphchhbpbaaGreat
open Go.ChangeShapes Go.WideShapes Go.ChangeAt Go.RowKit
set_option linter.unusedVariables false

/-- what the reference's shortest hands back -/
def RetRs (ps : List Pr) (n : Nat) (L : List Int) (w : World) (e : Ending) (w' : World) : Prop :=
  ∃ (fb kb : Nat) (ss : List (List Int)) (ks : List Bool), e = .returned (.tuple #[.slice (some ⟨fb, 0, none⟩) n n, .slice (some ⟨kb, 0, none⟩) n n]) ∧ FS w' fb n ss ∧ Blk w' kb 4 (bools ks).toArray ∧ ks.length = n ∧ KnS ps L ss ks ∧ SmS ss ∧ KnC ps L ss ks ∧ Below w.heap.size w w'
theorem fs_new (W : World) (n : Nat) : FS (W.alloc (.cells (List.replicate n (Value.slice none 0 0)).toArray 26)) W.heap.size n (List.replicate n []) := ⟨_, Blk.new _ _ _, by simp, by simp, fun i l hl => by
  have hil := (List.getElem?_eq_some_iff.1 hl).1
  rw [List.length_replicate] at hil
  rw [List.getElem?_replicate, if_pos hil] at hl
  injection hl with hl
  subst hl
  exact ⟨_, by simp [hil], RdI.nil _⟩⟩
theorem bl_new (W : World) (n : Nat) : Blk (W.alloc (.cells (List.replicate n (Value.bool false)).toArray 4)) W.heap.size 4 (bools (List.replicate n false)).toArray := by
  have : (List.replicate n (Value.bool false)).toArray = (bools (List.replicate n false)).toArray := by simp [bools]
  rw [← this]; exact Blk.new _ _ _
set_option maxRecDepth 100000 in
set_option maxHeartbeats 4000000 in
theorem rshort_any (g : Gr) (a : GA) (lb n : Nat) (L : List Int) (w : World) (hg : GrAt w w.heap.size g a) (hok : gchk g = 0) (hn : n = g.names.length) (ql : Blk w lb 3 (ints L).toArray) (hL : LenL g.prods n L) (hno : -1 ∉ L) :
    Calls Tryz.prog 25 #[gval g a, .slice (some ⟨lb, 0, none⟩) n n] w (RetRs g.prods n L w) := by
  obtain ⟨ta, tc, na, nc, pa, pc⟩ := a
  have hG0 := GB.start hg
  have hE := Lib.hid (fun (fb kb : Nat) (ss : List (List Int)) (ks : List Bool) (w' : World) (h1 : FS w' fb n ss) (h2 : Blk w' kb 4 (bools ks).toArray) (h3 : ks.length = n) (h4 : KnS g.prods L ss ks) (h5 : SmS ss) (h6 : KnC g.prods L ss ks) (h7 : Below w.heap.size w w') => (show RetRs g.prods n L w (.returned (.tuple #[.slice (some ⟨fb, 0, none⟩) n n, .slice (some ⟨kb, 0, none⟩) n n])) w' from ⟨fb, kb, ss, ks, rfl, h1, h2, h3, h4, h5, h6, h7⟩))
  generalize hRR : RetRs g.prods n L w = RR at *
  replace hRR := Lib.hid hRR
  have hps := psok_of hok
  have hkk := gok_of hok
  have hlet : Hid (∀ p ∈ g.prods, ∀ s ∈ p.right, s < 16 → 0 ≤ s ∧ s < 8) := Lib.hid (fun p hp s hs h16 => by
    have := hkk.tk
    rcases (hkk.pr p hp).2.2 s hs with h' | h' <;> omega)
  obtain ⟨m, hm⟩ : ∃ m, m = g.prods.length := ⟨_, rfl⟩
  have hn8 : n ≤ 8 := by rw [hn]; exact hkk.nm.2
  have hn1 : 1 ≤ n := by rw [hn]; exact hkk.nm.1
  have hm24 : m ≤ 24 := by rw [hm]; exact hkk.pl
  rw [← hn] at hps
  have hy : AllY L := fun v hv => by
    rcases hL.bd v hv with h | h
    · subst h; exact absurd hv hno
    · exact h.1
  have hLb : ∀ v ∈ L, v ≤ 5764801 := fun v hv => by rcases hL.bd v hv with h | h <;> omega
  have hLl := hL.len
  have hpr6 := Lib.hid (fun p (hp : p ∈ g.prods) => (hps p hp).2.1)
  have ql0 := ql.step (bAlc (Below.refl _ _) (.cells (gcells g ⟨ta, tc, na, nc, pa, pc⟩) 25))
  clear hg hok hkk ql
  unfold gval at *
  unfold gcells at *
  dsimp only at *
  rw [← hn] at hG0 ql0 ⊢
  rw [← hm] at hG0 ql0 ⊢
  replace hps := Lib.hid hps
  replace hn := Lib.hid hn
  replace hm := Lib.hid hm
  replace hL := Lib.hid hL
  replace hy := Lib.hid hy
  replace hLb := Lib.hid hLb
  replace hLl := Lib.hid hLl
  clear hno
  have hzn : (0 : Int) ≤ n := by omega
  go_enter Tryz.func25, Tryz.ntmps25
  obtain ⟨c0, c1, c2, c3, c4, c5⟩ := hG0.cells
  dsimp only at c5
  rw [← hm.out] at c5
  clear c0 c1 c2 c3 c4
  obtain ⟨i26, hi26, hq0, hq1, hq2⟩ := info_parts info26
  obtain ⟨i4, hi4, hp0, hp1, hp2⟩ := info_parts info4b
  go_upto_region 1 with (fail)
  have hwlt := hG0.lt
  generalize w.alloc (.cells #[.int .i64 g.k, .slice ta g.toks.length tc, .string g.sep, .slice na n nc, .int .i64 g.start, .slice pa m pc] 25) = w0 at *
  go_cut [6, 7] (fun s6 s7 wx => ∃ (fb kb : Nat), s6 = .slice (some ⟨fb, 0, none⟩) n n ∧ s7 = .slice (some ⟨kb, 0, none⟩) n n ∧ SH w g ⟨ta, tc, na, nc, pa, pc⟩ lb fb kb n L (List.replicate n []) (List.replicate n false) wx)
  case first =>
    have w1 : SH w g ⟨ta, tc, na, nc, pa, pc⟩ lb w0.heap.size (w0.heap.size + 1) n L (List.replicate n []) (List.replicate n false) ((w0.alloc (.cells (List.replicate n (Value.slice none 0 0)).toArray 26)).alloc (.cells (List.replicate n (Value.bool false)).toArray 4)).drew :=
      ⟨((hG0.alloc _).alloc _).step (bDrw (Below.refl _ _)), ((ql0.alloc _).alloc _).drew, ((fs_new w0 n).step (bAlc (Below.refl _ _) _)).step (bDrw (Below.refl _ _)), by have := (bl_new (w0.alloc (.cells (List.replicate n (Value.slice none 0 0)).toArray 26)) n).drew; simpa using this, by simp, by omega, by omega⟩
    have w2 : SH w g ⟨ta, tc, na, nc, pa, pc⟩ lb (w0.heap.size + 1) w0.heap.size n L (List.replicate n []) (List.replicate n false) ((w0.alloc (.cells (List.replicate n (Value.bool false)).toArray 4)).alloc (.cells (List.replicate n (Value.slice none 0 0)).toArray 26)).drew :=
      ⟨((hG0.alloc _).alloc _).step (bDrw (Below.refl _ _)), ((ql0.alloc _).alloc _).drew, by have := (fs_new (w0.alloc (.cells (List.replicate n (Value.bool false)).toArray 4)) n).step (bDrw (Below.refl _ _)); simpa using this, ((bl_new w0 n).alloc _).drew, by simp, by omega, by omega⟩
    have hmk1 : ∀ W : World, (Instr.makeSlice 39 (.int .i64 (n : Int)) (.int .i64 (n : Int))).run Tryz.prog W = .ok (.slice (some ⟨W.heap.size, 0, none⟩) n n) (W.alloc (.cells (List.replicate n (Value.slice none 0 0)).toArray 26)) := fun W => by
      have := run_make_row (P := Tryz.prog) 39 26 i26 (.slice none 0 0) under41 hi26 hq0 hq1 rfl .i64 .i64 n (by rw [hq2]; omega) (by omega) W
      rwa [fil_nil] at this
    have hmk2 : ∀ W : World, (Instr.makeSlice 46 (.int .i64 (n : Int)) (.int .i64 (n : Int))).run Tryz.prog W = .ok (.slice (some ⟨W.heap.size, 0, none⟩) n n) (W.alloc (.cells (List.replicate n (Value.bool false)).toArray 4)) := fun W => by
      have := run_make_row (P := Tryz.prog) 46 4 i4 (.bool false) under82 hi4 hp0 hp1 rfl .i64 .i64 n (by rw [hp2]; omega) (by omega) W
      rwa [fil_nil] at this
    clear c5 hG0 ql0 hi26 hq0 hq1 hq2 hi4 hp0 hp1 hp2
    go_region
    all_goals (go_wp2_with fail; go_meet; first | exact ⟨_, _, rfl, rfl, w1⟩ | exact ⟨_, _, rfl, rfl, w2⟩)
  case rest =>
    clear c5 hG0 ql0 hwlt
    obtain ⟨fb, kb, rfl, rfl, hSH⟩ := hcut
    clear hi26 hq0 hq1 hq2 hi4 hp0 hp1 hp2
    go_wp2_with fail
    go_loopg [8] (meaK (List.replicate n []) (List.replicate n false) + 1) (fun gk s14 wr => ∃ (ss : List (List Int)) (ks : List Bool) (ch : Bool), s14 = .bool ch ∧ Hid (gk = if ch = true then meaK ss ks + 1 else 0) ∧ SH w g ⟨ta, tc, na, nc, pa, pc⟩ lb fb kb n L ss ks wr ∧ Hid (KnS g.prods L ss ks ∧ SmS ss) ∧ Hid (ch = false → KnC g.prods L ss ks))
    case atStart => exact ⟨_, _, true, rfl, Lib.hid (by simp), hSH, Lib.hid ⟨fun a ha hka => by
      rw [List.getD_eq_getElem?_getD, List.getElem?_replicate] at hka
      split at hka <;> simp at hka, fun l hl => by have := (List.mem_replicate.1 hl).2; subst this; exact ⟨by simp, fun c hc => by simp at hc⟩⟩, Lib.hid (fun h => by cases h)⟩
    case round =>
      clear hSH
      obtain ⟨ss, ks, ch, rfl, hgk, hSH, hK, hCl⟩ := hrel
      cases ch with
      | false =>
        have hfin := Lib.hid (hE.out fb kb ss ks wr hSH.2.2.1 hSH.2.2.2.1 hSH.2.2.2.2.1 hK.out.1 hK.out.2 (hCl.out rfl) hSH.1.2.2)
        go_wp2_with fail
        first
          | exact hfin.out
          | (go_ret2; exact hfin.out)
      | true =>
        clear hCl
        have hSH' := hSH
        go_wp2_with fail
        go_loopg [9, 8] m (fun gk2 s68 s14 wr => ∃ (i : Nat) (ss1 : List (List Int)) (ks1 : List Bool) (ch1 : Bool), s68 = .int .i64 i ∧ s14 = .bool ch1 ∧ i + gk2 = m ∧ SH w g ⟨ta, tc, na, nc, pa, pc⟩ lb fb kb n L ss1 ks1 wr ∧ Hid (KnS g.prods L ss1 ks1 ∧ SmS ss1) ∧
          Hid ((ch1 = false ∧ ss1 = ss ∧ ks1 = ks ∧ KnC (g.prods.take i) L ss ks) ∨ (ch1 = true ∧ meaK ss1 ks1 < meaK ss ks)))
        case atStart => exact ⟨0, ss, ks, false, rfl, rfl, by omega, hSH', hK, Lib.hid (.inl ⟨rfl, rfl, rfl, fun p hp => by simp at hp⟩)⟩
        case round =>
          clear hSH hSH' hK
          obtain ⟨i, ss1, ks1, ch1, rfl, rfl, hi, hSH, hK, hD⟩ := hrel
          replace hi := Lib.hid hi
          obtain ⟨c0, c1, c2, c3, c4, c5⟩ := hSH.1.cells
          dsimp only at c5
          rw [← hm.out] at c5
          clear c0 c1 c2 c3 c4
          by_cases hin : i < m
          · have hil : i < g.prods.length := by have := hm.out; omega
            have hxi : g.prods[i]? = some g.prods[i] := List.getElem?_eq_getElem hil
            obtain ⟨b, off, rfl, hbt, y0, RA, rc, y1, hRd, hrl, hrm⟩ := hSH.1.2.1.prods.get hxi
            have hpm := List.getElem_mem hil
            have htk : g.prods.take (i + 1) = g.prods.take i ++ [g.prods[i]] := List.take_succ_eq_append_getElem hil
            obtain ⟨hpl, hpr6, hsy⟩ := hps.out _ hpm
            have hltp := hlet.out _ hpm
            generalize g.prods[i] = p at *
            obtain ⟨pl, pr⟩ := p
            dsimp only at y0 y1 hRd hrl hpl hpr6 hsy hltp
            obtain ⟨j, hj⟩ := Int.eq_ofNat_of_zero_le (show 0 ≤ pl - 16 by omega)
            have hj2 : (pl - 16).toNat = j := by omega
            have hj3 : pl = 16 + (j : Int) := by omega
            have hjn : j < n := by omega
            have hv : L[j]? = some (L.getD j 0) := by rw [List.getD_eq_getElem?_getD, List.getElem?_eq_getElem (by have := hLl.out; omega)]; rfl
            have hvb := hLb.out _ (List.mem_of_getElem? hv)
            have hvb2 := hy.out.get j
            -- nothing made better: one production more
            have hsame : (L.getD j 0 ≤ 200 → ∀ l, jnF ss1 ks1 [] pr = some l → (l.length : Int) = L.getD j 0 → ks1.getD j false = true ∧ lex l (ss1.getD j []) ≠ -1) → Hid ((ch1 = false ∧ ss1 = ss ∧ ks1 = ks ∧ KnC (g.prods.take (i + 1)) L ss ks) ∨ (ch1 = true ∧ meaK ss1 ks1 < meaK ss ks)) := fun h => Lib.hid (by
              rcases hD.out with ⟨a1, a2, a3, a4⟩ | a
              · refine .inl ⟨a1, a2, a3, fun q hq => ?_⟩
                rw [htk] at hq
                rcases List.mem_append.1 hq with hq | hq
                · exact a4 q hq
                · have : q = ⟨pl, pr⟩ := by simpa using hq
                  subst this
                  show L.getD (pl - 16).toNat 0 ≤ 200 → ∀ l, jnF ss ks [] pr = some l → (l.length : Int) = L.getD (pl - 16).toNat 0 → ks.getD (pl - 16).toNat false = true ∧ lex l (ss.getD (pl - 16).toNat []) ≠ -1
                  rw [hj2, ← a2, ← a3]
                  exact h
              · exact .inr a)
            have hzi : (0 : Int) ≤ i := by omega
            have hzim : (i : Int) < m := by omega
            have hmul : (i : Int) * 2 ≤ 100 := by omega
            have hzj : (0 : Int) ≤ j := by omega
            have hzjn : (j : Int) < n := by omega
            have hpl2 : pl ≤ 1000 := by omega
            replace hxi := Lib.hid hxi
            replace htk := Lib.hid htk
            replace hpm := Lib.hid hpm
            replace hltp := Lib.hid hltp
            replace hj3 := Lib.hid hj3
            clear hj2 hpl
            have l0 : wr.cell? ⟨lb, j, none⟩ = some (.int .i64 (L.getD j 0)) := by rw [hSH.2.1.cell, List.getElem?_toArray, ints, List.getElem?_map, hv]; rfl
            have hRd3 : Rd1 wr wr.heap.size RA pr.length (ints pr) := hRd.mono hSH.1.2.2.size
            have hLn := Lib.hid (fun (q : KeptBy wr) => (rlength_any pr L RA pr.length rc lb n q.world ((hRd3.below q.kept).mono q.kept.size) (hSH.2.1.step q.kept) hLl.out hy.out hLb.out hsy (by omega) hn8).mono (R' := fun e w' => e = .returned (.int .i64 (lenS L pr)) ∧ Below q.world.heap.size q.world w') (by rintro e w' ⟨rfl, rfl⟩; exact ⟨rfl, Below.refl _ _⟩))
            have hJ := fun (W : World) (hb : Below wr.heap.size wr W) (hl2 : lenS L pr ≤ 200) => rjoin_any g.prods L pr RA pr.length rc fb kb n ss1 ks1 W ((hRd3.below hb).mono hb.size) (hSH.2.2.1.step hb) (hSH.2.2.2.1.step hb) hSH.2.2.2.2.1 hsy (by omega) hn8 hK.out.1 hy.out hl2
            replace hJ := Lib.hid hJ
            replace hsy := Lib.hid hsy
            have hlsn := Lib.hid (fun l (h : jnF ss1 ks1 [] pr = some l) => jnF_snd hK.out.1 h)
            obtain ⟨v, hvv⟩ : ∃ v, v = L.getD j 0 := ⟨_, rfl⟩
            rw [← hvv] at l0 hvb hvb2 hsame
            replace hv := Lib.hid hv
            replace hvv := Lib.hid hvv
            clear hRd hRd3
            go_upto_region 9 with (fail)
            have k0 := cell_kept l0
            have k1 := cell_kept y0
            have k2 := cell_kept y1
            have k5 := cell_kept c5
            by_cases h2 : v ≤ 200
            · have h2' : decide (200 < v) = false := decide_eq_false (by omega)
              obtain ⟨ln, hln⟩ : ∃ ln, ln = lenS L pr := ⟨_, rfl⟩
              rw [← hln] at hLn hJ
              replace hln := Lib.hid hln
              refine wp_region_kept (by kernel_rfl) (by kernel_rfl) ?_
              repeat (go_big_quiet_step ((go_at_call 24; exact Calls.kept_by (hLn.out _))))
              refine wpQuiet_nil ?_
              rintro _ ⟨q, rfl⟩
              have hqk := q.kept
              have y1K := k2 q
              have c5K := k5 q
              generalize q.world = W5 at hqk y1K c5K
              have hJ1 := fun hl2 => hJ.out W5 hqk hl2
              have hSH3 := hSH.step hqk
              clear k0 k1 k2 k5 hLn hJ l0 y0 hSH
              by_cases hlv : ln = v
              · have hlvb : (ln != v) = false := by simpa using hlv
                have hl200 : ln ≤ 200 := by omega
                have hJ2 := hJ1 hl200
                clear hJ1
                replace y1 := y1K
                replace c5 := c5K
                cases hjo : jnF ss1 ks1 [] pr with
                | none =>
                  rw [hjo] at hJ2
                  have hJ3 := Lib.hid (hJ2.mono (R' := fun e w' => e = .returned (.tuple #[.slice none 0 0, .bool false]) ∧ Below W5.heap.size W5 w') (by
                    rintro e w' ⟨hb9, ⟨h, rfl⟩ | ⟨l, v, h, _⟩⟩
                    · exact ⟨rfl, hb9⟩
                    · cases h))
                  have hDn := hsame fun _ l h => by rw [hjo] at h; cases h
                  replace hjo := Lib.hid hjo
                  clear hJ2 hsame h2 hlv
                  go_wp2_with (go_at_call 26; refine hJ3.out.mono ?_; rintro e w6 ⟨rfl, hb6⟩)
                  go_roundg (m - (i + 1))
                  case measure => have := hi.out; omega
                  case rel => exact ⟨i + 1, ss1, ks1, ch1, by go_num, rfl, by have := hi.out; omega, hSH3.step hb6, hK, hDn⟩
                | some l =>
                  rw [hjo] at hJ2
                  have hJ3 := Lib.hid (hJ2.mono (R' := fun e w' => ∃ v, e = .returned (.tuple #[v, .bool true]) ∧ RdI w' v l ∧ Below W5.heap.size W5 w') (by
                    rintro e w' ⟨hb9, ⟨h, _⟩ | ⟨l2, v, h, rfl, hv⟩⟩
                    · cases h
                    · injection h with h
                      subst h
                      exact ⟨v, rfl, hv, hb9⟩))
                  obtain ⟨l2, el, hder, hll⟩ := hlsn.out l hjo
                  rw [List.nil_append] at el
                  subst el
                  have hlv2 : (l.length : Int) = v := by rw [hll, ← hln.out, hlv]
                  have hl2n : l.length ≤ 200 := by omega
                  have hfl26 : ss1.length = n := by obtain ⟨_, _, _, h3, _⟩ := hSH3.2.2.1; exact h3
                  have hkl26 : ks1.length = n := hSH3.2.2.2.2.1
                  have hfk : fb ≠ kb := by obtain ⟨cs, f1, _⟩ := hSH3.2.2.1; exact blk_ne f1 hSH3.2.2.2.1 (by decide)
                  have hl8 : Let8 l := der_letters (P := fun c => 0 ≤ c ∧ c < 8) hlet.out hder hltp.out
                  have hslk : ks1.getD j false = true → (ss1.getD j []).length = l.length := fun hk => by
                    have := (hK.out.1 (16 + (j : Int)) (by omega) (by rw [show (16 + (j : Int) - 16).toNat = j by omega]; exact hk)).2
                    rw [show (16 + (j : Int) - 16).toNat = j by omega, ← hvv.out] at this
                    omega
                  have hupd : (ks1.getD j false = true → lex l (ss1.getD j []) = -1) → Hid (KnS g.prods L (ss1.set j l) (ks1.set j true) ∧ SmS (ss1.set j l)) ∧
                      Hid ((true = false ∧ ss1.set j l = ss ∧ ks1.set j true = ks ∧ KnC (g.prods.take (i + 1)) L ss ks) ∨ (true = true ∧ meaK (ss1.set j l) (ks1.set j true) < meaK ss ks)) := fun hx => by
                    refine ⟨Lib.hid ⟨hK.out.1.set hfl26 hkl26 hjn ⟨⟨pl, pr⟩, hpm.out, hj3.out, hder⟩ (by rw [← hvv.out]; exact hlv2), hK.out.2.set hl2n hl8⟩, Lib.hid (.inr ⟨rfl, ?_⟩)⟩
                    have hlt := meaK_set ss1 ks1 j l (by omega) (by omega) (fun _ => by
                      have h1 := rnk_lt hl8
                      have h2 : 8 ^ l.length ≤ 8 ^ 201 := Nat.pow_le_pow_right (by omega) (by omega)
                      omega) (fun hk => rnk_lex hl8 (hK.out.2.get j).2 (hslk hk).symm (hx hk))
                    rcases hD.out with ⟨_, a2, a3, _⟩ | ⟨_, a2⟩
                    · rw [a2, a3] at hlt ⊢; exact hlt
                    · omega
                  replace hjo := Lib.hid hjo
                  replace hder := Lib.hid hder
                  replace hl8 := Lib.hid hl8
                  replace hll := Lib.hid hll
                  replace hlv2 := Lib.hid hlv2
                  clear hJ2 h2 hlv
                  go_upto_region 11 with (go_at_call 26; refine hJ3.out.mono ?_; rintro e W6 ⟨v6, rfl, hv6, hb6⟩)
                  have hSH6 := hSH3.step hb6
                  have hv6' := hv6
                  obtain ⟨LA, lc, rfl, lr, lc1, lc2⟩ := hv6'
                  have hkv : Hid (ks1[j]? = some (ks1.getD j false)) := Lib.hid (by rw [List.getD_eq_getElem?_getD, List.getElem?_eq_getElem (by omega)]; rfl)
                  have y0 : W6.cell? ⟨kb, j, none⟩ = some (.bool (ks1.getD j false)) := by rw [hSH6.2.2.2.1.cell, List.getElem?_toArray, bools, List.getElem?_map, hkv.out]; rfl
                  clear hJ3 c5 y1
                  cases hkj : ks1.getD j false with
                  | false =>
                    rw [hkj] at y0
                    have q4 := hSH6.2.2.2.1.far (p := ⟨fb, j, none⟩) (by simp; exact Ne.symm hfk) (.slice LA l.length lc)
                    have z0 : (W6.setCell ⟨fb, j, none⟩ (.slice LA l.length lc)).cell? ⟨kb, j, none⟩ = some (.bool (ks1.getD j false)) := by rw [q4.cell, List.getElem?_toArray, bools, List.getElem?_map, hkv.out]; rfl
                    have z1 := q4.frozen j
                    obtain ⟨⟨u0, x2⟩, x3⟩ := hSH6.2.2.1.blk hjn
                    obtain ⟨hK2, hD2⟩ := hupd (fun h => by rw [hkj] at h; cases h)
                    rw [hkj] at z0
                    have hSH7 := hSH6.set hjn hv6
                    replace hkj := Lib.hid hkj
                    clear hSH6 hSH3 hupd hsame q4 hslk
                    go_wp2_with (fail)
                    go_roundg (m - (i + 1))
                    case measure => have := hi.out; omega
                    case rel => exact ⟨i + 1, ss1.set j l, ks1.set j true, true, by go_num, rfl, by have := hi.out; omega, hSH7, hK2, Lib.hid (by have := hD2.out; simpa using this)⟩
                  | true =>
                    rw [hkj] at y0
                    obtain ⟨SA, sc, s0, hSr, hsc1, hsc2⟩ := hSH6.2.2.1.get hjn
                    have hsll := hslk hkj
                    obtain ⟨sl, hsle⟩ : ∃ sl, sl = ss1.getD j [] := ⟨_, rfl⟩
                    rw [← hsle] at s0 hSr hsc1 hupd hsll
                    rw [hsll] at s0 hSr hsc1
                    have hcm := Lib.hid (rorder_any l sl LA SA l.length lc sc W6 lr hSr hl2n)
                    replace hsll := Lib.hid hsll
                    by_cases hlx : lex l sl = -1
                    · rw [hlx] at hcm
                      replace hlx := Lib.hid hlx
                      replace hsle := Lib.hid hsle
                      obtain ⟨hK2, hD2⟩ := hupd (fun _ => hlx.out)
                      clear hupd hsame hslk
                      go_upto_region 12 with (go_at_call 41; refine hcm.out.mono ?_; rintro e W7 ⟨rfl, hb7⟩)
                      have hSH6 := hSH6.step hb7
                      have hv7 := hv6.step hb7
                      have q4 := hSH6.2.2.2.1.far (p := ⟨fb, j, none⟩) (by simp; exact Ne.symm hfk) (.slice LA l.length lc)
                      have z0 : (W7.setCell ⟨fb, j, none⟩ (.slice LA l.length lc)).cell? ⟨kb, j, none⟩ = some (.bool (ks1.getD j false)) := by rw [q4.cell, List.getElem?_toArray, bools, List.getElem?_map, hkv.out]; rfl
                      have z1 := q4.frozen j
                      obtain ⟨⟨u0, x2⟩, x3⟩ := hSH6.2.2.1.blk hjn
                      rw [hkj] at z0
                      have hSH7 := hSH6.set hjn hv7
                      replace hkj := Lib.hid hkj
                      clear hSH6 hSH3 q4 hcm s0 y0
                      go_wp2_with (fail)
                      go_roundg (m - (i + 1))
                      case measure => have := hi.out; omega
                      case rel => exact ⟨i + 1, ss1.set j l, ks1.set j true, true, by go_num, rfl, by have := hi.out; omega, hSH7, hK2, Lib.hid (by have := hD2.out; simpa using this)⟩
                    · have hDn := hsame fun _ l' h hl' => by
                        rw [hjo.out] at h
                        injection h with h
                        subst h
                        rw [← hsle]
                        exact ⟨hkj, hlx⟩
                      have hge : ¬ lex l sl < 0 := by rcases lex_vals l sl with h | h | h <;> omega
                      generalize lex l sl = lx at *
                      replace hkj := Lib.hid hkj
                      replace hsle := Lib.hid hsle
                      clear hlx hupd hsame hslk
                      go_wp2_with (go_at_call 41; refine hcm.out.mono ?_; rintro e w7 ⟨rfl, hb7⟩)
                      go_roundg (m - (i + 1))
                      case measure => have := hi.out; omega
                      case rel => exact ⟨i + 1, ss1, ks1, ch1, by go_num, rfl, by have := hi.out; omega, hSH6.step hb7, hK, hDn⟩
              · have hlvb : (ln != v) = true := by simpa using hlv
                have hDn := hsame fun _ l h hl => by
                  obtain ⟨l2, el, _, hl2⟩ := hlsn.out l h
                  rw [List.nil_append] at el
                  subst el
                  exact absurd (by rw [hln.out, ← hl2, hl]) hlv
                clear hJ1 hsame hlv y1K c5K y1 c5
                go_wp2_with fail
                go_roundg (m - (i + 1))
                case measure => have := hi.out; omega
                case rel => exact ⟨i + 1, ss1, ks1, ch1, by go_num, rfl, by have := hi.out; omega, hSH3, hK, hDn⟩
            · have h2' : decide (200 < v) = true := decide_eq_true (by omega)
              have hDn := hsame fun h => absurd h h2
              clear hsame hJ h2 hLn
              refine wp_region_kept (by kernel_rfl) (by kernel_rfl) ?_
              repeat (go_big_quiet_step (fail))
              refine wpQuiet_nil ?_
              rintro _ ⟨q, rfl⟩
              have hqk := q.kept
              generalize q.world = W5 at hqk
              have hSH3 := hSH.step hqk
              clear k0 k1 k2 k5 l0 y0 y1 c5 hSH
              go_wp2_with fail
              go_roundg (m - (i + 1))
              case measure => have := hi.out; omega
              case rel => exact ⟨i + 1, ss1, ks1, ch1, by go_num, rfl, by have := hi.out; omega, hSH3, hK, hDn⟩
          · have him : i = m := by have := hi.out; omega
            replace him := Lib.hid him
            go_wp2_with fail
            go_roundg (if ch1 = true then meaK ss1 ks1 + 1 else 0)
            case measure =>
              have h1 := hgk.out
              simp at h1
              rcases hD.out with ⟨a1, a2, a3, a4⟩ | ⟨a1, a2⟩
              · rw [a1, if_neg (by simp)]; omega
              · rw [a1, if_pos rfl]; omega
            case rel => exact ⟨ss1, ks1, ch1, rfl, Lib.hid rfl, hSH, hK, Lib.hid (fun e => by
              rcases hD.out with ⟨a1, a2, a3, a4⟩ | ⟨a1, a2⟩
              · rw [a2, a3]
                rwa [List.take_of_length_le (by have := hm.out; have := him.out; omega)] at a4
              · rw [a1] at e; cases e)⟩
end Go.Proofs.YtlngbphchhbpbaaGreat

/- ref19.Shortest: the walk. -/
namespace Go.Proofs.YtlngbphchhbpbaaGreat
open Go.ChangeShapes Go.WideShapes Go.ChangeAt Go.RowKit
set_option linter.unusedVariables false

set_option maxRecDepth 100000 in
set_option maxHeartbeats 4000000 in
theorem rshortestT_any (g : Gr) (a : GA) (FA : Option Addr) (k c : Nat) (f : List Int) (w : World) (hg : GrAt w w.heap.size g a) (hs : Small g) (hf : Rd1 w w.heap.size FA k (ints f)) (hk : k ≤ maxLen) : Calls Tryz.prog 9 #[gval g a, .slice FA k c] w (RetSh g f w) := by
  obtain ⟨ta, tc, na, nc, pa, pc⟩ := a
  have hG0 := GB.start hg
  have hfl : f.length = k := by have := hf.1; simpa [ints] using this
  have hC := Lib.hid (fun (W : World) (h : GrAt W W.heap.size g ⟨ta, tc, na, nc, pa, pc⟩) (h2 : Rd1 W W.heap.size FA k (ints f)) => rfcheck_any g ⟨ta, tc, na, nc, pa, pc⟩ FA k c f W h hs h2 hk)
  have hLe := Lib.hid (fun (W : World) (h : GrAt W W.heap.size g ⟨ta, tc, na, nc, pa, pc⟩) => rleastE_any g ⟨ta, tc, na, nc, pa, pc⟩ W h hs)
  by_cases h0 : fchk g f = 0
  · obtain ⟨hok, hk200⟩ := fchk_len h0
    have hE1 := Lib.hid (fun (L : List Int) (w' : World) (h2 : LenL g.prods g.names.length L) (h3 : -1 ∈ L) (h4 : Below w.heap.size w w') => (show RetSh g f w (.returned (.tuple #[.slice none 0 0, .int .i64 16])) w' from ⟨h4, .inr ⟨h0, L, h2, .inl ⟨h3, rfl⟩⟩⟩))
    have hE2 := Lib.hid (fun (L : List Int) (w' : World) (h2 : LenL g.prods g.names.length L) (h3 : -1 ∉ L) (h5 : 200 < lenS L f) (h4 : Below w.heap.size w w') => (show RetSh g f w (.returned (.tuple #[.slice none 0 0, .int .i64 4])) w' from ⟨h4, .inr ⟨h0, L, h2, .inr ⟨h3, .inl ⟨h5, rfl⟩⟩⟩⟩))
    have hE3 := Lib.hid (fun (L : List Int) (x : List Int) (v : Value) (w' : World) (h2 : LenL g.prods g.names.length L) (h3 : -1 ∉ L) (h5 : lenS L f ≤ 200) (h6 : RdI w' v x) (h7 : Best g.prods L f x) (h4 : Below w.heap.size w w') => (show RetSh g f w (.returned (.tuple #[v, .int .i64 0])) w' from ⟨h4, .inr ⟨h0, L, h2, .inr ⟨h3, .inr ⟨h5, x, v, rfl, h6, h7⟩⟩⟩⟩))
    have hLe2 := Lib.hid (fun (W : World) (h : GrAt W W.heap.size g ⟨ta, tc, na, nc, pa, pc⟩) => (show Calls Tryz.prog 7 #[gval g ⟨ta, tc, na, nc, pa, pc⟩] W fun e w' => ∃ L : List Int, LenL g.prods g.names.length L ∧ ((-1 ∈ L ∧ e = .returned (.tuple #[.slice none 0 0, .int .i64 16])) ∨
      (-1 ∉ L ∧ ∃ b : Nat, e = .returned (.tuple #[.slice (some ⟨b, 0, none⟩) g.names.length g.names.length, .int .i64 0]) ∧ Blk w' b 3 (ints L).toArray)) ∧ Below W.heap.size W w' from (hLe.out W h).mono fun e w' hr => by
        obtain ⟨hb, ⟨h1, _⟩ | ⟨_, L, h2, h3⟩⟩ := hr
        · exact absurd hok h1
        · exact ⟨L, h2, h3, hb⟩))
    have hps := Lib.hid (psok_of hok)
    have hkk := gok_of hok
    have hsyf : Hid (SyN g.names.length f) := Lib.hid (fun s hs => by
      have := fchk_sym h0 s hs
      have := hkk.tk
      unfold syB tmB ntB at *
      rw [Bool.or_eq_true, decide_eq_true_iff, decide_eq_true_iff] at *
      omega)
    have hlet : Hid (∀ p ∈ g.prods, ∀ s ∈ p.right, s < 16 → 0 ≤ s ∧ s < 8) := Lib.hid (fun p hp s hs h16 => by
      have := hkk.tk
      rcases (hkk.pr p hp).2.2 s hs with h' | h' <;> omega)
    obtain ⟨n, hn⟩ : ∃ n, n = g.names.length := ⟨_, rfl⟩
    obtain ⟨m, hm⟩ : ∃ m, m = g.prods.length := ⟨_, rfl⟩
    have hn8 : n ≤ 8 := by rw [hn]; exact hkk.nm.2
    have hn1 : 1 ≤ n := by rw [hn]; exact hkk.nm.1
    have hm24 : m ≤ 24 := by rw [hm]; exact hkk.pl
    rw [hfl] at hk200
    rw [h0] at hC
    clear hg hs h0 hLe hkk
    replace hok := Lib.hid hok
    unfold gval at *
    unfold gcells at *
    dsimp only at *
    generalize hRR : RetSh g f w = RR at *
    replace hRR := Lib.hid hRR
    rw [← hn] at hG0 hC hLe2 hE1 hE2 hE3 hps hsyf ⊢
    rw [← hm] at hG0 hC hLe2 ⊢
    replace hn := Lib.hid hn
    replace hm := Lib.hid hm
    replace hfl := Lib.hid hfl
    have hz0 : (0 : Int) ≤ k := by omega
    have hzn : (0 : Int) ≤ n := by omega
    have hfb : Rd1 (w.alloc (.cells #[.int .i64 g.k, .slice ta g.toks.length tc, .string g.sep, .slice na n nc, .int .i64 g.start, .slice pa m pc] 25)) w.heap.size FA k (ints f) := hf.below (bAlc (Below.refl _ _) _)
    go_enter Tryz.func9, Tryz.ntmps9
    obtain ⟨c0, c1, c2, c3, c4, c5⟩ := hG0.cells
    dsimp only at c1 c3 c5
    rw [← hn.out] at c3
    rw [← hm.out] at c5
    go_upto_region 4 with (go_at_call 23; refine (hC.out _ (hG0.2.1.mono hG0.2.2.size) (hfb.mono hG0.2.2.size)).mono ?_; rintro e w1 ⟨rfl, hb1⟩)
    have hG1 := hG0.step hb1
    clear c0 c1 c2 c3 c4 c5 hG0 hb1 hC hfb
    obtain ⟨c0, c1, c2, c3, c4, c5⟩ := hG1.cells
    dsimp only at c1 c3 c5
    rw [← hn.out] at c3
    rw [← hm.out] at c5
    have hRL := hLe2.out _ (hG1.2.1.mono hG1.2.2.size)
    obtain ⟨_, _, _, ⟨L, hL, _, _⟩, _⟩ := hRL []
    by_cases hno : -1 ∈ L
    · have hA := Lib.hid (hRL.mono (R' := fun e w' => e = .returned (.tuple #[.slice none 0 0, .int .i64 16]) ∧ Below w1.heap.size w1 w') (by
        rintro e w' ⟨L', hL', h, hb⟩
        have := lens_uniq hL' hL
        subst this
        rcases h with ⟨_, rfl⟩ | ⟨h, _⟩
        · exact ⟨rfl, hb⟩
        · exact absurd hno h))
      have hfin := Lib.hid (fun (w' : World) (hb : Below w.heap.size w w') => hE1.out L w' hL hno hb)
      clear hRL hno
      go_wp2_with (go_at_call 7; refine hA.out.mono ?_; rintro e w2 ⟨rfl, hb2⟩)
      first
        | exact hfin.out _ (hG1.step hb2).2.2
        | (go_ret2; exact hfin.out _ (hG1.step hb2).2.2)
    · have hA := Lib.hid (hRL.mono (R' := fun e w' => ∃ b : Nat, e = .returned (.tuple #[.slice (some ⟨b, 0, none⟩) n n, .int .i64 0]) ∧ Blk w' b 3 (ints L).toArray ∧ Below w1.heap.size w1 w') (by
        rintro e w' ⟨L', hL', h, hb⟩
        have := lens_uniq hL' hL
        subst this
        rcases h with ⟨h, _⟩ | ⟨_, b, rfl, hq⟩
        · exact absurd h hno
        · exact ⟨b, rfl, hq, hb⟩))
      have hy : AllY L := fun v hv => by
        rcases hL.bd v hv with h | h
        · subst h; exact absurd hv hno
        · exact h.1
      have hLb : ∀ v ∈ L, v ≤ 5764801 := fun v hv => by rcases hL.bd v hv with h | h <;> omega
      have hLl := hL.len
      replace hE2 := Lib.hid (fun (w' : World) (h5 : 200 < lenS L f) (hb : Below w.heap.size w w') => hE2.out L w' hL hno h5 hb)
      replace hE3 := Lib.hid (fun (x : List Int) (v : Value) (w' : World) (h5 : lenS L f ≤ 200) (h6 : RdI w' v x) (h7 : Best g.prods L f x) (hb : Below w.heap.size w w') => hE3.out L x v w' hL hno h5 h6 h7 hb)
      clear hRL hLe2 hE1
      replace hno := Lib.hid hno
      replace hL := Lib.hid hL
      replace hy := Lib.hid hy
      replace hLb := Lib.hid hLb
      replace hLl := Lib.hid hLl
      go_upto_region 7 with (go_at_call 7; refine hA.out.mono ?_; rintro e w2 ⟨lb, rfl, ql, hb2⟩)
      have hG2 := hG1.step hb2
      clear c0 c1 c2 c3 c4 c5 hG1 hb2 hA
      have hf2 := hf.below hG2.2.2
      have hLn := Lib.hid (rlength_any f L FA k c lb n w2 (hf2.mono hG2.2.2.size) ql hLl.out hy.out hLb.out hsyf.out hk200 hn8)
      by_cases h200 : 200 < lenS L f
      · have hfin := Lib.hid (hE2.out w2 h200 hG2.2.2)
        generalize lenS L f = t at *
        clear hE2 hE3
        go_wp2_with (go_at_call 24; refine hLn.out.mono ?_; rintro e w3 ⟨rfl, rfl⟩)
        first
          | exact hfin.out
          | (go_ret2; exact hfin.out)
      · have h200' : lenS L f ≤ 200 := by omega
        have hRs := Lib.hid (rshort_any g ⟨ta, tc, na, nc, pa, pc⟩ lb n L w2 (hG2.2.1.mono hG2.2.2.size) hok.out hn.out ql hL.out hno.out)
        unfold gval gcells at hRs
        try dsimp only at hRs
        rw [← hn.out, ← hm.out] at hRs
        have hjoin := Lib.hid (fun (W : World) (fb kb : Nat) (ss : List (List Int)) (ks : List Bool) (hb : Below w2.heap.size w2 W) (h1 : FS W fb n ss) (h2 : Blk W kb 4 (bools ks).toArray) (h3 : ks.length = n) (h4 : KnS g.prods L ss ks) => rjoin_any g.prods L f FA k c fb kb n ss ks W ((hf2.below (hb.mono hG2.2.2.size)).mono (Nat.le_trans hG2.2.2.size hb.size)) h1 h2 h3 hsyf.out hk200 hn8 h4 hy.out h200')
        have hbest := Lib.hid (fun (ss : List (List Int)) (ks : List Bool) (h4 : KnS g.prods L ss ks) (h6 : KnC g.prods L ss ks) => joined_best hL.out hy.out hps.out h4 h6 hsyf.out h200')
        replace hE3 := Lib.hid (fun (x : List Int) (v : Value) (w' : World) => hE3.out x v w' h200')
        generalize hln : lenS L f = t at hLn h200 h200'
        replace hln := Lib.hid hln
        clear hE2
        obtain ⟨c0, c1, c2, c3, c4, c5⟩ := hG2.cells
        dsimp only at c1 c3 c5
        rw [← hn.out] at c3
        rw [← hm.out] at c5
        go_upto_region 9 with (go_at_call 24; refine hLn.out.mono ?_; rintro e w3 ⟨rfl, rfl⟩)
        go_upto_region 10 with (go_at_call 25; refine hRs.out.mono ?_; rintro e W9 ⟨fb, kb, ss, ks, rfl, hF, hK, hkl, hS, _, hC9, hb9⟩)
        obtain ⟨x, hjx, hbe⟩ := hbest.out ss ks hS hC9
        have hJ := hjoin.out W9 fb kb ss ks hb9 hF hK hkl hS
        rw [hjx] at hJ
        replace hbe := Lib.hid hbe
        replace hjx := Lib.hid hjx
        replace hkl := Lib.hid hkl
        have hG9 := hG2.step hb9
        have hJ2 := Lib.hid (hJ.mono (R' := fun e w' => ∃ v, e = .returned (.tuple #[v, .bool true]) ∧ RdI w' v x ∧ Below W9.heap.size W9 w') (by
          rintro e w' ⟨hb9, ⟨h, _⟩ | ⟨l, v, h, rfl, hv⟩⟩
          · cases h
          · injection h with h
            subst h
            exact ⟨v, rfl, hv, hb9⟩))
        clear hJ hS hC9 hF hK c0 c1 c2 c3 c4 c5
        go_wp2_with (go_at_call 26; refine hJ2.out.mono ?_; rintro e W10 ⟨v, rfl, hv, hb10⟩)
        first
          | exact hE3.out x v W10 hv hbe.out (bStep hG9.2.2 hb10)
          | (go_ret2; exact hE3.out x v W10 hv hbe.out (bStep hG9.2.2 hb10))
  · have hR := Lib.hid (fun (w' : World) (h3 : Below w.heap.size w w') => (show RetSh g f w (.returned (.tuple #[.slice none 0 0, .int .i64 (fchk g f)])) w' from ⟨h3, .inl ⟨h0, rfl⟩⟩))
    have h1 : (fchk g f == 0) = false := by simpa using h0
    have h2 : (fchk g f != 0) = true := by simpa using h0
    have hfb : Rd1 (w.alloc (.cells (gcells g ⟨ta, tc, na, nc, pa, pc⟩) 25)) w.heap.size FA k (ints f) := hf.below (bAlc (Below.refl _ _) _)
    generalize RetSh g f w = RR at *
    clear hg hs h0 hLe hfl hf
    generalize fchk g f = E at *
    unfold gval at *
    unfold gcells at *
    dsimp only at *
    go_enter Tryz.func9, Tryz.ntmps9
    obtain ⟨c0, c1, c2, c3, c4, c5⟩ := hG0.cells
    dsimp only at c1 c3 c5
    go_wp2_with (go_at_call 23; refine (hC.out _ (hG0.2.1.mono hG0.2.2.size) (hfb.mono hG0.2.2.size)).mono ?_; rintro e w1 ⟨rfl, hb1⟩)
    first
      | exact hR.out _ (hG0.step hb1).2.2
      | (go_ret2; exact hR.out _ (hG0.step hb1).2.2)
end Go.Proofs.YtlngbphchhbpbaaGreat

/- The grammar and the look that come in as arguments: opened. -/
namespace Go.Proofs.YtlngbphchhbpbaaGreat
open Go.ChangeShapes Go.WideShapes Go.ChangeAt Go.RowKit
set_option linter.unusedVariables false

/-- numbers of 64 bits -/
def I64 (z : Int) : Prop := (Lit.int .i64 z).wf = true
structure GI64 (g : Gr) : Prop where
  k : I64 g.k
  start : I64 g.start
  left : ∀ p ∈ g.prods, I64 p.left
  right : ∀ p ∈ g.prods, ∀ s ∈ p.right, I64 s

theorem cell_lt {W : World} {p : Addr} {v : Value} (h : W.cell? p = some v) : p.block < W.heap.size := by
  unfold World.cell? at h
  cases hh : W.heap[p.block]? with
  | none => rw [hh] at h; simp at h
  | some o => exact (Array.getElem?_eq_some_iff.1 hh).1
theorem add_off (b o i : Nat) : (⟨b, o, none⟩ : Addr).add i = ⟨b, o + i, none⟩ := by
  unfold Addr.add; split <;> simp_all

section
variable {H : Type} {enc : TypeId × Value → H} {W : World}

theorem open_rd_strs {fuel : Nat} {cs : List Value} {x : DataW H × List MemPlace} (h : DataW.trod enc Tryz.prog W 0 (fun _ => true) true fuel 22 cs = some x) :
    ∃ a c l, cs = [.slice a l.length c] ∧ Rd1 W W.heap.size a l.length (strs l) ∧ l.length ≤ c ∧ c ≤ maxLen ∧ ∀ s ∈ l, s.size ≤ maxLen := by
  rcases Go.Deep.open_strs Tryz.underlying22 Tryz.underlying9 (by kernel_rfl) h with ⟨rfl, _⟩ | ⟨a, len, cap, m, Sx, rfl, _, hl, hm, hmm, _, hc⟩
  · exact ⟨none, 0, [], rfl, ⟨rfl, .inl rfl⟩, Nat.le_refl _, by decide, by simp⟩
  · simp at hmm
    subst hmm
    refine ⟨some a, m, (List.range len).map Sx, by simp, ?_, by simpa using hl, hm, ?_⟩
    · refine ⟨by simp [strs], ?_⟩
      by_cases h0 : len = 0
      · left; simpa using h0
      · right
        have h1 := (hc 0 (by omega)).1
        obtain ⟨b, o, sp⟩ := a
        have hsp : sp = none := by
          have := World.cell?_spot h1
          simpa [Addr.add] using this
        subst hsp
        refine ⟨b, o, rfl, cell_lt h1, fun i v hv => ?_⟩
        simp only [strs, List.map_map, List.getElem?_map] at hv
        by_cases hi : i < len
        · rw [List.getElem?_range hi] at hv
          simp at hv
          subst hv
          have := (hc i (by omega)).1
          rwa [add_off] at this
        · rw [List.getElem?_eq_none (by simpa using hi)] at hv
          simp at hv
    · intro s hs
      obtain ⟨i, hi, rfl⟩ := List.mem_map.1 hs
      exact (hc i (by have := List.mem_range.1 hi; omega)).2
theorem open_rd_ints {fuel : Nat} {cs : List Value} {x : DataW H × List MemPlace} (h : DataW.trod enc Tryz.prog W 0 (fun _ => true) true fuel 26 cs = some x) :
    ∃ a c l, cs = [.slice a l.length c] ∧ Rd1 W W.heap.size a l.length (ints l) ∧ l.length ≤ c ∧ c ≤ maxLen ∧ ∀ s ∈ l, I64 s := by
  rcases open_ints (by kernel_rfl) Tryz.underlying3 (by kernel_rfl) h with ⟨rfl, _⟩ | ⟨a, len, cap, zs, rfl, _, hl, hm, hz, _, hc, hw⟩
  · exact ⟨none, 0, [], rfl, ⟨rfl, .inl rfl⟩, Nat.le_refl _, by decide, by simp⟩
  · simp at hz
    subst hz
    have hlen : (zs.take len).length = len := by rw [List.length_take]; omega
    refine ⟨some a, zs.length, zs.take len, by rw [hlen], ?_, by rw [hlen]; exact hl, hm, fun s hs => hw s (List.mem_of_mem_take hs)⟩
    rw [hlen]
    refine ⟨by rw [ints, List.length_map, hlen], ?_⟩
    by_cases h0 : len = 0
    · exact .inl h0
    · right
      have h1 := hc 0 (by omega)
      obtain ⟨b, o, sp⟩ := a
      have hsp : sp = none := by
        have := World.cell?_spot h1
        simpa [Addr.add] using this
      subst hsp
      refine ⟨b, o, rfl, cell_lt h1, fun i v hv => ?_⟩
      simp only [ints, List.getElem?_map] at hv
      by_cases hi : i < len
      · rw [List.getElem?_take_of_lt hi, List.getElem?_eq_getElem (by omega)] at hv
        simp at hv
        subst hv
        have := hc i (by omega)
        rw [add_off, List.getD_eq_getElem?_getD, List.getElem?_eq_getElem (by omega)] at this
        simpa using this
      · rw [List.getElem?_eq_none (by rw [hlen]; omega)] at hv
        simp at hv
theorem fields47 : ∃ f0 f1 : Field, Tryz.prog.underlying 37 = some (.struct #[f0, f1]) ∧ f0.type = 3 ∧ f0.offset = 0 ∧ f1.type = 26 ∧ f1.offset = 1 := by
  have h : Tryz.prog.underlying 37 = some (.struct (Tryz.prog.fieldsOf 37)) := by kernel_rfl
  refine ⟨(Tryz.prog.fieldsOf 37)[0]!, (Tryz.prog.fieldsOf 37)[1]!, by kernel_rfl, by kernel_rfl, by kernel_rfl, by kernel_rfl, by kernel_rfl⟩
theorem open_rd_prods {fuel : Nat} {cs : List Value} {x : DataW H × List MemPlace} (h : DataW.trod enc Tryz.prog W 0 (fun _ => true) true fuel 23 cs = some x) :
    ∃ a c l, cs = [.slice a l.length c] ∧ RdP W W.heap.size a l.length l ∧ l.length ≤ c ∧ c ≤ maxLen ∧ ∀ p ∈ l, I64 p.left ∧ ∀ s ∈ p.right, I64 s := by
  obtain ⟨f0, f1, he, t0, o0, t1, o1⟩ := fields47
  rcases Go.Deep.open_slice_pairs Tryz.underlying23 he (by kernel_rfl) o0 o1 (by rw [t0]; kernel_rfl) (by rw [t1]; kernel_rfl) h with ⟨rfl, _⟩ | ⟨a, len, cap, m, n, V0, V1, D0, D1, P0, P1, rfl, _, hl, hm, hmm, _, hc⟩
  · exact ⟨none, 0, [], rfl, ⟨rfl, .inl rfl⟩, Nat.le_refl _, by decide, by simp⟩
  · simp at hmm
    subst hmm
    rw [t0, t1] at hc
    have each : ∀ i, i < m → ∃ q : Int × (Option Addr × Nat × List Int), V0 i = .int .i64 q.1 ∧ I64 q.1 ∧ V1 i = .slice q.2.1 q.2.2.2.length q.2.2.1 ∧ Rd1 W W.heap.size q.2.1 q.2.2.2.length (ints q.2.2.2) ∧ q.2.2.2.length ≤ q.2.2.1 ∧ q.2.2.1 ≤ maxLen ∧ ∀ s ∈ q.2.2.2, I64 s := by
      intro i hi
      obtain ⟨_, _, h0, h1⟩ := hc i hi
      obtain ⟨z, e1, _, e2⟩ := DataW.trod_int Tryz.underlying3 h0
      obtain ⟨a1, c1, l1, e3, e4, e5, e6, e7⟩ := open_rd_ints h1
      exact ⟨(z, a1, c1, l1), by simpa using e1, e2, by simpa using e3, e4, e5, e6, e7⟩
    obtain ⟨q, hq⟩ := Go.Deep.choose_lt each
    refine ⟨some a, m, (List.range len).map fun i => ⟨(q i).1, (q i).2.2.2⟩, by simp, ?_, by simpa using hl, hm, ?_⟩
    · refine ⟨by simp, ?_⟩
      by_cases h0 : len = 0
      · left; simpa using h0
      · right
        have h1 := (hc 0 (by omega)).1
        obtain ⟨b, o, sp⟩ := a
        have hsp : sp = none := by
          have := World.cell?_spot h1
          simpa [Addr.add] using this
        subst hsp
        refine ⟨b, o, rfl, cell_lt h1, fun i p hp => ?_⟩
        by_cases hi : i < len
        · rw [List.getElem?_map, List.getElem?_range hi] at hp
          simp at hp
          subst hp
          obtain ⟨g0, g1, _, _⟩ := hc i (by omega)
          obtain ⟨e1, _, e3, e4, e5, e6, _⟩ := hq i (by omega)
          rw [add_off] at g0 g1
          rw [e1] at g0; rw [e3] at g1
          exact ⟨g0, _, _, g1, e4, e5, e6⟩
        · rw [List.getElem?_eq_none (by simpa using hi)] at hp
          simp at hp
    · intro p hp
      obtain ⟨i, hi, rfl⟩ := List.mem_map.1 hp
      obtain ⟨_, e2, _, _, _, _, e7⟩ := hq i (by have := List.mem_range.1 hi; omega)
      exact ⟨e2, e7⟩

theorem six_of {α : Type} {l : List α} (h : l.length = 6) : ∃ a b c d e f, l = [a, b, c, d, e, f] := by
  match l, h with
  | [a, b, c, d, e, f], _ => exact ⟨a, b, c, d, e, f, rfl⟩
theorem fields25 : ∃ f0 f1 f2 f3 f4 f5 : Field, Tryz.prog.underlying 25 = some (.struct #[f0, f1, f2, f3, f4, f5]) ∧ f0.type = 3 ∧ f0.offset = 0 ∧ f1.type = 22 ∧ f1.offset = 1 ∧ f2.type = 9 ∧ f2.offset = 2 ∧ f3.type = 22 ∧ f3.offset = 3 ∧ f4.type = 3 ∧ f4.offset = 4 ∧ f5.type = 23 ∧ f5.offset = 5 :=
  ⟨(Tryz.prog.fieldsOf 25)[0]!, (Tryz.prog.fieldsOf 25)[1]!, (Tryz.prog.fieldsOf 25)[2]!, (Tryz.prog.fieldsOf 25)[3]!, (Tryz.prog.fieldsOf 25)[4]!, (Tryz.prog.fieldsOf 25)[5]!, by kernel_rfl, by kernel_rfl, by kernel_rfl, by kernel_rfl, by kernel_rfl, by kernel_rfl, by kernel_rfl, by kernel_rfl, by kernel_rfl, by kernel_rfl, by kernel_rfl, by kernel_rfl, by kernel_rfl⟩
theorem c3 : Tryz.prog.cellsOf 3 = 1 := by kernel_rfl
theorem c9 : Tryz.prog.cellsOf 9 = 1 := by kernel_rfl
theorem c22 : Tryz.prog.cellsOf 22 = 1 := by kernel_rfl
theorem c23 : Tryz.prog.cellsOf 23 = 1 := by kernel_rfl
theorem c25 : Tryz.prog.cellsOf 25 = 6 := by kernel_rfl
/-- a grammar that comes in -/
theorem open_gram {fuel : Nat} {cs : List Value} {x : DataW H × List MemPlace} (h : DataW.trod enc Tryz.prog W 0 (fun _ => true) true fuel 25 cs = some x) :
    ∃ g a, cs = (gcells g a).toList ∧ GrAt W W.heap.size g a ∧ GI64 g := by
  obtain ⟨f0, f1, f2, f3, f4, f5, he, t0, o0, t1, o1, t2, o2, t3, o3, t4, o4, t5, o5⟩ := fields25
  obtain ⟨xs, n, _, _, hlen, hxl, hf⟩ := DataW.trod_struct he h
  rw [c25] at hlen
  obtain ⟨v0, v1, v2, v3, v4, v5, rfl⟩ := six_of hlen
  have g0 := hf 0 f0 rfl
  have g1 := hf 1 f1 rfl
  have g2 := hf 2 f2 rfl
  have g3 := hf 3 f3 rfl
  have g4 := hf 4 f4 rfl
  have g5 := hf 5 f5 rfl
  simp only [t0, t1, t2, t3, t4, t5, o0, o1, o2, o3, o4, o5, c3, c9, c22, c23, List.drop_zero, List.drop_succ_cons, List.take_succ_cons, List.take_zero] at g0 g1 g2 g3 g4 g5
  have some_of : ∀ {i : Nat}, i < 6 → ∃ y, xs[i]? = some y := fun {i} hi => ⟨_, List.getElem?_eq_getElem (show i < xs.length by rw [hxl]; exact hi)⟩
  obtain ⟨y0, e0⟩ := some_of (i := 0) (by decide)
  obtain ⟨y1, e1⟩ := some_of (i := 1) (by decide)
  obtain ⟨y2, e2⟩ := some_of (i := 2) (by decide)
  obtain ⟨y3, e3⟩ := some_of (i := 3) (by decide)
  obtain ⟨y4, e4⟩ := some_of (i := 4) (by decide)
  obtain ⟨y5, e5⟩ := some_of (i := 5) (by decide)
  rw [e0] at g0; rw [e1] at g1; rw [e2] at g2; rw [e3] at g3; rw [e4] at g4; rw [e5] at g5
  obtain ⟨k, r0, _, w0⟩ := DataW.trod_int Tryz.underlying3 g0
  obtain ⟨ta, tc, tl, r1, p1, p2, p3, p4⟩ := open_rd_strs g1
  obtain ⟨sep, r2, _, w2⟩ := DataW.trod_string Tryz.underlying9 g2
  obtain ⟨na, nc, nl, r3, q1, q2, q3, q4⟩ := open_rd_strs g3
  obtain ⟨st, r4, _, w4⟩ := DataW.trod_int Tryz.underlying3 g4
  obtain ⟨pa, pc, pl, r5, s1, s2, s3, s4⟩ := open_rd_prods g5
  refine ⟨⟨k, tl, sep, nl, st, pl⟩, ⟨ta, tc, na, nc, pa, pc⟩, ?_, ⟨p1, p2, p3, q1, q2, q3, s1, s2, s3, w2, p4, q4⟩, ⟨w0, w4, fun p hp => (s4 p hp).1, fun p hp => (s4 p hp).2⟩⟩
  simp at r0 r1 r2 r3 r4 r5
  subst r0 r1 r2 r3 r4 r5
  rfl

theorem five_of {α : Type} {l : List α} (h : l.length = 5) : ∃ a b c d e, l = [a, b, c, d, e] := by
  match l, h with
  | [a, b, c, d, e], _ => exact ⟨a, b, c, d, e, rfl⟩
end
end Go.Proofs.YtlngbphchhbpbaaGreat
