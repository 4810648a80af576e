/- Walks and plain laws, part 8 of 8: derive.Shortest: the rounds; The chapter's examples, plainly; refuses, derives of the law; The statement DeriveKnown: the walk; The statement DeriveKnown: the walk, joined. Conditions: none beyond those that each theorem states. -/
import Derived.Test.YtlngbphchhbpbaaD7
/- derive.Shortest: the rounds. -/
namespace Go.Proofs.Ytlngbphchhbpbaa
open Go.ChangeShapes Go.WideShapes Go.ChangeAt Go.RowKit
set_option linter.unusedVariables false

theorem info4b : (Try.prog.info? 4).map (fun i => (i.zero, i.size, i.bytes)) = some (some (.bool false), 1, 1) := by kernel_rfl
theorem under82 : Try.prog.underlying 82 = some (.slice 4) := by kernel_rfl
theorem fil_nil (z : Value) (n : Nat) : madeCells #[z] n = (List.replicate n z).toArray := by rw [fil_start z z n]; unfold fil; simp
set_option maxRecDepth 100000 in
set_option maxHeartbeats 4000000 in
theorem shortestT_any (g : Gr) (a : GA) (FA : Option Addr) (k c : Nat) (f : List Int) (w : World) (hg : GrAt w w.heap.size g a) (hs : Small g) (hf : Rd1 w w.heap.size FA k (ints f)) (hk : k ≤ maxLen) : Calls Try.prog 29 #[gval g a, .slice FA k c] w (RetSh g f w) := by
  obtain ⟨ta, tc, na, nc, pa, pc⟩ := a
  have hG0 := GB.start hg
  have hfl : f.length = k := by have := hf.1; simpa [ints] using this
  have hC := Lib.hid (fun (W : World) (h : GrAt W W.heap.size g ⟨ta, tc, na, nc, pa, pc⟩) (h2 : Rd1 W W.heap.size FA k (ints f)) => fcheck_any g ⟨ta, tc, na, nc, pa, pc⟩ FA k c f W h hs h2 hk)
  have hLe := Lib.hid (fun (W : World) (h : GrAt W W.heap.size g ⟨ta, tc, na, nc, pa, pc⟩) => least_any g ⟨ta, tc, na, nc, pa, pc⟩ W h hs)
  by_cases h0 : fchk g f = 0
  · obtain ⟨hok, hk200⟩ := fchk_len h0
    have hE1 := Lib.hid (fun (L : List Int) (w' : World) (h2 : LenL g.prods g.names.length L) (h3 : -1 ∈ L) (h4 : Below w.heap.size w w') => (show RetSh g f w (.returned (.tuple #[.slice none 0 0, .int .i64 16])) w' from ⟨h4, .inr ⟨h0, L, h2, .inl ⟨h3, rfl⟩⟩⟩))
    have hE2 := Lib.hid (fun (L : List Int) (w' : World) (h2 : LenL g.prods g.names.length L) (h3 : -1 ∉ L) (h5 : 200 < lenS L f) (h4 : Below w.heap.size w w') => (show RetSh g f w (.returned (.tuple #[.slice none 0 0, .int .i64 4])) w' from ⟨h4, .inr ⟨h0, L, h2, .inr ⟨h3, .inl ⟨h5, rfl⟩⟩⟩⟩))
    have hE3 := Lib.hid (fun (L : List Int) (x : List Int) (v : Value) (w' : World) (h2 : LenL g.prods g.names.length L) (h3 : -1 ∉ L) (h5 : lenS L f ≤ 200) (h6 : RdI w' v x) (h7 : Best g.prods L f x) (h4 : Below w.heap.size w w') => (show RetSh g f w (.returned (.tuple #[v, .int .i64 0])) w' from ⟨h4, .inr ⟨h0, L, h2, .inr ⟨h3, .inr ⟨h5, x, v, rfl, h6, h7⟩⟩⟩⟩))
    have hLe2 := Lib.hid (fun (W : World) (h : GrAt W W.heap.size g ⟨ta, tc, na, nc, pa, pc⟩) => (show Calls Try.prog 28 #[gval g ⟨ta, tc, na, nc, pa, pc⟩] W fun e w' => ∃ L : List Int, LenL g.prods g.names.length L ∧ ((-1 ∈ L ∧ e = .returned (.tuple #[.slice none 0 0, .int .i64 16])) ∨
      (-1 ∉ L ∧ ∃ b : Nat, e = .returned (.tuple #[.slice (some ⟨b, 0, none⟩) g.names.length g.names.length, .int .i64 0]) ∧ Blk w' b 3 (ints L).toArray)) ∧ Below W.heap.size W w' from (hLe.out W h).mono fun e w' hr => by
        obtain ⟨hb, ⟨h1, _⟩ | ⟨_, L, h2, h3⟩⟩ := hr
        · exact absurd hok h1
        · exact ⟨L, h2, h3, hb⟩))
    have hps := Lib.hid (psok_of hok)
    have hkk := gok_of hok
    have hsyf : Hid (SyN g.names.length f) := Lib.hid (fun s hs => by
      have := fchk_sym h0 s hs
      have := hkk.tk
      unfold syB tmB ntB at *
      rw [Bool.or_eq_true, decide_eq_true_iff, decide_eq_true_iff] at *
      omega)
    have hlet : Hid (∀ p ∈ g.prods, ∀ s ∈ p.right, s < 16 → 0 ≤ s ∧ s < 8) := Lib.hid (fun p hp s hs h16 => by
      have := hkk.tk
      rcases (hkk.pr p hp).2.2 s hs with h' | h' <;> omega)
    obtain ⟨n, hn⟩ : ∃ n, n = g.names.length := ⟨_, rfl⟩
    obtain ⟨m, hm⟩ : ∃ m, m = g.prods.length := ⟨_, rfl⟩
    have hn8 : n ≤ 8 := by rw [hn]; exact hkk.nm.2
    have hn1 : 1 ≤ n := by rw [hn]; exact hkk.nm.1
    have hm24 : m ≤ 24 := by rw [hm]; exact hkk.pl
    rw [hfl] at hk200
    rw [h0] at hC
    clear hg hs h0 hok hLe hkk
    unfold gval at *
    unfold gcells at *
    dsimp only at *
    generalize hRR : RetSh g f w = RR at *
    replace hRR := Lib.hid hRR
    rw [← hn] at hG0 hC hLe2 hE1 hE2 hE3 hps hsyf ⊢
    rw [← hm] at hG0 hC hLe2 ⊢
    replace hn := Lib.hid hn
    replace hm := Lib.hid hm
    replace hfl := Lib.hid hfl
    have hz0 : (0 : Int) ≤ k := by omega
    have hzn : (0 : Int) ≤ n := by omega
    have hfb : Rd1 (w.alloc (.cells #[.int .i64 g.k, .slice ta g.toks.length tc, .string g.sep, .slice na n nc, .int .i64 g.start, .slice pa m pc] 25)) w.heap.size FA k (ints f) := hf.below (bAlc (Below.refl _ _) _)
    go_enter Try.func29, Try.ntmps29
    obtain ⟨c0, c1, c2, c3, c4, c5⟩ := hG0.cells
    dsimp only at c1 c3 c5
    rw [← hn.out] at c3
    rw [← hm.out] at c5
    go_upto_region 4 with (go_at_call 14; refine (hC.out _ (hG0.2.1.mono hG0.2.2.size) (hfb.mono hG0.2.2.size)).mono ?_; rintro e w1 ⟨rfl, hb1⟩)
    have hG1 := hG0.step hb1
    clear c0 c1 c2 c3 c4 c5 hG0 hb1 hC hfb
    obtain ⟨c0, c1, c2, c3, c4, c5⟩ := hG1.cells
    dsimp only at c1 c3 c5
    rw [← hn.out] at c3
    rw [← hm.out] at c5
    have hRL := hLe2.out _ (hG1.2.1.mono hG1.2.2.size)
    obtain ⟨_, _, _, ⟨L, hL, _, _⟩, _⟩ := hRL []
    by_cases hno : -1 ∈ L
    · have hA := Lib.hid (hRL.mono (R' := fun e w' => e = .returned (.tuple #[.slice none 0 0, .int .i64 16]) ∧ Below w1.heap.size w1 w') (by
        rintro e w' ⟨L', hL', h, hb⟩
        have := lens_uniq hL' hL
        subst this
        rcases h with ⟨_, rfl⟩ | ⟨h, _⟩
        · exact ⟨rfl, hb⟩
        · exact absurd hno h))
      have hfin := Lib.hid (fun (w' : World) (hb : Below w.heap.size w w') => hE1.out L w' hL hno hb)
      clear hRL hno
      go_wp2_with (go_at_call 28; refine hA.out.mono ?_; rintro e w2 ⟨rfl, hb2⟩)
      first
        | exact hfin.out _ (hG1.step hb2).2.2
        | (go_ret2; exact hfin.out _ (hG1.step hb2).2.2)
    · have hA := Lib.hid (hRL.mono (R' := fun e w' => ∃ b : Nat, e = .returned (.tuple #[.slice (some ⟨b, 0, none⟩) n n, .int .i64 0]) ∧ Blk w' b 3 (ints L).toArray ∧ Below w1.heap.size w1 w') (by
        rintro e w' ⟨L', hL', h, hb⟩
        have := lens_uniq hL' hL
        subst this
        rcases h with ⟨h, _⟩ | ⟨_, b, rfl, hq⟩
        · exact absurd h hno
        · exact ⟨b, rfl, hq, hb⟩))
      have hy : AllY L := fun v hv => by
        rcases hL.bd v hv with h | h
        · subst h; exact absurd hv hno
        · exact h.1
      have hLb : ∀ v ∈ L, v ≤ 5764801 := fun v hv => by rcases hL.bd v hv with h | h <;> omega
      have hLl := hL.len
      replace hE2 := Lib.hid (fun (w' : World) (h5 : 200 < lenS L f) (hb : Below w.heap.size w w') => hE2.out L w' hL hno h5 hb)
      replace hE3 := Lib.hid (fun (x : List Int) (v : Value) (w' : World) (h5 : lenS L f ≤ 200) (h6 : RdI w' v x) (h7 : Best g.prods L f x) (hb : Below w.heap.size w w') => hE3.out L x v w' hL hno h5 h6 h7 hb)
      replace hL := Lib.hid hL
      replace hy := Lib.hid hy
      replace hLb := Lib.hid hLb
      replace hLl := Lib.hid hLl
      clear hRL hno hLe2 hE1
      go_upto_region 7 with (go_at_call 28; refine hA.out.mono ?_; rintro e w2 ⟨lb, rfl, ql, hb2⟩)
      have hG2 := hG1.step hb2
      clear c0 c1 c2 c3 c4 c5 hG1 hb2 hA
      have hf2 := hf.below hG2.2.2
      go_wp2_with fail
      go_loopg [38, 9] k (fun gk s38 s9 wr => ∃ (i : Nat) (t : Int), s38 = .int .i64 i ∧ s9 = .int .i64 t ∧ i + gk = k ∧ Hid (t = lenS L (f.take i)) ∧ wr = w2)
      case atStart => exact ⟨0, 0, rfl, rfl, by omega, Lib.hid (by simp [lenS]), rfl⟩
      case round =>
        obtain ⟨i, t, rfl, rfl, hi, ht, rfl⟩ := hrel
        replace hi := Lib.hid hi
        have htb := lenS_up hLb.out (f.take i)
        have htp := lenS_pos hy.out (f.take i)
        have htl : (f.take i).length ≤ 200 := by rw [List.length_take]; have := hfl.out; omega
        have htb2 : t ≤ 1152960200 := by rw [ht.out]; omega
        have htb3 : 0 ≤ t := by rw [ht.out]; exact htp
        clear htb htp htl
        by_cases hin : i < k
        · have hil : i < f.length := by have := hfl.out; omega
          have hx : f[i]? = some f[i] := List.getElem?_eq_getElem hil
          obtain ⟨b1, off1, rfl, hbt1, x0⟩ := hf2.get (show (ints f)[i]? = some (.int .i64 f[i]) by rw [ints, List.getElem?_map, hx]; rfl)
          have htk := take_snocG hx
          have hsx := hsyf.out _ (List.getElem_mem hil)
          generalize f[i] = s at *
          have hz1 : (i : Int) < k := by omega
          have hz2 : (0 : Int) ≤ i := by omega
          replace hx := Lib.hid hx
          replace htk := Lib.hid htk
          by_cases h16 : s < 16
          · have hd : decide (16 ≤ s) = false := decide_eq_false (by omega)
            have ht2 : Hid (t + 1 = lenS L (f.take (i + 1))) := Lib.hid (by rw [htk.out, lenS_snoc, if_pos h16, ← ht.out])
            clear h16 hsx
            go_wp2_with (go_at_call 33; refine (isnt_any s _).mono ?_; rintro e w1 ⟨rfl, rfl⟩; rw [hd])
            go_roundg (k - (i + 1))
            case measure => have := hi.out; omega
            case rel => exact ⟨i + 1, t + 1, by go_num, rfl, by have := hi.out; omega, ht2, rfl⟩
          · have hd : decide (16 ≤ s) = true := decide_eq_true (by omega)
            obtain ⟨j, hj⟩ := Int.eq_ofNat_of_zero_le (show 0 ≤ s - 16 by omega)
            have hj2 : (s - 16).toNat = j := by omega
            have hjn : j < n := by omega
            have ht2 : Hid (t + L.getD j 0 = lenS L (f.take (i + 1))) := Lib.hid (by rw [htk.out, lenS_snoc, if_neg h16, ← ht.out, hj2])
            have hv : L[j]? = some (L.getD j 0) := by rw [List.getD_eq_getElem?_getD, List.getElem?_eq_getElem (by have := hLl.out; omega)]; rfl
            have y0 : wr.cell? ⟨lb, j, none⟩ = some (.int .i64 (L.getD j 0)) := by rw [ql.cell, List.getElem?_toArray, ints, List.getElem?_map, hv]; rfl
            have hvb := hLb.out _ (List.mem_of_getElem? hv)
            have hvb2 := hy.out.get j
            generalize L.getD j 0 = v at *
            have hzj : (0 : Int) ≤ j := by omega
            have hzjn : (j : Int) < n := by omega
            have hs2 : s ≤ 1000 := by omega
            replace hv := Lib.hid hv
            clear h16 hsx hj2
            go_wp2_with (go_at_call 33; refine (isnt_any s _).mono ?_; rintro e w1 ⟨rfl, rfl⟩; rw [hd])
            go_roundg (k - (i + 1))
            case measure => have := hi.out; omega
            case rel => exact ⟨i + 1, t + v, by go_num, rfl, by have := hi.out; omega, ht2, rfl⟩
        · have htE : t = lenS L f := by rw [ht.out, List.take_of_length_le (by have := hfl.out; omega)]
          have hin2 : ¬ (i : Int) < k := by omega
          by_cases h200 : 200 < lenS L f
          · have hfin := Lib.hid (hE2.out wr h200 hG2.2.2)
            have hz9 : 200 < t := by omega
            replace htE := Lib.hid htE
            clear h200
            go_wp2_with fail
            first
              | exact hfin.out
              | (go_ret2; exact hfin.out)
          · have hz9 : ¬ 200 < t := by omega
            have h200' : lenS L f ≤ 200 := by omega
            replace htE := Lib.hid htE
            replace h200' := Lib.hid h200'
            clear h200 hE2 ht hi
            obtain ⟨i26, hi26, hq0, hq1, hq2⟩ := info_parts info26
            obtain ⟨i4, hi4, hp0, hp1, hp2⟩ := info_parts info4b
            obtain ⟨c0, c1, c2, c3, c4, c5⟩ := hG2.cells
            dsimp only at c3
            rw [← hn.out] at c3
            clear c0 c1 c2 c4 c5
            go_upto_region 18 with (at_make; refine wpList_make_row _ rfl _ _ 41 rfl 26 i26 (.slice none 0 0) under41 hi26 hq0 hq1 rfl _ _ n rfl rfl (by rw [hq2]; omega) (by omega) ?_)
            rw [fil_nil]
            have hG3 := hG2.alloc (.cells (List.replicate n (Value.slice none 0 0)).toArray 26)
            have ql3 := ql.alloc (.cells (List.replicate n (Value.slice none 0 0)).toArray 26)
            have hF3 : FS (wr.alloc (.cells (List.replicate n (Value.slice none 0 0)).toArray 26)) wr.heap.size n (List.replicate n []) := ⟨_, Blk.new _ _ _, by simp, by simp, fun i l hl => by
              have hil := (List.getElem?_eq_some_iff.1 hl).1
              rw [List.length_replicate] at hil
              rw [List.getElem?_replicate, if_pos hil] at hl
              injection hl with hl
              subst hl
              exact ⟨_, by simp [hil], RdI.nil _⟩⟩
            have hfbl : wr.heap.size < (wr.alloc (.cells (List.replicate n (Value.slice none 0 0)).toArray 26)).heap.size := by simp
            have hwf : w.heap.size < wr.heap.size := hG2.lt
            clear c3 hG2 ql
            generalize wr.alloc (.cells (List.replicate n (Value.slice none 0 0)).toArray 26) = W3 at *
            generalize wr.heap.size = fb at *
            obtain ⟨c0, c1, c2, c3, c4, c5⟩ := hG3.cells
            dsimp only at c3
            rw [← hn.out] at c3
            clear c0 c1 c2 c4 c5
            go_upto_region 19 with (at_make; refine wpList_make_row _ rfl _ _ 82 rfl 4 i4 (.bool false) under82 hi4 hp0 hp1 rfl _ _ n rfl rfl (by rw [hp2]; omega) (by omega) ?_)
            rw [fil_nil]
            have hb01 : (List.replicate n (Value.bool false)).toArray = (bools (List.replicate n false)).toArray := by simp [bools]
            rw [hb01]
            have hSH : SH w g ⟨ta, tc, na, nc, pa, pc⟩ lb fb W3.heap.size n L (List.replicate n []) (List.replicate n false) (W3.alloc (.cells (bools (List.replicate n false)).toArray 4)) :=
              ⟨hG3.alloc _, ql3.alloc _, hF3.step (bAlc (Below.refl _ _) _), Blk.new _ _ _, by simp, by omega, by omega⟩
            clear hb01 hG3 ql3 hF3 c3 hf2 hfbl
            generalize W3.alloc (.cells (bools (List.replicate n false)).toArray 4) = W4 at *
            generalize W3.heap.size = kb at *
            go_wp2_with fail
            go_loopg [14] (meaK (List.replicate n []) (List.replicate n false) + 1) (fun gk s14 wr => ∃ (ss : List (List Int)) (ks : List Bool) (ch : Bool), s14 = .bool ch ∧ Hid (gk = if ch = true then meaK ss ks + 1 else 0) ∧ SH w g ⟨ta, tc, na, nc, pa, pc⟩ lb fb kb n L ss ks wr ∧ Hid (KnS g.prods L ss ks ∧ SmS ss) ∧ Hid (ch = false → KnC g.prods L ss ks))
            case atStart => exact ⟨_, _, true, rfl, Lib.hid (by simp), hSH, Lib.hid ⟨fun a ha hka => by
              rw [List.getD_eq_getElem?_getD, List.getElem?_replicate] at hka
              split at hka <;> simp at hka, fun l hl => by have := (List.mem_replicate.1 hl).2; subst this; exact ⟨by simp, fun c hc => by simp at hc⟩⟩, Lib.hid (fun h => by cases h)⟩
            case round =>
              clear hSH
              obtain ⟨ss, ks, ch, rfl, hgk, hSH, hK, hCl⟩ := hrel
              cases ch with
              | false =>
                obtain ⟨x, hjx, hbest⟩ := joined_best hL.out hy.out hps.out hK.out.1 (hCl.out rfl) hsyf.out h200'.out
                have hJ := Lib.hid (joined_any f FA k c fb kb n ss ks wr ((hf.below hSH.1.2.2).mono hSH.1.2.2.size) hSH.2.2.1 hSH.2.2.2.1 hSH.2.2.2.2.1 hsyf.out hk200 hn8 (fun l hl => by have := (hK.out.2 l hl).1; omega))
                rw [hjx] at hJ
                have hbw := Lib.hid hSH.1.2.2
                replace hbest := Lib.hid hbest
                replace hjx := Lib.hid hjx
                clear hCl hgk hK hSH
                have hJ2 := Lib.hid (hJ.out.mono (R' := fun e w' => ∃ v, e = .returned (.tuple #[v, .bool true]) ∧ RdI w' v x ∧ Below wr.heap.size wr w') (by
                  rintro e w' ⟨hb9, ⟨h, _⟩ | ⟨l, v, h, rfl, hv⟩⟩
                  · cases h
                  · injection h with h
                    subst h
                    exact ⟨v, rfl, hv, hb9⟩))
                clear hJ
                go_wp2_with (go_at_call 48; refine hJ2.out.mono ?_; rintro e w9 ⟨v, rfl, hv, hb9⟩)
                first
                  | exact hE3.out x v w9 h200'.out hv hbest.out (bStep hbw.out hb9)
                  | (go_ret2; exact hE3.out x v w9 h200'.out hv hbest.out (bStep hbw.out hb9))
              | true =>
                clear hCl
                obtain ⟨c0, c1, c2, c3, c4, c5⟩ := hSH.1.cells
                dsimp only at c5
                rw [← hm.out] at c5
                clear c0 c1 c2 c3 c4
                go_wp2_with fail
                clear c5
                have hSH' := hSH
                go_loopg [68, 14] m (fun gk2 s68 s14 wr => ∃ (i : Nat) (ss1 : List (List Int)) (ks1 : List Bool) (ch1 : Bool), s68 = .int .i64 i ∧ s14 = .bool ch1 ∧ i + gk2 = m ∧ SH w g ⟨ta, tc, na, nc, pa, pc⟩ lb fb kb n L ss1 ks1 wr ∧ Hid (KnS g.prods L ss1 ks1 ∧ SmS ss1) ∧
                  Hid ((ch1 = false ∧ ss1 = ss ∧ ks1 = ks ∧ KnC (g.prods.take i) L ss ks) ∨ (ch1 = true ∧ meaK ss1 ks1 < meaK ss ks)))
                case atStart => exact ⟨0, ss, ks, false, rfl, rfl, by omega, hSH', hK, Lib.hid (.inl ⟨rfl, rfl, rfl, fun p hp => by simp at hp⟩)⟩
                case round =>
                  clear hSH hSH' hK
                  obtain ⟨i, ss1, ks1, ch1, rfl, rfl, hi, hSH, hK, hD⟩ := hrel
                  replace hi := Lib.hid hi
                  by_cases hin : i < m
                  · have hil : i < g.prods.length := by have := hm.out; omega
                    have hxi : g.prods[i]? = some g.prods[i] := List.getElem?_eq_getElem hil
                    obtain ⟨b, off, rfl, hbt, y0, RA, rc, y1, hRd, hrl, hrm⟩ := hSH.1.2.1.prods.get hxi
                    have hpm := List.getElem_mem hil
                    have htk : g.prods.take (i + 1) = g.prods.take i ++ [g.prods[i]] := List.take_succ_eq_append_getElem hil
                    obtain ⟨hpl, hpr6, hsy⟩ := hps.out _ hpm
                    have hltp := hlet.out _ hpm
                    generalize g.prods[i] = p at *
                    obtain ⟨pl, pr⟩ := p
                    dsimp only at y0 y1 hRd hrl hpl hpr6 hsy hltp
                    obtain ⟨j, hj⟩ := Int.eq_ofNat_of_zero_le (show 0 ≤ pl - 16 by omega)
                    have hj2 : (pl - 16).toNat = j := by omega
                    have hj3 : pl = 16 + (j : Int) := by omega
                    have hjn : j < n := by omega
                    have hv : L[j]? = some (L.getD j 0) := by rw [List.getD_eq_getElem?_getD, List.getElem?_eq_getElem (by have := hLl.out; omega)]; rfl
                    have hvb := hLb.out _ (List.mem_of_getElem? hv)
                    have hvb2 := hy.out.get j
                    -- nothing made better: one production more
                    have hsame : (L.getD j 0 ≤ 200 → ∀ l, jnF ss1 ks1 [] pr = some l → (l.length : Int) = L.getD j 0 → ks1.getD j false = true ∧ lex l (ss1.getD j []) ≠ -1) → Hid ((ch1 = false ∧ ss1 = ss ∧ ks1 = ks ∧ KnC (g.prods.take (i + 1)) L ss ks) ∨ (ch1 = true ∧ meaK ss1 ks1 < meaK ss ks)) := fun h => Lib.hid (by
                      rcases hD.out with ⟨a1, a2, a3, a4⟩ | a
                      · refine .inl ⟨a1, a2, a3, fun q hq => ?_⟩
                        rw [htk] at hq
                        rcases List.mem_append.1 hq with hq | hq
                        · exact a4 q hq
                        · have : q = ⟨pl, pr⟩ := by simpa using hq
                          subst this
                          show L.getD (pl - 16).toNat 0 ≤ 200 → ∀ l, jnF ss ks [] pr = some l → (l.length : Int) = L.getD (pl - 16).toNat 0 → ks.getD (pl - 16).toNat false = true ∧ lex l (ss.getD (pl - 16).toNat []) ≠ -1
                          rw [hj2, ← a2, ← a3]
                          exact h
                      · exact .inr a)
                    have hzi : (0 : Int) ≤ i := by omega
                    have hzim : (i : Int) < m := by omega
                    have hmul : (i : Int) * 2 ≤ 100 := by omega
                    have hzj : (0 : Int) ≤ j := by omega
                    have hzjn : (j : Int) < n := by omega
                    have hpl2 : pl ≤ 1000 := by omega
                    replace hxi := Lib.hid hxi
                    replace htk := Lib.hid htk
                    replace hpm := Lib.hid hpm
                    replace hltp := Lib.hid hltp
                    replace hj3 := Lib.hid hj3
                    clear hj2 hpl
                    go_upto_region 25 with (fail)
                    have hSH3 := hSH.step (bAlc (Below.refl _ _) (.cells #[.int .i64 pl, .slice RA pr.length rc] 49))
                    have qp : Blk (wr.alloc (.cells #[.int .i64 pl, .slice RA pr.length rc] 49)) wr.heap.size 49 #[.int .i64 pl, .slice RA pr.length rc] := Blk.new _ _ _
                    have hRd3 : Rd1 (wr.alloc (.cells #[.int .i64 pl, .slice RA pr.length rc] 49)) w.heap.size RA pr.length (ints pr) := hRd.below ((bAlc (Below.refl _ _) (.cells #[.int .i64 pl, .slice RA pr.length rc] 49)).mono hSH.1.2.2.size)
                    clear hSH hRd y0 y1
                    generalize wr.alloc (.cells #[.int .i64 pl, .slice RA pr.length rc] 49) = W5 at *
                    generalize wr.heap.size = Bp at *
                    have l0 : W5.cell? ⟨lb, j, none⟩ = some (.int .i64 (L.getD j 0)) := by rw [hSH3.2.1.cell, List.getElem?_toArray, ints, List.getElem?_map, hv]; rfl
                    have p0 := qp.cell 0
                    have p1 := qp.cell 1
                    simp only [List.getElem?_toArray, List.getElem?_cons_zero, List.getElem?_cons_succ] at p0 p1
                    have hJ := Lib.hid (joined_any pr RA pr.length rc fb kb n ss1 ks1 W5 (hRd3.mono hSH3.1.2.2.size) hSH3.2.2.1 hSH3.2.2.2.1 hSH3.2.2.2.2.1 hsy (by omega) hn8 (fun l hl => by have := (hK.out.2 l hl).1; omega))
                    replace hsy := Lib.hid hsy
                    obtain ⟨v, hvv⟩ : ∃ v, v = L.getD j 0 := ⟨_, rfl⟩
                    rw [← hvv] at l0 hvb hvb2 hsame
                    replace hv := Lib.hid hv
                    replace hvv := Lib.hid hvv
                    by_cases h2 : v ≤ 200
                    · have h2' : ¬ 200 < v := by omega
                      cases hjo : jnF ss1 ks1 [] pr with
                      | none =>
                        rw [hjo] at hJ
                        have hJ2 := Lib.hid (hJ.out.mono (R' := fun e w' => e = .returned (.tuple #[.slice none 0 0, .bool false]) ∧ Below W5.heap.size W5 w') (by
                          rintro e w' ⟨hb9, ⟨h, rfl⟩ | ⟨l, v, h, _⟩⟩
                          · exact ⟨rfl, hb9⟩
                          · cases h))
                        have hDn := hsame fun _ l h => by rw [hjo] at h; cases h
                        replace hjo := Lib.hid hjo
                        clear hJ hsame h2
                        go_wp2_with (go_at_call 48; refine hJ2.out.mono ?_; rintro e w6 ⟨rfl, hb6⟩)
                        go_roundg (m - (i + 1))
                        case measure => have := hi.out; omega
                        case rel => exact ⟨i + 1, ss1, ks1, ch1, by go_num, rfl, by have := hi.out; omega, hSH3.step hb6, hK, hDn⟩
                      | some l =>
                        rw [hjo] at hJ
                        have hJ2 := Lib.hid (hJ.out.mono (R' := fun e w' => ∃ v, e = .returned (.tuple #[v, .bool true]) ∧ RdI w' v l ∧ Below W5.heap.size W5 w') (by
                          rintro e w' ⟨hb9, ⟨h, _⟩ | ⟨l2, v, h, rfl, hv⟩⟩
                          · cases h
                          · injection h with h
                            subst h
                            exact ⟨v, rfl, hv, hb9⟩))
                        obtain ⟨l2, el, hder, hll⟩ := jnF_snd hK.out.1 hjo
                        rw [List.nil_append] at el
                        subst el
                        have hfl26 : ss1.length = n := by obtain ⟨_, _, _, h3, _⟩ := hSH3.2.2.1; exact h3
                        have hkl26 : ks1.length = n := hSH3.2.2.2.2.1
                        have hfk : fb ≠ kb := by obtain ⟨cs, f1, _⟩ := hSH3.2.2.1; exact blk_ne f1 hSH3.2.2.2.1 (by decide)
                        have hl8 : Let8 l := der_letters (P := fun c => 0 ≤ c ∧ c < 8) hlet.out hder hltp.out
                        have hupd : (l.length : Int) = v → (ks1.getD j false = true → lex l (ss1.getD j []) = -1) → Hid (KnS g.prods L (ss1.set j l) (ks1.set j true) ∧ SmS (ss1.set j l)) ∧
                            Hid ((true = false ∧ ss1.set j l = ss ∧ ks1.set j true = ks ∧ KnC (g.prods.take (i + 1)) L ss ks) ∨ (true = true ∧ meaK (ss1.set j l) (ks1.set j true) < meaK ss ks)) := fun hlv hx => by
                          have h200 : l.length ≤ 200 := by omega
                          refine ⟨Lib.hid ⟨hK.out.1.set hfl26 hkl26 hjn ⟨⟨pl, pr⟩, hpm.out, hj3.out, hder⟩ (by rw [← hvv.out]; exact hlv), hK.out.2.set h200 hl8⟩, Lib.hid (.inr ⟨rfl, ?_⟩)⟩
                          have hlt := meaK_set ss1 ks1 j l (by omega) (by omega) (fun _ => by
                            have h1 := rnk_lt hl8
                            have h2 : 8 ^ l.length ≤ 8 ^ 201 := Nat.pow_le_pow_right (by omega) (by omega)
                            omega) (fun hk => rnk_lex hl8 (hK.out.2.get j).2 (by
                              have := (hK.out.1 (16 + (j : Int)) (by omega) (by rw [show (16 + (j : Int) - 16).toNat = j by omega]; exact hk)).2
                              rw [show (16 + (j : Int) - 16).toNat = j by omega, ← hvv.out] at this
                              omega) (hx hk))
                          rcases hD.out with ⟨_, a2, a3, _⟩ | ⟨_, a2⟩
                          · rw [a2, a3] at hlt ⊢; exact hlt
                          · omega
                        replace hjo := Lib.hid hjo
                        replace hder := Lib.hid hder
                        replace hl8 := Lib.hid hl8
                        replace hll := Lib.hid hll
                        clear hJ h2
                        go_upto_region 28 with (go_at_call 48; refine hJ2.out.mono ?_; rintro e W6 ⟨v6, rfl, hv6, hb6⟩)
                        have hSH6 := hSH3.step hb6
                        have hv6' := hv6
                        obtain ⟨LA, lc, rfl, lr, lc1, lc2⟩ := hv6'
                        have l0 := cell_later hb6 l0
                        have hkv : Hid (ks1[j]? = some (ks1.getD j false)) := Lib.hid (by rw [List.getD_eq_getElem?_getD, List.getElem?_eq_getElem (by omega)]; rfl)
                        have y0 : W6.cell? ⟨kb, j, none⟩ = some (.bool (ks1.getD j false)) := by rw [hSH6.2.2.2.1.cell, List.getElem?_toArray, bools, List.getElem?_map, hkv.out]; rfl
                        clear p0 p1 hJ2
                        by_cases hlv : (l.length : Int) = v
                        · have hlb : ((l.length : Int) == v) = true := by simpa using hlv
                          have hl200 : l.length ≤ 200 := by omega
                          cases hkj : ks1.getD j false with
                          | false =>
                            rw [hkj] at y0
                            have q4 := hSH6.2.2.2.1.far (p := ⟨fb, j, none⟩) (by simp; exact Ne.symm hfk) (.slice LA l.length lc)
                            have z0 : (W6.setCell ⟨fb, j, none⟩ (.slice LA l.length lc)).cell? ⟨kb, j, none⟩ = some (.bool (ks1.getD j false)) := by rw [q4.cell, List.getElem?_toArray, bools, List.getElem?_map, hkv.out]; rfl
                            have z1 := q4.frozen j
                            obtain ⟨⟨u0, x2⟩, x3⟩ := hSH6.2.2.1.blk hjn
                            obtain ⟨hK2, hD2⟩ := hupd (hlv) (fun h => by rw [hkj] at h; cases h)
                            rw [hkj] at z0
                            have hSH7 := hSH6.set hjn hv6
                            replace hkj := Lib.hid hkj
                            clear hSH6 hSH3 hupd hsame q4
                            go_wp2_with (fail)
                            go_roundg (m - (i + 1))
                            case measure => have := hi.out; omega
                            case rel => exact ⟨i + 1, ss1.set j l, ks1.set j true, true, by go_num, rfl, by have := hi.out; omega, hSH7, hK2, Lib.hid (by have := hD2.out; simpa using this)⟩
                          | true =>
                            rw [hkj] at y0
                            obtain ⟨SA, sc, s0, hSr, hsc1, hsc2⟩ := hSH6.2.2.1.get hjn
                            have hsl := (hK.out.2.get j).1
                            obtain ⟨sl, hsle⟩ : ∃ sl, sl = ss1.getD j [] := ⟨_, rfl⟩
                            rw [← hsle] at s0 hSr hsc1 hsl hupd
                            have hcm := Lib.hid (slicescmp_any LA SA l.length sl.length lc sc l sl W6 W6.heap.size lr hSr (by omega) (by omega))
                            rw [cmpI_lex] at hcm
                            by_cases hlx : lex l sl = -1
                            · rw [hlx] at hcm
                              replace hlx := Lib.hid hlx
                              replace hsle := Lib.hid hsle
                              have q4 := hSH6.2.2.2.1.far (p := ⟨fb, j, none⟩) (by simp; exact Ne.symm hfk) (.slice LA l.length lc)
                              have z0 : (W6.setCell ⟨fb, j, none⟩ (.slice LA l.length lc)).cell? ⟨kb, j, none⟩ = some (.bool (ks1.getD j false)) := by rw [q4.cell, List.getElem?_toArray, bools, List.getElem?_map, hkv.out]; rfl
                              have z1 := q4.frozen j
                              obtain ⟨⟨u0, x2⟩, x3⟩ := hSH6.2.2.1.blk hjn
                              obtain ⟨hK2, hD2⟩ := hupd (hlv) (fun _ => hlx.out)
                              rw [hkj] at z0
                              have hSH7 := hSH6.set hjn hv6
                              replace hkj := Lib.hid hkj
                              clear hSH6 hSH3 hupd hsame q4
                              go_wp2_with (go_at_call 49; refine hcm.out.mono ?_; rintro e w7 ⟨rfl, rfl⟩)
                              go_roundg (m - (i + 1))
                              case measure => have := hi.out; omega
                              case rel => exact ⟨i + 1, ss1.set j l, ks1.set j true, true, by go_num, rfl, by have := hi.out; omega, hSH7, hK2, Lib.hid (by have := hD2.out; simpa using this)⟩
                            · have hDn := hsame fun _ l' h hl' => by
                                rw [hjo.out] at h
                                injection h with h
                                subst h
                                rw [← hsle]
                                exact ⟨hkj, hlx⟩
                              have hge : ¬ lex l sl < 0 := by rcases lex_vals l sl with h | h | h <;> omega
                              generalize lex l sl = lx at *
                              replace hkj := Lib.hid hkj
                              replace hsle := Lib.hid hsle
                              clear hlx hupd hsame
                              go_wp2_with (go_at_call 49; refine hcm.out.mono ?_; rintro e w7 ⟨rfl, rfl⟩)
                              go_roundg (m - (i + 1))
                              case measure => have := hi.out; omega
                              case rel => exact ⟨i + 1, ss1, ks1, ch1, by go_num, rfl, by have := hi.out; omega, hSH6, hK, hDn⟩
                        · have hlb : ((l.length : Int) == v) = false := by simpa using hlv
                          have hDn := hsame fun _ l' h hl' => by
                            rw [hjo.out] at h
                            injection h with h
                            subst h
                            exact absurd hl' hlv
                          clear hupd hsame hlv
                          go_wp2_with fail
                          go_roundg (m - (i + 1))
                          case measure => have := hi.out; omega
                          case rel => exact ⟨i + 1, ss1, ks1, ch1, by go_num, rfl, by have := hi.out; omega, hSH6, hK, hDn⟩
                    · have h2' : 200 < v := by omega
                      have hDn := hsame fun h => absurd h h2
                      clear hsame hJ h2
                      go_wp2_with fail
                      go_roundg (m - (i + 1))
                      case measure => have := hi.out; omega
                      case rel => exact ⟨i + 1, ss1, ks1, ch1, by go_num, rfl, by have := hi.out; omega, hSH3, hK, hDn⟩
                  · have him : i = m := by have := hi.out; omega
                    replace him := Lib.hid him
                    go_wp2_with fail
                    go_roundg (if ch1 = true then meaK ss1 ks1 + 1 else 0)
                    case measure =>
                      have h1 := hgk.out
                      simp at h1
                      rcases hD.out with ⟨a1, a2, a3, a4⟩ | ⟨a1, a2⟩
                      · rw [a1, if_neg (by simp)]; omega
                      · rw [a1, if_pos rfl]; omega
                    case rel => exact ⟨ss1, ks1, ch1, rfl, Lib.hid rfl, hSH, hK, Lib.hid (fun e => by
                      rcases hD.out with ⟨a1, a2, a3, a4⟩ | ⟨a1, a2⟩
                      · rw [a2, a3]
                        rwa [List.take_of_length_le (by have := hm.out; have := him.out; omega)] at a4
                      · rw [a1] at e; cases e)⟩
  · have hR := Lib.hid (fun (w' : World) (h3 : Below w.heap.size w w') => (show RetSh g f w (.returned (.tuple #[.slice none 0 0, .int .i64 (fchk g f)])) w' from ⟨h3, .inl ⟨h0, rfl⟩⟩))
    have h1 : (fchk g f == 0) = false := by simpa using h0
    have h2 : (fchk g f != 0) = true := by simpa using h0
    have hfb : Rd1 (w.alloc (.cells (gcells g ⟨ta, tc, na, nc, pa, pc⟩) 25)) w.heap.size FA k (ints f) := hf.below (bAlc (Below.refl _ _) _)
    generalize RetSh g f w = RR at *
    clear hg hs h0 hLe hfl hf
    generalize fchk g f = E at *
    unfold gval at *
    unfold gcells at *
    dsimp only at *
    go_enter Try.func29, Try.ntmps29
    obtain ⟨c0, c1, c2, c3, c4, c5⟩ := hG0.cells
    dsimp only at c1 c3 c5
    go_wp2_with (go_at_call 14; refine (hC.out _ (hG0.2.1.mono hG0.2.2.size) (hfb.mono hG0.2.2.size)).mono ?_; rintro e w1 ⟨rfl, hb1⟩)
    first
      | exact hR.out _ (hG0.step hb1).2.2
      | (go_ret2; exact hR.out _ (hG0.step hb1).2.2)
end Go.Proofs.Ytlngbphchhbpbaa

/- The chapter's examples, plainly; refuses, derives of the law. -/
namespace Go.Proofs.Ytlngbphchhbpbaa
open Go.ChangeShapes Go.WideShapes Go.ChangeAt Go.RowKit
set_option linter.unusedVariables false

/-- the sets of the example -/
def exS : Int → List (List Int) := setsF (itS exPs 4 2 6)
theorem exS_cls : ClsS exPs 4 exS := cls_of _ _ _ (by decide +kernel)
theorem exS_snd : SndS exPs 4 exS := itS_snd exPs 4 2 6
theorem ex_der {f x : List Int} (h : x.length ≤ 4) : Der exPs f x ↔ x ∈ cats exS 4 f := by
  rw [mem_cats]
  constructor
  · intro hd; exact ⟨der_cat exS_cls hd h, h⟩
  · rintro ⟨hc, _⟩; exact cat_der exS_snd hc
theorem ex_yld {a : Int} {x : List Int} (h : x.length ≤ 4) : Yld exPs a x ↔ x ∈ exS a := by
  rw [sets_yld exS_snd exS_cls]
  exact ⟨fun hy => ⟨hy, h⟩, fun hy => hy.1⟩
theorem ex_d1 : ¬ Der exPs [16] [0, 1] := by rw [ex_der (by decide)]; decide +kernel
theorem ex_d2 : Der exPs [16] [0, 1, 1] := by rw [ex_der (by decide)]; decide +kernel
theorem ex_d3 : Der exPs [17] [1, 1, 1, 1] := by rw [ex_der (by decide)]; decide +kernel
theorem ex_left {a : Int} {x : List Int} (h : Yld exPs a x) : (a = 16 ∨ a = 17) ∧ 1 ≤ x.length := by
  have h2 : a = 16 ∨ a = 17 := by
    obtain ⟨p, hp, rfl, _⟩ := h
    simp [exPs] at hp
    rcases hp with rfl | rfl | rfl | rfl <;> simp
  refine ⟨h2, ?_⟩
  rcases Nat.eq_zero_or_pos x.length with h0 | h0
  · have := List.eq_nil_of_length_eq_zero h0
    subst this
    rw [ex_yld (by simp)] at h
    rcases h2 with rfl | rfl
    · exact absurd h (by decide +kernel)
    · exact absurd h (by decide +kernel)
  · exact h0
theorem ex_lens : LenL exPs 2 [1, 1] := by
  refine ⟨rfl, fun v hv => by simp at hv; subst hv; omega, fun a h1 h2 h3 => ?_, fun a x hy => ?_⟩
  · refine ⟨[1], ?_, ?_⟩
    · rw [ex_yld (by simp)]
      rcases (by omega : a = 16 ∨ a = 17) with rfl | rfl
      · decide +kernel
      · decide +kernel
    · rcases (by omega : a = 16 ∨ a = 17) with rfl | rfl <;> rfl
  · obtain ⟨h1, h2⟩ := ex_left hy
    rcases h1 with rfl | rfl
    · exact ⟨by decide, by show (1 : Int) ≤ _; omega⟩
    · exact ⟨by decide, by show (1 : Int) ≤ _; omega⟩
theorem ex_best1 {x : List Int} (h : Best exPs [1, 1] [16, 17] x) : x = [1, 1] := by
  have hl : x.length = 2 := by have := h.2.1; rw [show lenS [1, 1] [16, 17] = 2 from rfl] at this; omega
  have hm := (ex_der (by omega)).1 h.1
  have hall : ((cats exS 4 [16, 17]).all fun y => decide (y.length ≠ 2) || decide (y = [1, 1])) = true := by decide +kernel
  have := List.all_eq_true.1 hall x hm
  simpa [hl] using this
theorem ex_best2 {x : List Int} (h : Best exPs [1, 1] [0, 16] x) : x = [0, 1] := by
  have hl : x.length = 2 := by have := h.2.1; rw [show lenS [1, 1] [0, 16] = 2 from rfl] at this; omega
  have hm := (ex_der (by omega)).1 h.1
  have hall : ((cats exS 4 [0, 16]).all fun y => decide (y.length ≠ 2) || decide (y = [0, 1])) = true := by decide +kernel
  have := List.all_eq_true.1 hall x hm
  simpa [hl] using this
theorem ex_sent0 {L : List (List Int)} (h : SSet exD 0 L) : L = [] := by
  cases L with
  | nil => rfl
  | cons x L =>
    obtain ⟨h1, h2⟩ := (h.2 x).1 List.mem_cons_self
    have := (ex_left (show Yld exPs 16 x from h1)).2
    omega
/-- equal lists, one of them a literal -/
theorem same_lit {W : World} {v : Value} {l : List Int} {b n : Nat} (h : RdI W v l) (q : Blk W b 3 (ints l).toArray) (hn : n = l.length) (hm : n ≤ 1000) : Calls Try.prog 16 #[v, .slice (some ⟨b, 0, none⟩) n n] W fun e w' => e = .returned (.bool true) ∧ Below W.heap.size W w' :=
  same_rdi h ⟨some ⟨b, 0, none⟩, n, by rw [hn], rd_ints q rfl |> fun r => (by simpa using r), by omega, by unfold maxLen; omega⟩
set_option maxHeartbeats 1000000 in
theorem refuses_any (b k : Nat) (f : List Int) (p want : Int) (w : World) (q : Blk w b 3 (ints f).toArray) (hk : k = f.length) (hk2 : k ≤ 1000) (he : stpE exD f p = want) (hne : want ≠ 0) :
    Calls Try.prog 27 #[.slice (some ⟨b, 0, none⟩) k k, .int .i64 p, .int .i64 want] w fun e w' => e = .returned (.bool true) ∧ Below w.heap.size w w' := by
  have hE := Lib.hid (example_any w)
  have hL : stpL exD f p = [] := by unfold stpL; rw [if_neg (by rw [he]; exact hne)]
  have hS := Lib.hid (fun (a : GA) (W : World) (h : GrAt W W.heap.size exD a) (h2 : Blk W b 3 (ints f).toArray) => (show Calls Try.prog 12 #[gval exD a, .slice (some ⟨b, 0, none⟩) k k, .int .i64 p] W fun e w' => ∃ c A, e = .returned (.tuple #[.slice A 0 c, .int .i64 want]) ∧ Below W.heap.size W w' from
    (stp_any exD a (some ⟨b, 0, none⟩) k k f p W h exD_small (rd_ints h2 hk.symm) (Nat.le_refl _) (by unfold maxLen; omega)).mono fun e w' ⟨v, h1, ⟨A, c, h2, _⟩, h3⟩ => ⟨c, A, by rw [h1, h2, he, hL]; rfl, h3⟩))
  replace he := Lib.hid he
  replace hk := Lib.hid hk
  replace hL := Lib.hid hL
  go_enter Try.func27, Try.ntmps27
  go_wp2_with (first
    | (go_at_call 26; refine hE.out.mono ?_; rintro e w1 ⟨a, rfl, hg, hb⟩)
    | (go_at_call 12; refine (hS.out a _ hg (q.step hb)).mono ?_; rintro e w2 ⟨c, A, rfl, hb2⟩))
  go_ret
  exact ⟨rfl, bStep hb hb2⟩
set_option maxHeartbeats 1000000 in
theorem derives3_any (FA SA : Option Addr) (k n : Nat) (f str : List Int) (w : World) (hf : Rd1 w w.heap.size FA k (ints f)) (hs : Rd1 w w.heap.size SA n (ints str)) (hk : k ≤ 200) (hn : n ≤ 12) (hfs : ∀ s ∈ f, syB exD s = true) (hss : ∀ x ∈ str, 0 ≤ x ∧ x < 2) (hd : Der exPs f str) :
    Calls Try.prog 30 #[.slice FA k k, .slice SA n n] w fun e w' => e = .returned (.bool true) ∧ Below w.heap.size w w' := by
  have hE := Lib.hid (example_any w)
  have hS := Lib.hid (fun (a : GA) (W : World) (h : GrAt W W.heap.size exD a) (hb : Below w.heap.size w W) => (show Calls Try.prog 22 #[gval exD a, .slice FA k k, .slice SA n n] W fun e w' => e = .returned (.tuple #[.bool true, .int .i64 0]) ∧ Below W.heap.size W w' from
    (derives_any exD a FA SA k k n n f str W h exD_ok ((hf.below hb).mono hb.size) ((hs.below hb).mono hb.size) hk hn hfs (by simpa [exD] using hss)).mono fun e w' ⟨bb, h1, h2, h3⟩ => ⟨by
      have : bb = true := h2.2 hd
      rw [h1, this], h3⟩))
  go_enter Try.func30, Try.ntmps30
  go_wp2_with (first
    | (go_at_call 26; refine hE.out.mono ?_; rintro e w1 ⟨a, rfl, hg, hb⟩)
    | (go_at_call 22; refine (hS.out a _ hg hb).mono ?_; rintro e w2 ⟨rfl, hb2⟩))
  go_ret
  exact ⟨rfl, bStep hb hb2⟩
set_option maxRecDepth 100000 in
set_option maxHeartbeats 1000000 in
/-- Sentences with too great a number -/
theorem sent13_any (g : Gr) (a : GA) (w : World) (hg : GrAt w w.heap.size g a) (hok : gchk g = 0) : Calls Try.prog 21 #[gval g a, .int .i64 13] w fun e w' => e = .returned (.tuple #[.slice none 0 0, .int .i64 2]) ∧ Below w.heap.size w w' := by
  obtain ⟨ta, tc, na, nc, pa, pc⟩ := a
  have hG0 := GB.start hg
  have hC := Lib.hid (fun (W : World) (h : GrAt W W.heap.size g ⟨ta, tc, na, nc, pa, pc⟩) => gcheck_any g ⟨ta, tc, na, nc, pa, pc⟩ W h (small_of hok))
  rw [hok] at hC
  clear hg hok
  unfold gval at *
  unfold gcells at *
  dsimp only at *
  go_enter Try.func21, Try.ntmps21
  go_upto_region 1 with (fail)
  have qm0 : Blk ((w.alloc (.cells #[.int .i64 g.k, .slice ta g.toks.length tc, .string g.sep, .slice na g.names.length nc, .int .i64 g.start, .slice pa g.prods.length pc] 25)).alloc (.cells #[.int .i64 13] 3)) (w.heap.size + 1) 3 #[.int .i64 13] := Blk.newAt _ _ _ _ (by simp)
  have hG1 := hG0.alloc (.cells #[.int .i64 13] 3)
  clear hG0
  generalize (w.alloc (.cells #[.int .i64 g.k, .slice ta g.toks.length tc, .string g.sep, .slice na g.names.length nc, .int .i64 g.start, .slice pa g.prods.length pc] 25)).alloc (.cells #[.int .i64 13] 3) = w1 at *
  obtain ⟨c0, c1, c2, c3, c4, c5⟩ := hG1.cells
  dsimp only at c1 c3 c5
  go_upto_region 2 with (go_at_call 36; refine (hC.out _ (hG1.2.1.mono hG1.2.2.size)).mono ?_; rintro e w2 ⟨rfl, hb2⟩)
  have hG2 := hG1.step hb2
  have d0 : w2.cell? ⟨w.heap.size + 1, 0, none⟩ = some (.int .i64 13) := (qm0.step hb2).cell 0
  clear hG1 qm0 c0 c1 c2 c3 c4 c5 hb2 hC
  go_wp2_with fail
  go_ret2
  exact ⟨rfl, hG2.2.2⟩
end Go.Proofs.Ytlngbphchhbpbaa

/- The statement DeriveKnown: the walk. -/
namespace Go.Proofs.Ytlngbphchhbpbaa
open Go.ChangeShapes Go.WideShapes Go.ChangeAt Go.RowKit
set_option linter.unusedVariables false

/-- the example in the box g -/
def KS (w : World) (a : GA) (g : Nat) (W : World) : Prop := GrAt W W.heap.size exD a ∧ Blk W g 25 (gcells exD a) ∧ Below w.heap.size w W
theorem KS.step {w W W' : World} {a : GA} {g : Nat} (h : KS w a g W) (hb : Below W.heap.size W W') : KS w a g W' := ⟨h.1.step hb, h.2.1.step hb, bStep h.2.2 hb⟩
theorem KS.cells {w W : World} {ta na pa : Option Addr} {tc nc pc g : Nat} (h : KS w ⟨ta, tc, na, nc, pa, pc⟩ g W) : W.cell? ⟨g, 0, none⟩ = some (.int .i64 1) ∧ W.cell? ⟨g, 1, none⟩ = some (.slice ta 2 tc) ∧ W.cell? ⟨g, 2, none⟩ = some (.string ⟨#[110, 108]⟩) ∧ W.cell? ⟨g, 3, none⟩ = some (.slice na 2 nc) ∧ W.cell? ⟨g, 4, none⟩ = some (.int .i64 16) ∧ W.cell? ⟨g, 5, none⟩ = some (.slice pa 4 pc) :=
  ⟨h.2.1.cell 0, h.2.1.cell 1, h.2.1.cell 2, h.2.1.cell 3, h.2.1.cell 4, h.2.1.cell 5⟩
/-- the example as a value -/
abbrev exV (ta : Option Addr) (tc : Nat) (na : Option Addr) (nc : Nat) (pa : Option Addr) (pc : Nat) : Value := .agg #[.int .i64 1, .slice ta 2 tc, .string ⟨#[110, 108]⟩, .slice na 2 nc, .int .i64 16, .slice pa 4 pc]
theorem lit_rd {W : World} {l : List Int} : Rd1 (W.alloc (.cells (ints l).toArray 3)) (W.alloc (.cells (ints l).toArray 3)).heap.size (some ⟨W.heap.size, 0, none⟩) l.length (ints l) := rd_ints (Blk.new W 3 _) rfl
section
variable {w W : World} {ta na pa : Option Addr} {tc nc pc g : Nat}
theorem k_step {l m : List Int} {p : Int} (h : KS w ⟨ta, tc, na, nc, pa, pc⟩ g W) (h1 : stpE exD l p = 0) (h2 : stpL exD l p = m) (hl : l.length ≤ 1000) : Calls Try.prog 12 #[exV ta tc na nc pa pc, .slice (some ⟨W.heap.size, 0, none⟩) l.length l.length, .int .i64 p] (W.alloc (.cells (ints l).toArray 3)) fun e w' => ∃ v, e = .returned (.tuple #[v, .int .i64 0]) ∧ RdI w' v m ∧ Below W.heap.size W w' :=
  (stp_any exD ⟨ta, tc, na, nc, pa, pc⟩ (some ⟨W.heap.size, 0, none⟩) l.length l.length l p _ (h.step (bAlc (Below.refl _ _) _)).1 exD_small lit_rd (Nat.le_refl _) (by unfold maxLen; omega)).mono fun e w' ⟨v, a1, a2, a3⟩ => ⟨v, by rw [a1, h1], by rw [← h2]; exact a2, bStep (bAlc (Below.refl _ _) _) a3⟩
theorem k_left {l : List Int} {v e0 : Int} (h : KS w ⟨ta, tc, na, nc, pa, pc⟩ g W) (h1 : lmV exD l = v) (h2 : lmE exD l = e0) (hl : l.length ≤ 1000) : Calls Try.prog 10 #[exV ta tc na nc pa pc, .slice (some ⟨W.heap.size, 0, none⟩) l.length l.length] (W.alloc (.cells (ints l).toArray 3)) fun e w' => e = .returned (.tuple #[.int .i64 v, .int .i64 e0]) ∧ Below W.heap.size W w' :=
  (leftmost_any exD ⟨ta, tc, na, nc, pa, pc⟩ (some ⟨W.heap.size, 0, none⟩) l.length l.length l _ (h.step (bAlc (Below.refl _ _) _)).1 exD_small lit_rd (by unfold maxLen; omega)).mono fun e w' ⟨a1, a3⟩ => ⟨by rw [a1, h1, h2], bStep (bAlc (Below.refl _ _) _) a3⟩
theorem k_check {l : List Int} {e0 : Int} (h : KS w ⟨ta, tc, na, nc, pa, pc⟩ g W) (h2 : fchk exD l = e0) (hl : l.length ≤ 1000) : Calls Try.prog 14 #[exV ta tc na nc pa pc, .slice (some ⟨W.heap.size, 0, none⟩) l.length l.length] (W.alloc (.cells (ints l).toArray 3)) fun e w' => e = .returned (.int .i64 e0) ∧ Below W.heap.size W w' :=
  (fcheck_any exD ⟨ta, tc, na, nc, pa, pc⟩ (some ⟨W.heap.size, 0, none⟩) l.length l.length l _ (h.step (bAlc (Below.refl _ _) _)).1 exD_small lit_rd (by unfold maxLen; omega)).mono fun e w' ⟨a1, a3⟩ => ⟨by rw [a1, h2], bStep (bAlc (Below.refl _ _) _) a3⟩
theorem k_run0 (h : KS w ⟨ta, tc, na, nc, pa, pc⟩ g W) : Calls Try.prog 17 #[exV ta tc na nc pa pc, .slice none 0 0] W fun e w' => ∃ v, e = .returned (.tuple #[v, .int .i64 0]) ∧ RdI w' v [16] ∧ Below W.heap.size W w' :=
  (run_any exD ⟨ta, tc, na, nc, pa, pc⟩ none 0 0 [] W h.1 exD_small (Rd1.nil _ _ _) (by unfold maxLen; omega)).mono fun e w' hr => rn_ok (by decide +kernel) hr
theorem k_run1 (h : KS w ⟨ta, tc, na, nc, pa, pc⟩ g W) : Calls Try.prog 17 #[exV ta tc na nc pa pc, .slice (some ⟨W.heap.size, 0, none⟩) 1 1] (W.alloc (.cells #[.int .i64 2] 3)) fun e w' => e = .returned (.tuple #[.slice none 0 0, .int .i64 24]) ∧ Below W.heap.size W w' :=
  (run_any exD ⟨ta, tc, na, nc, pa, pc⟩ (some ⟨W.heap.size, 0, none⟩) 1 1 [2] _ (h.step (bAlc (Below.refl _ _) _)).1 exD_small (lit_rd (l := [2])) (by unfold maxLen; omega)).mono fun e w' hr => by
    have he : runE exD [2] = 24 := by decide +kernel
    obtain ⟨hb, ⟨_, h2⟩ | ⟨h1, _⟩⟩ := hr
    · exact ⟨by rw [h2, he], bStep (bAlc (Below.refl _ _) _) hb⟩
    · rw [he] at h1; cases h1
theorem k_least (h : KS w ⟨ta, tc, na, nc, pa, pc⟩ g W) : Calls Try.prog 28 #[exV ta tc na nc pa pc] W fun e w' => ∃ v, e = .returned (.tuple #[v, .int .i64 0]) ∧ RdI w' v [1, 1] ∧ Below W.heap.size W w' :=
  (least_any exD ⟨ta, tc, na, nc, pa, pc⟩ W h.1 exD_small).mono fun e w' hr => by
    obtain ⟨hb, ⟨h1, _⟩ | ⟨_, L, hL, h2⟩⟩ := hr
    · exact absurd exD_ok h1
    · have := lens_uniq hL ex_lens
      subst this
      rcases h2 with ⟨h3, _⟩ | ⟨_, b, h4, h5⟩
      · simp at h3
      · exact ⟨_, h4, ⟨some ⟨b, 0, none⟩, 2, rfl, rd_ints h5 rfl, by simp, by unfold maxLen; simp⟩, hb⟩
theorem k_short {l x : List Int} (h : KS w ⟨ta, tc, na, nc, pa, pc⟩ g W) (h1 : fchk exD l = 0) (h2 : ∀ y, Best exPs [1, 1] l y → y = x) (h3 : lenS [1, 1] l ≤ 200) (hl : l.length ≤ 1000) : Calls Try.prog 29 #[exV ta tc na nc pa pc, .slice (some ⟨W.heap.size, 0, none⟩) l.length l.length] (W.alloc (.cells (ints l).toArray 3)) fun e w' => ∃ v, e = .returned (.tuple #[v, .int .i64 0]) ∧ RdI w' v x ∧ Below W.heap.size W w' :=
  (shortestT_any exD ⟨ta, tc, na, nc, pa, pc⟩ (some ⟨W.heap.size, 0, none⟩) l.length l.length l _ (h.step (bAlc (Below.refl _ _) _)).1 exD_small lit_rd (by unfold maxLen; omega)).mono fun e w' hr => by
    obtain ⟨hb, ⟨g1, _⟩ | ⟨_, L, hL, g2⟩⟩ := hr
    · exact absurd h1 g1
    · have := lens_uniq hL ex_lens
      subst this
      rcases g2 with ⟨g3, _⟩ | ⟨_, ⟨g4, _⟩ | ⟨_, y, v, g5, g6, g7⟩⟩
      · simp at g3
      · omega
      · have := h2 y g7
        subst this
        exact ⟨v, g5, g6, bStep (bAlc (Below.refl _ _) _) hb⟩
theorem k_sent0 (h : KS w ⟨ta, tc, na, nc, pa, pc⟩ g W) : Calls Try.prog 21 #[exV ta tc na nc pa pc, .int .i64 0] W fun e w' => ∃ A c, e = .returned (.tuple #[.slice A 0 c, .int .i64 0]) ∧ Below W.heap.size W w' :=
  (sentences_any exD ⟨ta, tc, na, nc, pa, pc⟩ 0 W h.1 exD_ok (by omega)).mono fun e w' hr => by
    obtain ⟨v, L, addr, h1, h2, h3, h4⟩ := sn_ok (show ¬ Big exD.toks.length 0 from small_T (by decide) (by omega)) hr
    have := ex_sent0 h2
    subst this
    obtain ⟨A, c, h5, _⟩ := h3.reads
    exact ⟨A, c, by rw [h1, h5]; rfl, h4⟩
theorem k_sent13 (h : KS w ⟨ta, tc, na, nc, pa, pc⟩ g W) : Calls Try.prog 21 #[exV ta tc na nc pa pc, .int .i64 13] W fun e w' => e = .returned (.tuple #[.slice none 0 0, .int .i64 2]) ∧ Below W.heap.size W w' :=
  sent13_any exD ⟨ta, tc, na, nc, pa, pc⟩ W h.1 exD_ok
theorem k_der (h : KS w ⟨ta, tc, na, nc, pa, pc⟩ g W) : Calls Try.prog 22 #[exV ta tc na nc pa pc, .slice (some ⟨W.heap.size, 0, none⟩) 1 1, .slice (some ⟨W.heap.size + 1, 0, none⟩) 2 2] ((W.alloc (.cells #[.int .i64 16] 3)).alloc (.cells #[.int .i64 0, .int .i64 1] 3)) fun e w' => e = .returned (.tuple #[.bool false, .int .i64 0]) ∧ Below W.heap.size W w' := by
  have hb : Below W.heap.size W ((W.alloc (.cells #[.int .i64 16] 3)).alloc (.cells #[.int .i64 0, .int .i64 1] 3)) := bAlc (bAlc (Below.refl _ _) _) _
  have q1 : Blk ((W.alloc (.cells #[.int .i64 16] 3)).alloc (.cells #[.int .i64 0, .int .i64 1] 3)) W.heap.size 3 (ints [16]).toArray := (Blk.new _ _ _).alloc _
  have q2 : Blk ((W.alloc (.cells #[.int .i64 16] 3)).alloc (.cells #[.int .i64 0, .int .i64 1] 3)) (W.heap.size + 1) 3 (ints [0, 1]).toArray := Blk.newAt _ _ _ _ (by simp)
  refine (derives_any exD ⟨ta, tc, na, nc, pa, pc⟩ (some ⟨W.heap.size, 0, none⟩) (some ⟨W.heap.size + 1, 0, none⟩) 1 1 2 2 [16] [0, 1] _ (h.step hb).1 exD_ok (rd_ints q1 rfl) (rd_ints q2 rfl) (by omega) (by omega) (by decide +kernel) (by decide +kernel)).mono fun e w' ⟨bb, h1, h2, h3⟩ => ?_
  have hbb : bb = false := by
    cases bb with
    | true => exact absurd (h2.1 rfl) ex_d1
    | false => rfl
  exact ⟨by rw [h1, hbb], bStep hb h3⟩
end
theorem lit2_blk (W : World) (l m : List Int) : Blk ((W.alloc (.cells (ints l).toArray 3)).alloc (.cells (ints m).toArray 3)) W.heap.size 3 (ints l).toArray ∧ Blk ((W.alloc (.cells (ints l).toArray 3)).alloc (.cells (ints m).toArray 3)) (W.heap.size + 1) 3 (ints m).toArray :=
  ⟨(Blk.new _ _ _).alloc _, Blk.newAt _ _ _ _ (by simp)⟩
theorem k_der2 {W : World} {l m : List Int} (hl : l.length ≤ 200) (hm : m.length ≤ 12) (hfs : ∀ s ∈ l, syB exD s = true) (hss : ∀ x ∈ m, 0 ≤ x ∧ x < 2) (hd : Der exPs l m) : Calls Try.prog 30 #[.slice (some ⟨W.heap.size, 0, none⟩) l.length l.length, .slice (some ⟨W.heap.size + 1, 0, none⟩) m.length m.length] ((W.alloc (.cells (ints l).toArray 3)).alloc (.cells (ints m).toArray 3)) fun e w' => e = .returned (.bool true) ∧ Below W.heap.size W w' := by
  obtain ⟨q1, q2⟩ := lit2_blk W l m
  exact (derives3_any (some ⟨W.heap.size, 0, none⟩) (some ⟨W.heap.size + 1, 0, none⟩) l.length m.length l m _ (rd_ints q1 rfl) (rd_ints q2 rfl) hl hm hfs hss hd).mono fun e w' ⟨h1, h2⟩ => ⟨h1, bStep (bAlc (bAlc (Below.refl _ _) _) _) h2⟩
theorem k_ref {W : World} {l : List Int} {p want : Int} (he : stpE exD l p = want) (hne : want ≠ 0) (hl : l.length ≤ 1000) : Calls Try.prog 27 #[.slice (some ⟨W.heap.size, 0, none⟩) l.length l.length, .int .i64 p, .int .i64 want] (W.alloc (.cells (ints l).toArray 3)) fun e w' => e = .returned (.bool true) ∧ Below W.heap.size W w' :=
  (refuses_any W.heap.size l.length l p want _ (Blk.new _ _ _) rfl hl he hne).mono fun e w' ⟨h1, h2⟩ => ⟨h1, bStep (bAlc (Below.refl _ _) _) h2⟩
theorem k_same {W : World} {v : Value} {l : List Int} (h : RdI W v l) (hl : l.length ≤ 1000) : Calls Try.prog 16 #[v, .slice (some ⟨W.heap.size, 0, none⟩) l.length l.length] (W.alloc (.cells (ints l).toArray 3)) fun e w' => e = .returned (.bool true) ∧ Below W.heap.size W w' :=
  (same_lit (h.step (bAlc (Below.refl _ _) _)) (Blk.new _ _ _) rfl hl).mono fun e w' ⟨h1, h2⟩ => ⟨h1, bStep (bAlc (Below.refl _ _) _) h2⟩
end Go.Proofs.Ytlngbphchhbpbaa

/- The statement DeriveKnown: the walk, joined. -/
namespace Go.Proofs.Ytlngbphchhbpbaa
open Go.ChangeShapes Go.WideShapes Go.ChangeAt Go.RowKit
set_option linter.unusedVariables false

theorem example2_any (w : World) : Calls Try.prog 26 #[] w fun e w' => ∃ ta tc na nc pa pc, e = .returned (.agg #[.int .i64 1, .slice ta 2 tc, .string ⟨#[110, 108]⟩, .slice na 2 nc, .int .i64 16, .slice pa 4 pc]) ∧ GrAt w' w'.heap.size exD ⟨ta, tc, na, nc, pa, pc⟩ ∧ Below w.heap.size w w' :=
  (example_any w).mono fun e w' ⟨⟨ta, tc, na, nc, pa, pc⟩, h1, h2, h3⟩ => ⟨ta, tc, na, nc, pa, pc, h1, h2, h3⟩
set_option maxRecDepth 100000 in
set_option maxHeartbeats 4000000 in
theorem deriveKnown_walk (w : World) : Calls Try.prog 6 #[] w fun e w' => e = .returned (.bool true) ∧ Below w.heap.size w w' := by
  have hE := Lib.hid (example2_any w)
  have hAw := Lib.hid (fun (W : World) => awake_any W)
  have a2 := Lib.hid (fun (ta : Option Addr) (tc : Nat) (na : Option Addr) (nc : Nat) (pa : Option Addr) (pc bx : Nat) (W : World) (h : KS w ⟨ta, tc, na, nc, pa, pc⟩ bx W) => (show Calls Try.prog 12 #[.agg #[.int .i64 1, .slice ta 2 tc, .string ⟨#[110, 108]⟩, .slice na 2 nc, .int .i64 16, .slice pa 4 pc], .slice (some ⟨W.heap.size, 0, none⟩) 1 1, .int .i64 0] (W.alloc (.cells #[.int .i64 16] 3)) (fun e w' => ∃ v, e = .returned (.tuple #[v, .int .i64 0]) ∧ RdI w' v [0, 16, 1] ∧ Below W.heap.size W w') from k_step (l := [16]) h (by decide +kernel) (by decide +kernel) (by decide)))
  have a3 := Lib.hid (fun (ta : Option Addr) (tc : Nat) (na : Option Addr) (nc : Nat) (pa : Option Addr) (pc bx : Nat) (W : World) (h : KS w ⟨ta, tc, na, nc, pa, pc⟩ bx W) => (show Calls Try.prog 12 #[.agg #[.int .i64 1, .slice ta 2 tc, .string ⟨#[110, 108]⟩, .slice na 2 nc, .int .i64 16, .slice pa 4 pc], .slice (some ⟨W.heap.size, 0, none⟩) 3 3, .int .i64 1] (W.alloc (.cells #[.int .i64 0, .int .i64 16, .int .i64 1] 3)) (fun e w' => ∃ v, e = .returned (.tuple #[v, .int .i64 0]) ∧ RdI w' v [0, 17, 1] ∧ Below W.heap.size W w') from k_step (l := [0, 16, 1]) h (by decide +kernel) (by decide +kernel) (by decide)))
  have s1 := Lib.hid (fun (W : World) (v : Value) (h : RdI W v [0, 16, 1]) => (show Calls Try.prog 16 #[v, .slice (some ⟨W.heap.size, 0, none⟩) 3 3] (W.alloc (.cells #[.int .i64 0, .int .i64 16, .int .i64 1] 3)) (fun e w' => e = .returned (.bool true) ∧ Below W.heap.size W w') from k_same (l := [0, 16, 1]) h (by decide)))
  have s2 := Lib.hid (fun (W : World) (v : Value) (h : RdI W v [0, 17, 1]) => (show Calls Try.prog 16 #[v, .slice (some ⟨W.heap.size, 0, none⟩) 3 3] (W.alloc (.cells #[.int .i64 0, .int .i64 17, .int .i64 1] 3)) (fun e w' => e = .returned (.bool true) ∧ Below W.heap.size W w') from k_same (l := [0, 17, 1]) h (by decide)))
  have r1 := Lib.hid (fun (W : World) => (show Calls Try.prog 27 #[.slice (some ⟨W.heap.size, 0, none⟩) 3 3, .int .i64 2, .int .i64 24] (W.alloc (.cells #[.int .i64 0, .int .i64 16, .int .i64 1] 3)) (fun e w' => e = .returned (.bool true) ∧ Below W.heap.size W w') from k_ref (l := [0, 16, 1]) (by decide +kernel) (by decide) (by decide)))
  have r2 := Lib.hid (fun (W : World) => (show Calls Try.prog 27 #[.slice (some ⟨W.heap.size, 0, none⟩) 2 2, .int .i64 0, .int .i64 7] (W.alloc (.cells #[.int .i64 0, .int .i64 1] 3)) (fun e w' => e = .returned (.bool true) ∧ Below W.heap.size W w') from k_ref (l := [0, 1]) (by decide +kernel) (by decide) (by decide)))
  have r3 := Lib.hid (fun (W : World) => (show Calls Try.prog 27 #[.slice (some ⟨W.heap.size, 0, none⟩) 1 1, .int .i64 4, .int .i64 2] (W.alloc (.cells #[.int .i64 16] 3)) (fun e w' => e = .returned (.bool true) ∧ Below W.heap.size W w') from k_ref (l := [16]) (by decide +kernel) (by decide) (by decide)))
  have a6 := Lib.hid (fun (ta : Option Addr) (tc : Nat) (na : Option Addr) (nc : Nat) (pa : Option Addr) (pc bx : Nat) (W : World) (h : KS w ⟨ta, tc, na, nc, pa, pc⟩ bx W) => (show Calls Try.prog 17 #[.agg #[.int .i64 1, .slice ta 2 tc, .string ⟨#[110, 108]⟩, .slice na 2 nc, .int .i64 16, .slice pa 4 pc], .slice none 0 0] W (fun e w' => ∃ v, e = .returned (.tuple #[v, .int .i64 0]) ∧ RdI w' v [16] ∧ Below W.heap.size W w') from k_run0 h))
  have a7 := Lib.hid (fun (ta : Option Addr) (tc : Nat) (na : Option Addr) (nc : Nat) (pa : Option Addr) (pc bx : Nat) (W : World) (h : KS w ⟨ta, tc, na, nc, pa, pc⟩ bx W) => (show Calls Try.prog 17 #[.agg #[.int .i64 1, .slice ta 2 tc, .string ⟨#[110, 108]⟩, .slice na 2 nc, .int .i64 16, .slice pa 4 pc], .slice (some ⟨W.heap.size, 0, none⟩) 1 1] (W.alloc (.cells #[.int .i64 2] 3)) (fun e w' => e = .returned (.tuple #[.slice none 0 0, .int .i64 24]) ∧ Below W.heap.size W w') from k_run1 h))
  have a8 := Lib.hid (fun (ta : Option Addr) (tc : Nat) (na : Option Addr) (nc : Nat) (pa : Option Addr) (pc bx : Nat) (W : World) (h : KS w ⟨ta, tc, na, nc, pa, pc⟩ bx W) => (show Calls Try.prog 10 #[.agg #[.int .i64 1, .slice ta 2 tc, .string ⟨#[110, 108]⟩, .slice na 2 nc, .int .i64 16, .slice pa 4 pc], .slice (some ⟨W.heap.size, 0, none⟩) 3 3] (W.alloc (.cells #[.int .i64 0, .int .i64 16, .int .i64 1] 3)) (fun e w' => e = .returned (.tuple #[.int .i64 1, .int .i64 0]) ∧ Below W.heap.size W w') from k_left (l := [0, 16, 1]) h (by decide +kernel) (by decide +kernel) (by decide)))
  have a9 := Lib.hid (fun (ta : Option Addr) (tc : Nat) (na : Option Addr) (nc : Nat) (pa : Option Addr) (pc bx : Nat) (W : World) (h : KS w ⟨ta, tc, na, nc, pa, pc⟩ bx W) => (show Calls Try.prog 10 #[.agg #[.int .i64 1, .slice ta 2 tc, .string ⟨#[110, 108]⟩, .slice na 2 nc, .int .i64 16, .slice pa 4 pc], .slice (some ⟨W.heap.size, 0, none⟩) 2 2] (W.alloc (.cells #[.int .i64 0, .int .i64 1] 3)) (fun e w' => e = .returned (.tuple #[.int .i64 0, .int .i64 7]) ∧ Below W.heap.size W w') from k_left (l := [0, 1]) h (by decide +kernel) (by decide +kernel) (by decide)))
  have s3 := Lib.hid (fun (W : World) (v : Value) (h : RdI W v [16]) => (show Calls Try.prog 16 #[v, .slice (some ⟨W.heap.size, 0, none⟩) 1 1] (W.alloc (.cells #[.int .i64 16] 3)) (fun e w' => e = .returned (.bool true) ∧ Below W.heap.size W w') from k_same (l := [16]) h (by decide)))
  have a10 := Lib.hid (fun (ta : Option Addr) (tc : Nat) (na : Option Addr) (nc : Nat) (pa : Option Addr) (pc bx : Nat) (W : World) (h : KS w ⟨ta, tc, na, nc, pa, pc⟩ bx W) => (show Calls Try.prog 14 #[.agg #[.int .i64 1, .slice ta 2 tc, .string ⟨#[110, 108]⟩, .slice na 2 nc, .int .i64 16, .slice pa 4 pc], .slice (some ⟨W.heap.size, 0, none⟩) 1 1] (W.alloc (.cells #[.int .i64 2] 3)) (fun e w' => e = .returned (.int .i64 14) ∧ Below W.heap.size W w') from k_check (l := [2]) h (by decide +kernel) (by decide)))
  have a12 := Lib.hid (fun (ta : Option Addr) (tc : Nat) (na : Option Addr) (nc : Nat) (pa : Option Addr) (pc bx : Nat) (W : World) (h : KS w ⟨ta, tc, na, nc, pa, pc⟩ bx W) => (show Calls Try.prog 28 #[.agg #[.int .i64 1, .slice ta 2 tc, .string ⟨#[110, 108]⟩, .slice na 2 nc, .int .i64 16, .slice pa 4 pc]] W (fun e w' => ∃ v, e = .returned (.tuple #[v, .int .i64 0]) ∧ RdI w' v [1, 1] ∧ Below W.heap.size W w') from k_least h))
  have a13 := Lib.hid (fun (ta : Option Addr) (tc : Nat) (na : Option Addr) (nc : Nat) (pa : Option Addr) (pc bx : Nat) (W : World) (h : KS w ⟨ta, tc, na, nc, pa, pc⟩ bx W) => (show Calls Try.prog 29 #[.agg #[.int .i64 1, .slice ta 2 tc, .string ⟨#[110, 108]⟩, .slice na 2 nc, .int .i64 16, .slice pa 4 pc], .slice (some ⟨W.heap.size, 0, none⟩) 2 2] (W.alloc (.cells #[.int .i64 16, .int .i64 17] 3)) (fun e w' => ∃ v, e = .returned (.tuple #[v, .int .i64 0]) ∧ RdI w' v [1, 1] ∧ Below W.heap.size W w') from k_short (l := [16, 17]) h (by decide +kernel) (fun _ hy => ex_best1 hy) (by decide) (by decide)))
  have a14 := Lib.hid (fun (ta : Option Addr) (tc : Nat) (na : Option Addr) (nc : Nat) (pa : Option Addr) (pc bx : Nat) (W : World) (h : KS w ⟨ta, tc, na, nc, pa, pc⟩ bx W) => (show Calls Try.prog 29 #[.agg #[.int .i64 1, .slice ta 2 tc, .string ⟨#[110, 108]⟩, .slice na 2 nc, .int .i64 16, .slice pa 4 pc], .slice (some ⟨W.heap.size, 0, none⟩) 2 2] (W.alloc (.cells #[.int .i64 0, .int .i64 16] 3)) (fun e w' => ∃ v, e = .returned (.tuple #[v, .int .i64 0]) ∧ RdI w' v [0, 1] ∧ Below W.heap.size W w') from k_short (l := [0, 16]) h (by decide +kernel) (fun _ hy => ex_best2 hy) (by decide) (by decide)))
  have s4 := Lib.hid (fun (W : World) (v : Value) (h : RdI W v [1, 1]) => (show Calls Try.prog 16 #[v, .slice (some ⟨W.heap.size, 0, none⟩) 2 2] (W.alloc (.cells #[.int .i64 1, .int .i64 1] 3)) (fun e w' => e = .returned (.bool true) ∧ Below W.heap.size W w') from k_same (l := [1, 1]) h (by decide)))
  have s5 := Lib.hid (fun (W : World) (v : Value) (h : RdI W v [1, 1]) => (show Calls Try.prog 16 #[v, .slice (some ⟨W.heap.size, 0, none⟩) 2 2] (W.alloc (.cells #[.int .i64 1, .int .i64 1] 3)) (fun e w' => e = .returned (.bool true) ∧ Below W.heap.size W w') from k_same (l := [1, 1]) h (by decide)))
  have s6 := Lib.hid (fun (W : World) (v : Value) (h : RdI W v [0, 1]) => (show Calls Try.prog 16 #[v, .slice (some ⟨W.heap.size, 0, none⟩) 2 2] (W.alloc (.cells #[.int .i64 0, .int .i64 1] 3)) (fun e w' => e = .returned (.bool true) ∧ Below W.heap.size W w') from k_same (l := [0, 1]) h (by decide)))
  have a17 := Lib.hid (fun (ta : Option Addr) (tc : Nat) (na : Option Addr) (nc : Nat) (pa : Option Addr) (pc bx : Nat) (W : World) (h : KS w ⟨ta, tc, na, nc, pa, pc⟩ bx W) => (show Calls Try.prog 21 #[.agg #[.int .i64 1, .slice ta 2 tc, .string ⟨#[110, 108]⟩, .slice na 2 nc, .int .i64 16, .slice pa 4 pc], .int .i64 0] W (fun e w' => ∃ A c, e = .returned (.tuple #[.slice A 0 c, .int .i64 0]) ∧ Below W.heap.size W w') from k_sent0 h))
  have a18 := Lib.hid (fun (ta : Option Addr) (tc : Nat) (na : Option Addr) (nc : Nat) (pa : Option Addr) (pc bx : Nat) (W : World) (h : KS w ⟨ta, tc, na, nc, pa, pc⟩ bx W) => (show Calls Try.prog 21 #[.agg #[.int .i64 1, .slice ta 2 tc, .string ⟨#[110, 108]⟩, .slice na 2 nc, .int .i64 16, .slice pa 4 pc], .int .i64 13] W (fun e w' => e = .returned (.tuple #[.slice none 0 0, .int .i64 2]) ∧ Below W.heap.size W w') from k_sent13 h))
  have a19 := Lib.hid (fun (ta : Option Addr) (tc : Nat) (na : Option Addr) (nc : Nat) (pa : Option Addr) (pc bx : Nat) (W : World) (h : KS w ⟨ta, tc, na, nc, pa, pc⟩ bx W) => (show Calls Try.prog 22 #[.agg #[.int .i64 1, .slice ta 2 tc, .string ⟨#[110, 108]⟩, .slice na 2 nc, .int .i64 16, .slice pa 4 pc], .slice (some ⟨W.heap.size, 0, none⟩) 1 1, .slice (some ⟨W.heap.size + 1, 0, none⟩) 2 2] ((W.alloc (.cells #[.int .i64 16] 3)).alloc (.cells #[.int .i64 0, .int .i64 1] 3)) (fun e w' => e = .returned (.tuple #[.bool false, .int .i64 0]) ∧ Below W.heap.size W w') from k_der h))
  have d1 := Lib.hid (fun (W : World) => (show Calls Try.prog 30 #[.slice (some ⟨W.heap.size, 0, none⟩) 1 1, .slice (some ⟨W.heap.size + 1, 0, none⟩) 3 3] ((W.alloc (.cells #[.int .i64 16] 3)).alloc (.cells #[.int .i64 0, .int .i64 1, .int .i64 1] 3)) (fun e w' => e = .returned (.bool true) ∧ Below W.heap.size W w') from k_der2 (l := [16]) (m := [0, 1, 1]) (by decide) (by decide) (by decide +kernel) (by decide) ex_d2))
  have d2 := Lib.hid (fun (W : World) => (show Calls Try.prog 30 #[.slice (some ⟨W.heap.size, 0, none⟩) 1 1, .slice (some ⟨W.heap.size + 1, 0, none⟩) 4 4] ((W.alloc (.cells #[.int .i64 17] 3)).alloc (.cells #[.int .i64 1, .int .i64 1, .int .i64 1, .int .i64 1] 3)) (fun e w' => e = .returned (.bool true) ∧ Below W.heap.size W w') from k_der2 (l := [17]) (m := [1, 1, 1, 1]) (by decide) (by decide) (by decide +kernel) (by decide) ex_d3))
  have d3 := Lib.hid (fun (W : World) => (derives3_any none none 0 0 [] [] W (Rd1.nil _ _ _) (Rd1.nil _ _ _) (by omega) (by omega) (by simp) (by simp) .nil))
  go_enter Try.func6, Try.ntmps6
  go_upto_region 2 with (go_at_call 26; refine hE.out.mono ?_; rintro e w1 ⟨ta, tc, na, nc, pa, pc, rfl, hg1, hb1⟩)
  have hK : KS w ⟨ta, tc, na, nc, pa, pc⟩ w1.heap.size (w1.alloc (.cells #[.int .i64 1, .slice ta 2 tc, .string ⟨#[110, 108]⟩, .slice na 2 nc, .int .i64 16, .slice pa 4 pc] 25)) := ⟨hg1.step (bAlc (Below.refl _ _) _), Blk.new _ _ _, bAlc hb1 _⟩
  clear hE hg1 hb1
  generalize w1.alloc (.cells #[.int .i64 1, .slice ta 2 tc, .string ⟨#[110, 108]⟩, .slice na 2 nc, .int .i64 16, .slice pa 4 pc] 25) = W at *
  generalize w1.heap.size = bx at *
  obtain ⟨c0, c1, c2, c3, c4, c5⟩ := hK.cells
  go_upto_region 3 with (go_at_call 12; refine (a2.out ta tc na nc pa pc bx _ hK).mono ?_; clear a2; rintro e w2 ⟨v2, rfl, hv2, hb2⟩)
  replace hK := hK.step hb2
  clear c0 c1 c2 c3 c4 c5 hb2
  obtain ⟨c0, c1, c2, c3, c4, c5⟩ := hK.cells
  go_upto_region 4 with (go_at_call 12; refine (a3.out ta tc na nc pa pc bx _ hK).mono ?_; clear a3; rintro e w3 ⟨v3, rfl, hv3, hb3⟩)
  replace hK := hK.step hb3
  replace hv2 := hv2.step hb3
  clear c0 c1 c2 c3 c4 c5 hb3
  obtain ⟨c0, c1, c2, c3, c4, c5⟩ := hK.cells
  go_upto_region 6 with (first
    | (go_at_call 16; refine (s1.out _ _ hv2).mono ?_; clear s1; rintro e w4 ⟨rfl, hb4⟩)
    | (go_at_call 16; refine (s2.out _ _ (hv3.step hb4)).mono ?_; clear s2; rintro e w5 ⟨rfl, hb5⟩)
    | (go_at_call 27; refine (r1.out _).mono ?_; clear r1; rintro e w6 ⟨rfl, hb6⟩)
    | (go_at_call 27; refine (r2.out _).mono ?_; clear r2; rintro e w7 ⟨rfl, hb7⟩)
    | (go_at_call 27; refine (r3.out _).mono ?_; clear r3; rintro e w8 ⟨rfl, hb8⟩))
  replace hK := hK.step (bStep (bStep (bStep (bStep hb4 hb5) hb6) hb7) hb8)
  clear c0 c1 c2 c3 c4 c5 hv2 hv3 hb4 hb5 hb6 hb7 hb8
  obtain ⟨c0, c1, c2, c3, c4, c5⟩ := hK.cells
  go_upto_region 7 with (go_at_call 17; refine (a6.out ta tc na nc pa pc bx _ hK).mono ?_; clear a6; rintro e w2 ⟨v2, rfl, hv2, hb2⟩)
  replace hK := hK.step hb2
  clear c0 c1 c2 c3 c4 c5 hb2
  obtain ⟨c0, c1, c2, c3, c4, c5⟩ := hK.cells
  go_upto_region 8 with (go_at_call 17; refine (a7.out ta tc na nc pa pc bx _ hK).mono ?_; clear a7; rintro e w3 ⟨rfl, hb3⟩)
  replace hK := hK.step hb3
  replace hv2 := hv2.step hb3
  clear c0 c1 c2 c3 c4 c5 hb3
  obtain ⟨c0, c1, c2, c3, c4, c5⟩ := hK.cells
  go_upto_region 9 with (go_at_call 10; refine (a8.out ta tc na nc pa pc bx _ hK).mono ?_; clear a8; rintro e w4 ⟨rfl, hb4⟩)
  replace hK := hK.step hb4
  replace hv2 := hv2.step hb4
  clear c0 c1 c2 c3 c4 c5 hb4
  obtain ⟨c0, c1, c2, c3, c4, c5⟩ := hK.cells
  go_upto_region 10 with (go_at_call 10; refine (a9.out ta tc na nc pa pc bx _ hK).mono ?_; clear a9; rintro e w5 ⟨rfl, hb5⟩)
  replace hK := hK.step hb5
  replace hv2 := hv2.step hb5
  clear c0 c1 c2 c3 c4 c5 hb5
  obtain ⟨c0, c1, c2, c3, c4, c5⟩ := hK.cells
  have d10 := Lib.hid (fun (W2 : World) (h : Below w5.heap.size w5 W2) => (⟨cell_later h c0, cell_later h c1, cell_later h c2, cell_later h c3, cell_later h c4, cell_later h c5⟩ : W2.cell? ⟨bx, 0, none⟩ = some (.int .i64 1) ∧ W2.cell? ⟨bx, 1, none⟩ = some (.slice ta 2 tc) ∧ W2.cell? ⟨bx, 2, none⟩ = some (.string ⟨#[110, 108]⟩) ∧ W2.cell? ⟨bx, 3, none⟩ = some (.slice na 2 nc) ∧ W2.cell? ⟨bx, 4, none⟩ = some (.int .i64 16) ∧ W2.cell? ⟨bx, 5, none⟩ = some (.slice pa 4 pc)))
  go_upto_region 12 with (first
    | (go_at_call 16; refine (s3.out _ _ hv2).mono ?_; clear s3; rintro e w6 ⟨rfl, hb6⟩; obtain ⟨k0, k1, k2, k3, k4, k5⟩ := d10.out w6 hb6)
    | (go_at_call 14; refine (a10.out ta tc na nc pa pc bx _ (hK.step hb6)).mono ?_; clear a10; rintro e w7 ⟨rfl, hb7⟩))
  replace hK := hK.step (bStep hb6 hb7)
  clear c0 c1 c2 c3 c4 c5 k0 k1 k2 k3 k4 k5 d10 hv2 hb6 hb7
  obtain ⟨c0, c1, c2, c3, c4, c5⟩ := hK.cells
  go_upto_region 13 with (go_at_call 28; refine (a12.out ta tc na nc pa pc bx _ hK).mono ?_; clear a12; rintro e w2 ⟨v2, rfl, hv2, hb2⟩)
  replace hK := hK.step hb2
  clear c0 c1 c2 c3 c4 c5 hb2
  obtain ⟨c0, c1, c2, c3, c4, c5⟩ := hK.cells
  go_upto_region 14 with (go_at_call 29; refine (a13.out ta tc na nc pa pc bx _ hK).mono ?_; clear a13; rintro e w3 ⟨v3, rfl, hv3, hb3⟩)
  replace hK := hK.step hb3
  replace hv2 := hv2.step hb3
  clear c0 c1 c2 c3 c4 c5 hb3
  obtain ⟨c0, c1, c2, c3, c4, c5⟩ := hK.cells
  go_upto_region 15 with (go_at_call 29; refine (a14.out ta tc na nc pa pc bx _ hK).mono ?_; clear a14; rintro e w4 ⟨v4, rfl, hv4, hb4⟩)
  replace hK := hK.step hb4
  replace hv2 := hv2.step hb4
  replace hv3 := hv3.step hb4
  clear c0 c1 c2 c3 c4 c5 hb4
  obtain ⟨c0, c1, c2, c3, c4, c5⟩ := hK.cells
  go_upto_region 17 with (first
    | (go_at_call 16; refine (s4.out _ _ hv2).mono ?_; clear s4; rintro e w5 ⟨rfl, hb5⟩)
    | (go_at_call 16; refine (s5.out _ _ (hv3.step hb5)).mono ?_; clear s5; rintro e w6 ⟨rfl, hb6⟩)
    | (go_at_call 16; refine (s6.out _ _ (hv4.step (bStep hb5 hb6))).mono ?_; clear s6; rintro e w7 ⟨rfl, hb7⟩))
  replace hK := hK.step (bStep (bStep hb5 hb6) hb7)
  clear c0 c1 c2 c3 c4 c5 hv2 hv3 hv4 hb5 hb6 hb7
  obtain ⟨c0, c1, c2, c3, c4, c5⟩ := hK.cells
  go_upto_region 18 with (go_at_call 21; refine (a17.out ta tc na nc pa pc bx _ hK).mono ?_; clear a17; rintro e w2 ⟨A2, k2, rfl, hb2⟩)
  replace hK := hK.step hb2
  clear c0 c1 c2 c3 c4 c5 hb2
  obtain ⟨c0, c1, c2, c3, c4, c5⟩ := hK.cells
  go_upto_region 19 with (go_at_call 21; refine (a18.out ta tc na nc pa pc bx _ hK).mono ?_; clear a18; rintro e w3 ⟨rfl, hb3⟩)
  replace hK := hK.step hb3
  clear c0 c1 c2 c3 c4 c5 hb3
  obtain ⟨c0, c1, c2, c3, c4, c5⟩ := hK.cells
  go_upto_region 20 with (go_at_call 22; refine (a19.out ta tc na nc pa pc bx _ hK).mono ?_; clear a19; rintro e w4 ⟨rfl, hb4⟩)
  replace hK := hK.step hb4
  clear c0 c1 c2 c3 c4 c5 hb4
  obtain ⟨c0, c1, c2, c3, c4, c5⟩ := hK.cells
  clear c0 c1 c2 c3 c4 c5
  have hbw := Lib.hid hK.2.2
  clear hK
  go_wp2_with (first
    | (go_at_call 30; refine (d1.out _).mono ?_; clear d1; rintro e w5 ⟨rfl, hb5⟩)
    | (go_at_call 30; refine (d2.out _).mono ?_; clear d2; rintro e w6 ⟨rfl, hb6⟩)
    | (go_at_call 30; refine (d3.out _).mono ?_; clear d3; rintro e w7 ⟨rfl, hb7⟩)
    | (go_at_call 8; refine (hAw.out _).mono ?_; rintro e w8 ⟨rfl, hb8⟩))
  go_ret
  exact ⟨rfl, bStep (bStep (bStep (bStep hbw.out hb5) hb6) hb7) hb8⟩
end Go.Proofs.Ytlngbphchhbpbaa
