/- Walks and plain laws, part 9 of 9: The walk of FollowUses. Conditions: none beyond those that each theorem states. -/
import Derived.Test.YtnnkfgekiaaehaaC8
/- The walk of FollowUses. -/
namespace Go.Proofs.Ytnnkfgekiaaehaa
open Go.ChangeShapes Go.WideShapes Go.ChangeAt Go.RowKit
set_option linter.unusedVariables false

/-- the places of the uses of s -/
def UL (g : Gr) (s : Int) (l : List (Nat × Nat)) : Prop := ∀ u : Nat × Nat, u ∈ l ↔ ∃ p, g.prods[u.1]? = some p ∧ p.right[u.2]? = some s
/-- the looks gathered from the first i uses -/
structure Gath (g : Gr) (s : Int) (l : List (Nat × Nat)) (i : Nat) (all : List Lk) : Prop where
  sub : ∀ z ∈ all, FO g.prods g.k.toNat g.start s z
  st : s = g.start → Lk.of [] ∈ all
  full : ∀ j : Nat, j < i → ∀ u : Nat × Nat, l[j]? = some u → ∀ p : Pr, g.prods[u.1]? = some p → ∀ z, BH g.prods g.k.toNat g.start p (u.2 + 1) z → z ∈ all
  len : all.length ≤ 1 + i * 7
theorem Gath.start0 {g : Gr} {s : Int} {l : List (Nat × Nat)} (h : s ≠ g.start) : Gath g s l 0 [] := ⟨by simp, fun e => absurd e h, by intros; omega, by simp⟩
theorem Gath.start1 {g : Gr} {s : Int} {l : List (Nat × Nat)} (h : s = g.start) : Gath g s l 0 [Lk.of []] := ⟨fun z hz => by
  have := List.mem_singleton.1 hz
  subst this; subst h
  exact .start, fun _ => by simp, by intros; omega, by simp⟩
theorem Gath.next {g : Gr} {s : Int} (h16 : 16 ≤ s) {l : List (Nat × Nat)} (hl : UL g s l) {i : Nat} {all : List Lk} (h : Gath g s l i all) {u : Nat × Nat} (hu : l[i]? = some u) {p : Pr} (hp : g.prods[u.1]? = some p) {M : List Lk} (hM : BSet g p (u.2 + 1) M) (hM7 : M.length ≤ 7) : Gath g s l (i + 1) (all ++ M) := by
  refine ⟨fun z hz => ?_, fun e => List.mem_append_left _ (h.st e), fun j hj v hv q hq z hz => ?_, by rw [List.length_append]; have := h.len; omega⟩
  · rcases List.mem_append.1 hz with hz | hz
    · exact h.sub z hz
    · obtain ⟨q, hq, hd⟩ := (hl u).1 (List.mem_of_getElem? hu)
      rw [hp] at hq; cases hq
      exact (fo_iff _ _ _ s h16 z).2 (.inr ⟨p, List.mem_of_getElem? hp, u.2, hd, (hM.2 z).1 hz⟩)
  · by_cases e : j = i
    · subst e
      rw [hu] at hv; cases hv
      rw [hp] at hq; cases hq
      exact List.mem_append_right _ ((hM.2 z).2 hz)
    · exact List.mem_append_left _ (h.full j (by omega) v hv q hq z hz)
theorem Gath.all {g : Gr} {s : Int} (h16 : 16 ≤ s) {l : List (Nat × Nat)} (hl : UL g s l) {all : List Lk} (h : Gath g s l l.length all) {z : Lk} (hz : FO g.prods g.k.toNat g.start s z) : z ∈ all := by
  rcases (fo_iff _ _ _ s h16 z).1 hz with ⟨e, rfl⟩ | ⟨p, hp, d, hd, hb⟩
  · exact h.st e
  · obtain ⟨i, hi⟩ := List.getElem?_of_mem hp
    obtain ⟨j, hj⟩ := List.getElem?_of_mem ((hl (i, d)).2 ⟨p, hi, hd⟩)
    exact h.full j (List.getElem?_eq_some_iff.1 hj).1 _ hj p hi z hb
theorem bset_len {g : Gr} (h : Slight g) {p : Pr} (hp : p ∈ g.prods) {d : Nat} {M : List Lk} (hM : BSet g p d M) : M.length ≤ 7 :=
  nodup_len (s := univ2) (asc_nodup hM.1) fun y hy => h.fitB hp ((hM.2 y).1 hy)
/-- the looks that are gathered lie in a list of the call's own -/
def AllO (B : Nat) (v : Value) (all : List Lk) (W : World) : Prop := OwnL W B v all ∧ B ≤ W.heap.size

set_option maxRecDepth 100000 in
set_option maxHeartbeats 8000000 in
theorem followUses_walk (A : Option Addr) (len cap : Nat) (zs : List Int) (b : Int) (w : World) (wz : IsInts w A len cap zs) (wb : (Lit.int .i64 b).wf = true) :
    Calls Try.prog 6 #[.slice A len cap, .int .i64 b] w fun e w' => e = .returned (.bool true) ∧ Below w.heap.size w w' := by
  obtain ⟨hr, hwf, hlen⟩ := ints_reads wz
  have hAny := Lib.hid (any_any A len cap (zs.take len) w hr hlen hwf)
  have hsl := slight_any (zs.take len)
  generalize anyG (zs.take len) = g at *
  clear hr hwf hlen wz
  have hk := gok_of hsl.ok
  have hnm := hk.nm
  have hn9 : g.names.length ≤ 8 := hnm.2
  have hMo := Lib.hid (fun (W : World) => mod_any b g.names.length W wb (by omega) (by omega))
  have hsy := symOf_nt hsl.ok b
  have hsyd : symOf g b = 16 + b % (g.names.length : Int) := rfl
  have hs1 := Int.emod_nonneg b (show (g.names.length : Int) ≠ 0 by omega)
  have hs2 := Int.emod_lt_of_pos b (show (0 : Int) < g.names.length by omega)
  generalize hbm : b % (g.names.length : Int) = bm at *
  generalize symOf g b = s at *
  have hOf := Lib.hid (fun (a : GA) (W : World) (h : GrAt W W.heap.size g a) => of_any g a s W h hsl.ok hsy (hsl.few s))
  have hUs := Lib.hid (fun (a : GA) (W : World) (h : GrAt W W.heap.size g a) => uses_any g a s W h hsl.ok hsy)
  have hEn := Lib.hid (fun (a : GA) (W : World) (h : GrAt W W.heap.size g a) => ends_any g a s W h hsl.ok hsy)
  have hBe := Lib.hid (fun (a : GA) (i d : Nat) (p : Pr) (hp : g.prods[i]? = some p) (hd : d ≤ p.right.length) (W : World) (h : GrAt W W.heap.size g a) => behind_any g a i d p W h hsl.ok hp hd (hsl.fewB (List.mem_of_getElem? hp) d))
  have hAw := Lib.hid (fun (W : World) => awake_any W)
  have h16 : 16 ≤ s := (nt_bd hsy).1
  have hsl' := Lib.hid hsl
  have hk' := Lib.hid hk
  replace hbm := Lib.hid hbm
  clear hsl hsy hk hnm wb
  go_enter Try.func6, Try.ntmps6
  go_upto_region 2 with (go_at_call 7; refine hAny.out.mono ?_; rintro e w1 ⟨⟨ta, tc, na, nc, pa, pc⟩, rfl, hg1, hb1⟩; simp only [gval, gcells])
  have hb2 : Below w1.heap.size w1 (w1.alloc (.cells #[.int .i64 g.k, .slice ta g.toks.length tc, .string g.sep, .slice na g.names.length nc, .int .i64 g.start, .slice pa g.prods.length pc] 26)) := bAlc (Below.refl _ _) _
  have q5 := Blk.new w1 26 #[.int .i64 g.k, .slice ta g.toks.length tc, .string g.sep, .slice na g.names.length nc, .int .i64 g.start, .slice pa g.prods.length pc]
  have hg2 := hg1.step hb2
  have hbw := bStep hb1 hb2
  clear hg1 hb2 hb1
  generalize w1.alloc (.cells #[.int .i64 g.k, .slice ta g.toks.length tc, .string g.sep, .slice na g.names.length nc, .int .i64 g.start, .slice pa g.prods.length pc] 26) = W1 at *
  generalize w1.heap.size = b5 at *
  have c3 := q5.cell 3
  simp only [List.getElem?_toArray, List.getElem?_cons_zero, List.getElem?_cons_succ] at c3
  have zw : IntKind.i64.wrap (16 + bm) = 16 + bm := IntWalk.i64_in _ (by omega)
  go_upto_region 3 with (go_at_call 8; refine (hMo.out _).mono ?_; rintro e w' ⟨rfl, rfl⟩)
  rw [← hsyd]
  replace hsyd := Lib.hid hsyd
  have c0 := q5.cell 0
  have c1 := q5.cell 1
  have c2 := q5.cell 2
  have c4 := q5.cell 4
  have c5 := q5.cell 5
  simp only [List.getElem?_toArray, List.getElem?_cons_zero, List.getElem?_cons_succ] at c0 c1 c2 c4 c5
  go_upto_region 4 with (go_at_call 9; refine (hOf.out ⟨ta, tc, na, nc, pa, pc⟩ _ hg2).mono ?_; rintro e w2 ⟨L, v2, rfl, hL, ho2, hb2⟩)
  obtain ⟨LA, lc, rfl, hrdL, _, _, _⟩ := ho2.reads
  obtain ⟨l1, l2, l3⟩ := fset_facts hsl'.out hL
  have q5b := q5.step hb2
  have hg3 := hg2.step hb2
  have hbx := bStep hbw hb2
  clear ho2 c0 c1 c2 c3 c4 c5 q5 hg2 hbw hb2
  have c0 := q5b.cell 0
  have c1 := q5b.cell 1
  have c2 := q5b.cell 2
  have c3 := q5b.cell 3
  have c4 := q5b.cell 4
  have c5 := q5b.cell 5
  simp only [List.getElem?_toArray, List.getElem?_cons_zero, List.getElem?_cons_succ] at c0 c1 c2 c3 c4 c5
  go_upto_region 7 with (go_at_call 20; refine (hUs.out ⟨ta, tc, na, nc, pa, pc⟩ _ hg3).mono ?_; rintro e w3 ⟨us, v3, rfl, ho3, ⟨hus, _⟩, hu144, hb3⟩)
  obtain ⟨UA, uc, rfl, hrdU, _, _⟩ := ho3.reads
  have hrdL3 := (hrdL.below hb3).mono hb3.size
  have q5c := q5b.step hb3
  have hg4 := hg3.step hb3
  have hby := bStep hbx hb3
  clear ho3 c0 c1 c2 c3 c4 c5 q5b hg3 hbx hb3 hrdL
  have hus' : Hid (UL g s us) := Lib.hid hus
  clear hus
  obtain ⟨Ln, hLn⟩ : ∃ Ln, Ln = L.length := ⟨_, rfl⟩
  rw [← hLn] at hrdL3 l3 ⊢
  replace hLn := Lib.hid hLn
  obtain ⟨un, hun⟩ : ∃ un, un = us.length := ⟨_, rfl⟩
  rw [← hun] at hrdU hu144 ⊢
  replace hun := Lib.hid hun
  have c4 := q5c.cell 4
  simp only [List.getElem?_toArray, List.getElem?_cons_zero, List.getElem?_cons_succ] at c4
  go_upto_if 47 with (fail)
  go_cut [11] (fun s11 wx => ∃ all : List Lk, AllO w3.heap.size s11 all wx ∧ Gath g s us 0 all ∧ Below w3.heap.size w3 wx)
  case first =>
    by_cases hst : s = g.start
    · have hG1 := Lib.hid (Gath.start1 (l := us) hst)
      have hsb : (s == g.start) = true := by simpa using hst
      clear hst
      go_wp2_with (at_builtin; refine wpList_pushL _ rfl _ _ rfl w3.heap.size _ [] rfl (OwnL.nil _ _) _ (Lk.of []) rfl (Blk.new _ _ _) (by simp) (by simp) ?_; intro v' w5 ho5 hg5 hat5 hb5)
      go_meet
      have hbb := hb5 w3 (bAlc (Below.refl _ _) _)
      exact ⟨_, ⟨ho5, hbb.size⟩, hG1.out, hbb⟩
    · have hG1 := Lib.hid (Gath.start0 (l := us) hst)
      have hsb : (s == g.start) = false := by simpa using hst
      clear hst
      go_wp2_with fail
      go_meet
      exact ⟨[], ⟨OwnL.nil _ _, Nat.le_refl _⟩, hG1.out, Below.refl _ _⟩
  case rest =>
    obtain ⟨all0, hoA0, hGa0, hbc⟩ := hcut
    have hGa0' := Lib.hid hGa0
    clear hGa0
    go_wp2_with fail
    go_loopg [11, 12] un (fun gk s11 s12 wr => ∃ (i : Nat) (all : List Lk), s12 = .int .i64 i ∧ i + gk = un ∧ Hid (Gath g s us i all) ∧ AllO w3.heap.size s11 all wr ∧ Below w3.heap.size w3 wr)
    case atStart => exact ⟨0, all0, rfl, by omega, hGa0', hoA0, hbc⟩
    case round =>
      clear hoA0 hGa0' hbc
      obtain ⟨i, all, rfl, hi, hGa, ⟨hoA, hsz⟩, hb⟩ := hrel
      replace hi := Lib.hid hi
      by_cases hin : i < un
      · have hil : i < us.length := by have := hun.out; omega
        have hui : us[i]? = some us[i] := List.getElem?_eq_getElem hil
        obtain ⟨qb, qoff, rfl, hqb, y0, y1⟩ := (hrdU.below hb).get hui
        obtain ⟨p, hp, hd⟩ := (hus'.out us[i]).1 (List.getElem_mem hil)
        generalize us[i] = u at *
        obtain ⟨pi, d⟩ := u
        dsimp only at y0 y1 hp hd
        have hdl := (List.getElem?_eq_some_iff.1 hd).1
        have hpr := hk'.out.pr p (List.mem_of_getElem? hp)
        have hr6 : p.right.length ≤ 6 := hpr.2.1
        obtain ⟨e1, he1⟩ : ∃ e1 : Nat, e1 = d + 1 := ⟨_, rfl⟩
        have zw2 : IntKind.i64.wrap ((d : Int) + 1) = (e1 : Int) := by rw [he1]; exact IntWalk.i64_in _ (by omega)
        have hBe' := Lib.hid (fun (W : World) (h : Below w3.heap.size w3 W) => hBe.out ⟨ta, tc, na, nc, pa, pc⟩ pi e1 p hp (by omega) W (hg4.step h))
        have hBM : Hid (∀ M, BSet g p e1 M → Hid (Gath g s us (i + 1) (all ++ M)) ∧ M.length ≤ 7) := Lib.hid fun M hM => by
          have h7 := bset_len hsl'.out (List.mem_of_getElem? hp) hM
          rw [he1] at hM
          exact ⟨Lib.hid (hGa.out.next h16 hus'.out hui hp hM h7), h7⟩
        have hal : all.length ≤ 1 + i * 7 := hGa.out.len
        have qw := q5c.step hb
        have c0 := qw.cell 0
        have c1 := qw.cell 1
        have c2 := qw.cell 2
        have c3 := qw.cell 3
        have c4 := qw.cell 4
        have c5 := qw.cell 5
        simp only [List.getElem?_toArray, List.getElem?_cons_zero, List.getElem?_cons_succ] at c0 c1 c2 c3 c4 c5
        have hAll : Hid (∀ w', Below wr.heap.size wr w' → w'.cell? ⟨qb, qoff + i * 2, none⟩ = some (.int .i64 pi) ∧ w'.cell? ⟨qb, qoff + i * 2 + 1, none⟩ = some (.int .i64 d) ∧ w'.cell? ⟨b5, 0, none⟩ = some (.int .i64 g.k) ∧ w'.cell? ⟨b5, 1, none⟩ = some (.slice ta g.toks.length tc) ∧ w'.cell? ⟨b5, 2, none⟩ = some (.string g.sep) ∧ w'.cell? ⟨b5, 3, none⟩ = some (.slice na g.names.length nc) ∧ w'.cell? ⟨b5, 4, none⟩ = some (.int .i64 g.start) ∧ w'.cell? ⟨b5, 5, none⟩ = some (.slice pa g.prods.length pc) ∧ Below wr.heap.size wr w') :=
          Lib.hid fun w' h => ⟨cell_later h y0, cell_later h y1, cell_later h c0, cell_later h c1, cell_later h c2, cell_later h c3, cell_later h c4, cell_later h c5, h⟩
        have hcb : Hid (∀ X, Below wr.heap.size wr X → Below w3.heap.size w3 X) := Lib.hid fun X h => bStep hb h
        have hOA : Hid (∀ W', Below wr.heap.size wr W' → OwnL W' w3.heap.size u11 all) := Lib.hid fun W' h => row_step hoA h
        have hz1 : (0 : Int) ≤ i := by omega
        have hz2 : (i : Int) < un := by omega
        have hin' := Lib.hid hin
        replace hui := Lib.hid hui
        replace hp := Lib.hid hp
        replace hd := Lib.hid hd
        replace hpr := Lib.hid hpr
        replace he1 := Lib.hid he1
        replace hal := Lib.hid hal
        clear y0 y1 c0 c1 c2 c3 c4 c5 qw hoA
        go_upto_region 13 with (fail)
        first | go_region_held3 (fun w' => w'.cell? ⟨qb, qoff + i * 2, none⟩ = some (.int .i64 pi) ∧ w'.cell? ⟨qb, qoff + i * 2 + 1, none⟩ = some (.int .i64 d) ∧ w'.cell? ⟨b5, 0, none⟩ = some (.int .i64 g.k) ∧ w'.cell? ⟨b5, 1, none⟩ = some (.slice ta g.toks.length tc) ∧ w'.cell? ⟨b5, 2, none⟩ = some (.string g.sep) ∧ w'.cell? ⟨b5, 3, none⟩ = some (.slice na g.names.length nc) ∧ w'.cell? ⟨b5, 4, none⟩ = some (.int .i64 g.start) ∧ w'.cell? ⟨b5, 5, none⟩ = some (.slice pa g.prods.length pc) ∧ Below wr.heap.size wr w')
          ((refine hAll.out _ ?_; (repeat (first | assumption | exact Below.refl _ _ | (refine bStep ?_ (by assumption)) | (with_reducible refine bAlc ?_ _) | (with_reducible refine bDrw ?_)))))
          ((go_at_call 22; refine (hBe'.out _ (hcb.out _ (by repeat (first | assumption | exact Below.refl _ _ | (refine bStep ?_ (by assumption)) | (with_reducible refine bAlc ?_ _) | (with_reducible refine bDrw ?_))))).mono ?_; rintro e w8 ⟨M, v8, rfl, hM, ho8, hb8⟩; obtain ⟨MA, mc, rfl, hrdM, _, _, _⟩ := ho8.reads; obtain ⟨hGn, hM7⟩ := hBM.out M hM; replace hM7 := Lib.hid hM7; clear ho8 hM)) | fail
        go_wp2_with (at_builtin; refine wpList_joinL _ rfl _ _ rfl w3.heap.size _ all rfl (hOA.out _ (by repeat (first | assumption | exact Below.refl _ _ | (refine bStep ?_ (by assumption)) | (with_reducible refine bAlc ?_ _) | (with_reducible refine bDrw ?_)))) _ MA M.length mc M rfl hrdM (by have := hal.out; have := hM7.out; have := hin'.out; omega) (Nat.le_trans hsz (Below.size (by repeat (first | assumption | exact Below.refl _ _ | (refine bStep ?_ (by assumption)) | (with_reducible refine bAlc ?_ _) | (with_reducible refine bDrw ?_))))) ?_; intro v' w9 ho9 hg9 hat9 hb9)
        go_roundg (un - (i + 1))
        case measure => have := hi.out; omega
        case rel => exact ⟨i + 1, all ++ M, by go_num, by have := hi.out; have := hin'.out; omega, hGn, ⟨ho9, (hb9 w3 (hcb.out _ (by repeat (first | assumption | exact Below.refl _ _ | (refine bStep ?_ (by assumption)) | (with_reducible refine bAlc ?_ _) | (with_reducible refine bDrw ?_))))).size⟩, hb9 w3 (hcb.out _ (by repeat (first | assumption | exact Below.refl _ _ | (refine bStep ?_ (by assumption)) | (with_reducible refine bAlc ?_ _) | (with_reducible refine bDrw ?_))))⟩
      · have hie : i = un := by have := hi.out; omega
        generalize wr = wE at *
        have hsub : Hid (∀ z ∈ all, z ∈ L) := Lib.hid fun z hz => (hL.2 z).2 (hGa.out.sub z hz)
        have hfull : Hid (∀ z ∈ L, z ∈ all) := Lib.hid fun z hz => by
          have hG := hGa.out
          rw [hie, hun.out] at hG
          exact hG.all h16 hus'.out ((hL.2 z).1 hz)
        have hal : all.length ≤ 1 + i * 7 := hGa.out.len
        have haw : Hid (∀ z ∈ all, z.wf) := Lib.hid fun z hz => l2 z (hsub.out z hz)
        obtain ⟨AA, ac, rfl, hrdA, _, _, _⟩ := hoA.reads
        obtain ⟨an, han⟩ : ∃ an, an = all.length := ⟨_, rfl⟩
        rw [← han] at hrdA hal ⊢
        have han8 : an ≤ 2000 := by omega
        have hgE := hg4.step hb
        have qE := q5c.step hb
        have hrdL4 := (hrdL3.below hb).mono hb.size
        have hbz := bStep hby hb
        replace hie := Lib.hid hie
        replace han := Lib.hid han
        clear hal hoA hrdU
        go_wp2_with fail
        go_loopg [15] an (fun gk s15 wt => ∃ j : Nat, s15 = .int .i64 j ∧ j + gk = an ∧ Below wE.heap.size wE wt)
        case atStart => exact ⟨0, rfl, by omega, Below.refl _ _⟩
        case round =>
          obtain ⟨j, rfl, hj, hbt⟩ := hrel
          replace hj := Lib.hid hj
          by_cases hjn : j < an
          · have hjl : j < all.length := by have := han.out; omega
            have hxj : all[j]? = some all[j] := List.getElem?_eq_getElem hjl
            obtain ⟨mb, moff, rfl, hmbt, x0, x1, x2, x3, x4⟩ := (hrdA.below hbt).get hxj
            have hxm : all[j] ∈ all := List.getElem_mem hjl
            generalize all[j] = x at *
            have hz1 : (0 : Int) ≤ j := by omega
            have hz2 : (j : Int) < an := by omega
            have hHas := Lib.hid (has_any LA Ln lc L x wr ((hrdL4.below hbt).mono hbt.size) l2 (haw.out x hxm) (by unfold maxLen; omega))
            rw [decide_eq_true (hsub.out x hxm)] at hHas
            unfold Lk.v at hHas
            replace hxj := Lib.hid hxj
            replace hxm := Lib.hid hxm
            go_wp2_with (go_at_call 15; refine hHas.out.mono ?_; rintro e w8 ⟨rfl, hb8⟩)
            go_roundg (an - (j + 1))
            case measure => have := hj.out; omega
            case rel => exact ⟨j + 1, by go_num, by have := hj.out; omega, bStep hbt hb8⟩
          · generalize wr = wF at *
            go_wp2_with fail
            go_loopg [16] Ln (fun gk s16 wu => ∃ k : Nat, s16 = .int .i64 k ∧ k + gk = Ln ∧ Below wE.heap.size wE wu)
            case atStart => exact ⟨0, rfl, by omega, hbt⟩
            case round =>
              clear hbt
              obtain ⟨k, rfl, hk, hbu⟩ := hrel
              replace hk := Lib.hid hk
              by_cases hkn : k < Ln
              · have hkl : k < L.length := by have := hLn.out; omega
                have hxk : L[k]? = some L[k] := List.getElem?_eq_getElem hkl
                obtain ⟨mb, moff, rfl, hmbt, x0, x1, x2, x3, x4⟩ := (hrdL4.below hbu).get hxk
                have hxm : L[k] ∈ L := List.getElem_mem hkl
                generalize L[k] = x at *
                have hz1 : (0 : Int) ≤ k := by omega
                have hz2 : (k : Int) < Ln := by omega
                have hHas := Lib.hid (has_any AA an ac all x wr ((hrdA.below hbu).mono hbu.size) haw.out (l2 x hxm) (by unfold maxLen; omega))
                rw [decide_eq_true (hfull.out x hxm)] at hHas
                unfold Lk.v at hHas
                replace hxk := Lib.hid hxk
                replace hxm := Lib.hid hxm
                go_wp2_with (go_at_call 15; refine hHas.out.mono ?_; rintro e w8 ⟨rfl, hb8⟩)
                go_roundg (Ln - (k + 1))
                case measure => have := hk.out; omega
                case rel => exact ⟨k + 1, by go_num, by have := hk.out; omega, bStep hbu hb8⟩
              · have qF := qE.step hbu
                have hgF := hgE.step hbu
                have hrdL5 := (hrdL4.below hbu).mono hbu.size
                have hbv := bStep hbz hbu
                have c0 := qF.cell 0
                have c1 := qF.cell 1
                have c2 := qF.cell 2
                have c3 := qF.cell 3
                have c4 := qF.cell 4
                have c5 := qF.cell 5
                simp only [List.getElem?_toArray, List.getElem?_cons_zero, List.getElem?_cons_succ] at c0 c1 c2 c3 c4 c5
                go_upto_region 28 with (go_at_call 18; refine (hEn.out ⟨ta, tc, na, nc, pa, pc⟩ _ hgF).mono ?_; rintro e w8 ⟨R, rfl, hR, hb8⟩; replace hR := Lib.hid hR)
                have hRd : decide (Lk.of [] ∈ L) = R := by
                  have h1 := (hL.2 (Lk.of [])).trans hR.out.symm
                  cases R
                  · exact decide_eq_false fun h => by cases h1.1 h
                  · exact decide_eq_true (h1.2 rfl)
                have hHas := Lib.hid (has_any LA Ln lc L (Lk.of []) w8 ((hrdL5.below hb8).mono hb8.size) l2 zero_wf (by unfold maxLen; omega))
                rw [hRd, show (Lk.of []).v = .agg #[.int .i64 0, .int .i64 0, .int .i64 0, .int .i64 0, .int .i64 0] from rfl] at hHas
                have qG := qF.step hb8
                have c4' := qG.cell 4
                simp only [List.getElem?_toArray, List.getElem?_cons_zero, List.getElem?_cons_succ] at c4'
                replace hRd := Lib.hid hRd
                by_cases hst : s = g.start
                · have hRt : R = true := hR.out.2 (by rw [hst]; exact .start)
                  subst hRt
                  have hsb : (s != g.start) = false := by simpa using hst
                  replace hst := Lib.hid hst
                  go_wp2_with (first
                    | (go_at_call 15; refine hHas.out.mono ?_; rintro e wh ⟨rfl, hbh⟩; have c4h := cell_later hbh c4')
                    | (go_at_call 13; refine (hAw.out _).mono ?_; rintro e wi ⟨rfl, hbi⟩))
                  go_ret
                  exact ⟨rfl, bStep (bStep (bStep hbv hb8) hbh) hbi⟩
                · have hsb : (s != g.start) = true := by simpa using hst
                  replace hst := Lib.hid hst
                  go_wp2_with (first
                    | (go_at_call 15; refine hHas.out.mono ?_; rintro e wh ⟨rfl, hbh⟩; have c4h := cell_later hbh c4')
                    | (go_at_call 13; refine (hAw.out _).mono ?_; rintro e wi ⟨rfl, hbi⟩))
                  go_ret
                  exact ⟨rfl, bStep (bStep (bStep hbv hb8) hbh) hbi⟩
end Go.Proofs.Ytnnkfgekiaaehaa
