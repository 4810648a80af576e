/- The walk of NameFresh. -/
import Derived.Test.YtgfnajpmaaomnaaFn
import Derived.Laws.AppendOwn
import Derived.OwnWalk
namespace Go.Proofs.Ytgfnajpmaaomnaa
open Go.ChangeShapes Go.WideShapes Go.ChangeAt Go.RowKit
set_option linter.unusedVariables false

/-- a slice of integers that came in: nil, or a row of cells, each fitting its kind -/
def IsInts (w : World) (a : Option Addr) (len cap : Nat) (zs : List Int) : Prop :=
  (a = none ∧ len = 0 ∧ cap = 0 ∧ zs = []) ∨
  ∃ x, a = some x ∧ len ≤ cap ∧ cap ≤ maxLen ∧ zs.length = cap ∧ (∀ i, i < zs.length → w.cell? (x.add i) = some (.int .i64 (zs.getD i 0))) ∧ ∀ n ∈ zs, (Lit.int .i64 n).wf = true

theorem ints_cell {w : World} {a : Option Addr} {len cap : Nat} {zs : List Int} (h : IsInts w a len cap zs) (i : Nat) (hi : i < len) :
    ∃ b off, a = some ⟨b, off, none⟩ ∧ w.cell? ⟨b, off + i, none⟩ = some (.int .i64 (zs.getD i 0)) ∧ (Lit.int .i64 (zs.getD i 0)).wf = true ∧ cap ≤ maxLen ∧ len ≤ cap := by
  rcases h with ⟨_, h, _, _⟩ | ⟨⟨b, off, spot⟩, rfl, h1, h2, h3, h4, h5⟩
  · omega
  · have hc := h4 i (by omega)
    have hc0 := h4 0 (by omega)
    have hs : spot = none := by simpa [Addr.add] using World.cell?_spot hc0
    subst hs
    refine ⟨b, off, rfl, ?_, h5 _ ?_, h2, h1⟩
    · cases i with
      | zero => simpa [Addr.add] using hc
      | succ i => simpa [Addr.add] using hc
    · rw [List.getD_eq_getElem?_getD, List.getElem?_eq_getElem (by omega)]; simp

theorem owns_reads {w : World} {base : Nat} {v : Value} {n : Nat} {l : List ByteArray} (h : w.ownsRow base 9 1 v n (l.map Value.string)) :
    ∃ a cap, v = .slice a n cap ∧ Reads w a n l := by
  obtain ⟨hl, h⟩ := h
  have hl' : l.length = n := by simpa using hl
  rcases h with ⟨rfl, rfl⟩ | ⟨g, cap, cur, rfl, _, hg, _, _, hsz, ht⟩
  · exact ⟨none, 0, rfl, hl'.symm, .inl rfl⟩
  · refine ⟨_, cap, rfl, hl'.symm, .inr ⟨g, 0, rfl, fun i hi => ?_⟩⟩
    have hgi : (cur.toList.take (n * 1))[i]? = (l.map Value.string)[i]? := by rw [ht]
    rw [List.getElem?_take, if_pos (by omega)] at hgi
    simp only [World.cell?, hg]
    rw [Array.getElem?_toList] at hgi
    simp only [Nat.zero_add]
    have hx : (l.map Value.string)[i]? = some (.string (l.getD i ByteArray.empty)) := by
      rw [List.getElem?_map, List.getElem?_eq_getElem hi, List.getD_eq_getElem?_getD, List.getElem?_eq_getElem hi]; rfl
    rw [hx] at hgi
    simpa using hgi

theorem own_block {w : World} {base e size n : Nat} {v : Value} {xs : List Value} (h : w.ownsRow base e size v n xs) : ∀ k, v.ownBlock = some k → base ≤ k := by
  intro k hk
  rcases h.2 with ⟨rfl, _⟩ | ⟨g, cap, cur, rfl, hg, _⟩
  · cases hk
  · cases hk; exact hg

theorem idx_none (s : ByteArray) (l : List ByteArray) (h : hasB s l = false) : idxF s l 0 = -1 := by
  rcases idxF_ge s l 0 with ⟨h1, _⟩ | ⟨_, _, h2⟩
  · exact h1
  · rw [h] at h2; cases h2

theorem fresh_facts (l : List ByteArray) (c : Bool) (h : l.length ≤ 100) : freshE l = 0 ∧ findE l (freshB l c) = 7 ∧ checkE (freshB l c) = 0 ∧ (freshB l c).size ≤ maxLen ∧ hasB (freshB l c) l = false := by
  obtain ⟨h1, h2, h3⟩ := fresh_spec l c h
  have e : freshB l c = mkB (freshN l c) c := by unfold freshB; rw [if_neg (by omega)]
  have hi := idx_none _ _ h3
  refine ⟨by unfold freshE; rw [if_neg (by omega)], ?_, by rw [e]; exact mk_check _ _ (by omega), by rw [e]; have := mk_size (freshN l c) c (by omega); unfold maxLen; omega, by rw [e]; exact h3⟩
  rw [e]; unfold findE; rw [if_neg (by omega), hi]; rfl

theorem fresh_two (l : List ByteArray) (c : Bool) (h : l.length ≤ 99) : ((freshB l c).toList == (freshB (l ++ [freshB l c]) c).toList) = false ∧ freshE (l ++ [freshB l c]) = 0 := by
  obtain ⟨h1, h2, h3⟩ := fresh_spec (l ++ [freshB l c]) c (by simp; omega)
  have e : freshB (l ++ [freshB l c]) c = mkB (freshN (l ++ [freshB l c]) c) c := by
    rw [freshB, if_neg (by simp; omega)]
  refine ⟨eqF _ _ fun he => ?_, by rw [freshE, if_neg (by simp; omega)]⟩
  rw [← e] at h3
  rw [← he] at h3
  have : hasB (freshB l c) (l ++ [freshB l c]) = true := (hasB_mem _ _).2 (by simp)
  rw [this] at h3; cases h3

theorem owns_below {w w' : World} {base e size n : Nat} {v : Value} {xs : List Value} (h : w.ownsRow base e size v n xs) (hb : Below w.heap.size w w') : w'.ownsRow base e size v n xs := by
  obtain ⟨h1, h2⟩ := h
  refine ⟨h1, ?_⟩
  rcases h2 with h2 | ⟨g, cap, cur, hv, hg, hh, r⟩
  · exact .inl h2
  · refine .inr ⟨g, cap, cur, hv, hg, ?_, r⟩
    have hlt : g < w.heap.size := by
      rcases Nat.lt_or_ge g w.heap.size with h | h
      · exact h
      · rw [Array.getElem?_eq_none h] at hh; cases hh
    rw [hb.block g hlt]; exact hh

theorem Try.info9 : (Try.prog.info? 9).map (fun i => (i.zero, i.size, i.bytes)) = some (some (.string ByteArray.empty), 1, 16) := by kernel_rfl

/-- the names made of the first k numbers -/
def nml (z : List Int) (c : Bool) (k : Nat) : List ByteArray := (List.range k).map fun i => mkB (z.getD i 0 % 25) c
theorem nml_succ (z : List Int) (c : Bool) (k : Nat) : nml z c (k + 1) = nml z c k ++ [mkB (z.getD k 0 % 25) c] := by
  simp [nml, List.range_succ]
theorem nml_len (z : List Int) (c : Bool) (k : Nat) : (nml z c k).length = k := by simp [nml]

theorem nf_same (m n : Nat) (c : Bool) (hm : m ≤ 9999) (hn : n ≤ 9999) : ((mkB m c).toList == (mkB n c).toList) = ((m : Int) == (n : Int)) := by
  by_cases h : m = n
  · subst h; simp
  · rw [eqF _ _ (fun e => h (mkB_inj m n c hm hn e))]
    symm; rw [beq_eq_false_iff_ne]; omega

set_option maxHeartbeats 2000000 in
theorem nf_walk (a b : Int) (s : Option Addr) (len cap : Nat) (z : List Int) (c : Bool) (w : World) (wa : (Lit.int .i64 a).wf = true) (wb : (Lit.int .i64 b).wf = true) (wz : IsInts w s len cap z) (hlen : len ≤ maxLen) :
    Calls Try.prog 8 #[.int .i64 a, .int .i64 b, .slice s len cap, .bool c] w fun e w' => e = .returned (.bool true) ∧ Below w.heap.size w w' := by
  obtain ⟨m, hm, hm9⟩ : ∃ m : Nat, a % 10000 = m ∧ m ≤ 9999 := ⟨(a % 10000).toNat, by omega, by omega⟩
  obtain ⟨n, hn, hn9⟩ : ∃ n : Nat, b % 10000 = n ∧ n ≤ 9999 := ⟨(b % 10000).toNat, by omega, by omega⟩
  have hS := nf_same m n c hm9 hn9
  have f1 := mk_small m c hm9
  have f2 := mk_cap m c hm9
  have f3 := mkE_ok m (by omega) (by omega)
  have f4 := mkE_ok n (by omega) (by omega)
  have f5 : (mkB m c).size ≤ maxLen := by have := mk_size m c hm9; unfold maxLen; omega
  replace f5 := Lib.hid f5
  generalize hs : mkB m c = S at hS f1 f2 f5
  generalize ht : mkB n c = T at hS
  replace hs := Lib.hid hs
  replace ht := Lib.hid ht
  replace hm := Lib.hid hm
  replace hn := Lib.hid hn
  replace wa := Lib.hid wa
  replace wb := Lib.hid wb
  replace wz := Lib.hid wz
  unfold maxLen at hlen
  have hk : Kept w w := Kept.refl w
  go_enter Try.func8, Try.ntmps8
  go_wp2_with fail
  refine (mod_any _ _ _ wa.out (by omega) (by omega)).mono ?_
  rintro e w' ⟨rfl, rfl⟩
  rw [hm.out]
  go_wp2_with fail
  refine (mod_any _ _ _ wb.out (by omega) (by omega)).mono ?_
  rintro e w' ⟨rfl, rfl⟩
  rw [hn.out]
  go_wp2_with fail
  refine (make_any _ _ _).mono ?_
  rintro e w' ⟨rfl, rfl⟩
  rw [hs.out, f3]
  go_wp2_with fail
  refine (make_any _ _ _).mono ?_
  rintro e w' ⟨rfl, rfl⟩
  rw [ht.out, f4]
  go_wp2_with fail
  refine (kept_of (cap_any _ _ f5.out) hk).mono ?_
  rintro e w1 ⟨rfl, hk1⟩
  rw [f2]
  go_wp2_with fail
  refine (kept_of (small_any _ _ f5.out) hk1).mono ?_
  rintro e w2 ⟨rfl, hk2⟩
  rw [f1]
  go_wp2_with fail
  obtain ⟨i0, hi, hz0, hz1, hz2⟩ := info_parts Try.info9
  go_loopg [15, 16] 20 (fun gk v i wr => ∃ k : Nat, i = .int .i64 k ∧ k ≤ len ∧ k + gk = 20 ∧ wr.ownsRow w.heap.size 9 1 v k ((nml z c k).map Value.string) ∧ Kept w wr)
  case atStart => exact ⟨0, rfl, Nat.zero_le _, rfl, ⟨rfl, .inl ⟨rfl, rfl⟩⟩, hk2⟩
  case round =>
    obtain ⟨k, rfl, hkl, hkg, hown, hkr⟩ := hrel
    have hpz : 0 ≤ (k : Int) := by omega
    replace hown := Lib.hid hown
    replace hkr := Lib.hid hkr
    by_cases hlt : k < len ∧ k < 20
    · obtain ⟨h1, h2⟩ := hlt
      obtain ⟨bb, off, rfl, hcell, hwf, hcap, hlc⟩ := ints_cell wz.out k h1
      have hcw : wr.cell? ⟨bb, off + k, none⟩ = some (.int .i64 (z.getD k 0)) := cell_later hkr.out hcell
      obtain ⟨q, hq, hq9⟩ : ∃ q : Nat, z.getD k 0 % 25 = q ∧ q ≤ 9999 := ⟨(z.getD k 0 % 25).toNat, by omega, by omega⟩
      have hqe := mkE_ok q (by omega) (by omega)
      replace hq := Lib.hid hq
      have hSn := Lib.hid (nml_succ z c k)
      rw [hq.out] at hSn
      generalize hX : mkB (q : Int) c = X at hSn
      replace hX := Lib.hid hX
      replace hqe := Lib.hid hqe
      generalize z.getD k 0 = zk at *
      replace hwf := Lib.hid hwf
      clear hcell hcap hlc hk1 hk2 hk
      go_wp2_with fail
      refine (mod_any _ _ _ hwf.out (by omega) (by omega)).mono ?_
      rintro e w' ⟨rfl, rfl⟩
      rw [hq.out]
      go_wp2_with fail
      refine (make_any _ _ _).mono ?_
      rintro e w' ⟨rfl, rfl⟩
      rw [hX.out, hqe.out]
      have hoa := hown.out
      go_wp2_with (at_builtin; refine wpList_append_own _ rfl _ _ 37 rfl w.heap.size 9 i0 (.string ByteArray.empty) 1 16 Try.underlying37 hi hz0 hz1 hz2 rfl (by decide) _ _ _ rfl (hoa.alloc _) ⟨wr.heap.size, 0, none⟩ 1 1 [.string X] rfl rfl ?c1 ?c2 ?c3 ?c4 ?c5 ?_)
      case c1 => exact cell_one_new _ _ _
      case c2 => simp [Value.oneCell']
      case c3 => unfold maxLen; omega
      case c4 => omega
      case c5 => have := hkr.out.size; simp; omega
      intro v' w' hown' hgrow hne
      have hkr2 : Kept w w' := Below.grown (Below.alloc hkr.out hkr.out.size _) hgrow (by have := hkr.out.size; simp; omega) (own_block hown.out)
      replace hgrow := Lib.hid hgrow
      replace hown' := Lib.hid hown'
      replace hkr2 := Lib.hid hkr2
      clear hoa
      go_wp2_with fail
      go_roundg (20 - (k + 1))
      case measure => omega
      case rel => exact ⟨k + 1, by go_num, by omega, by omega, by rw [hSn.out]; simpa using hown'.out, hkr2.out⟩
    · have hk20 : k ≤ 20 := by omega
      obtain ⟨ra, rcap, rfl, hrd⟩ := owns_reads hown.out
      have hnl := nml_len z c k
      generalize hL : nml z c k = L at *
      obtain ⟨e1, e2, e3, e4, e5⟩ := fresh_facts L c (by omega)
      obtain ⟨e6, e7⟩ := fresh_two L c (by omega)
      generalize hX : freshB L c = X at *
      generalize hY : freshB (L ++ [X]) c = Y at *
      replace hX := Lib.hid hX
      replace hY := Lib.hid hY
      replace hrd := Lib.hid hrd
      replace e4 := Lib.hid e4
      replace e1 := Lib.hid e1
      replace e2 := Lib.hid e2
      replace e7 := Lib.hid e7
      clear hL e5 hnl
      have hex : (k < len ∧ (k : Int) < 20 → False) := fun h => hlt ⟨h.1, by omega⟩
      by_cases h1 : k < len
      all_goals
        go_wp2_with fail
        refine (fresh_any _ _ _ _ _ _ hrd.out (by omega)).mono ?_
        rintro e wa ⟨rfl, rfl⟩
        rw [hX.out, e1.out]
        go_wp2_with fail
        refine (find_any _ _ _ _ _ _ hrd.out (by omega)).mono ?_
        rintro e wf ⟨rfl, hbf⟩
        rw [e2.out]
        have hof := owns_below hown.out hbf
        have hkf : Kept w wf := hkr.out.trans (hbf.mono hkr.out.size)
        replace hbf := Lib.hid hbf
        replace hkf := Lib.hid hkf
        go_wp2_with (at_builtin; refine wpList_append_own _ rfl _ _ 37 rfl w.heap.size 9 i0 (.string ByteArray.empty) 1 16 Try.underlying37 hi hz0 hz1 hz2 rfl (by decide) _ _ _ rfl (hof.alloc _) ⟨wf.heap.size, 0, none⟩ 1 1 [.string X] rfl rfl ?c1 ?c2 ?c3 ?c4 ?c5 ?_)
        case c1 => exact cell_one_new _ _ _
        case c2 => simp [Value.oneCell']
        case c3 => unfold maxLen; omega
        case c4 => omega
        case c5 => have := hkf.out.size; simp; omega
        intro v' w' hown' hgrow hne
        have hkw : Kept w w' := Below.grown (Below.alloc hkf.out hkf.out.size _) hgrow (by have := hkf.out.size; simp; omega) (own_block hof)
        have hown2 : w'.ownsRow w.heap.size 9 1 v' (k + 1) ((L ++ [X]).map Value.string) := by simpa using hown'
        obtain ⟨rb, rcap2, rfl, hrd2⟩ := owns_reads hown2
        clear hown' hgrow hne hown2 hof
        replace hrd2 := Lib.hid hrd2
        go_wp2_with fail
        refine (fresh_any _ _ _ _ _ _ hrd2.out (by omega)).mono ?_
        rintro e wa ⟨rfl, rfl⟩
        rw [hY.out, e7.out]
        go_wp2_with fail
        refine (kept_of (check_any _ _ e4.out) hkw).mono ?_
        rintro e wc ⟨rfl, hkc⟩
        rw [e3]
        go_wp2_with fail
        refine (kept_of (awake03 _) hkc).mono ?_
        rintro e wd ⟨rfl, hkd⟩
        go_wp2_with fail
        go_ret
        exact ⟨rfl, hkd⟩

theorem nameFresh_walk (a b : Int) (s : Option Addr) (len cap : Nat) (z : List Int) (c : Bool) (w : World) (wa : (Lit.int .i64 a).wf = true) (wb : (Lit.int .i64 b).wf = true) (wz : IsInts w s len cap z) :
    Calls Try.prog 8 #[.int .i64 a, .int .i64 b, .slice s len cap, .bool c] w fun e w' => e = .returned (.bool true) ∧ Below w.heap.size w w' := by
  refine nf_walk a b s len cap z c w wa wb wz ?_
  rcases wz with ⟨_, rfl, _, _⟩ | ⟨_, _, h1, h2, _⟩
  · exact Nat.zero_le _
  · exact Nat.le_trans h1 h2
end Go.Proofs.Ytgfnajpmaaomnaa
