/- The sort of strings by a method value: the loop's plain law. -/
import Derived.Test.YtgfnajpmaaomnaaSe
import Derived.Test.YtgfnajpmaaomnaaSa
import Derived.Test.YtgfnajpmaaomnaaSq
namespace Go.Proofs.Ytgfnajpmaaomnaa
open Go.ChangeShapes Go.WideShapes Go.ChangeAt Go.RowKit
open Go.Sort (swp PermIn SortedIn permIn_refl permIn_trans permIn_mono permIn_all)
set_option linter.unusedVariables false

theorem ltB_asym {x y : ByteArray} (h : ltB x y = true) : ltB y x = false := by
  cases e : ltB y x with
  | false => rfl
  | true => exact absurd (swoB.trans _ _ _ h e) (by rw [swoB.irrefl]; simp)

/-- what pdqsort's loop keeps: [x, y) is still to be sorted -/
structure QInv (a b : Nat) (d dk : Array ByteArray) (x y : Nat) : Prop where
  ax : a ≤ x
  xy : x ≤ y
  yb : y ≤ b
  perm : PermIn a b d dk
  below : Go.Sort.Below ltB x y dk
  out : ∀ i j, a ≤ i → i < j → j < b → ¬ (x ≤ i ∧ j < y) → ltB dk[j]! dk[i]! = false

theorem QInv.size {a b x y : Nat} {d dk : Array ByteArray} (h : QInv a b d dk x y) : dk.size = d.size := h.perm.1

theorem QInv.start {a b : Nat} {d : Array ByteArray} (hab : a ≤ b) (h : Go.Sort.Below ltB a b d) : QInv a b d d a b :=
  ⟨Nat.le_refl _, hab, Nat.le_refl _, permIn_refl _ _ _, h, fun i j h1 h2 h3 h4 => absurd ⟨h1, h3⟩ h4⟩

theorem QInv.shuf {a b x y : Nat} {d dk dk' : Array ByteArray} (h : QInv a b d dk x y) (hb : b ≤ d.size) (hp : PermIn x y dk dk') : QInv a b d dk' x y := by
  have ax := h.ax
  have xy := h.xy
  have yb := h.yb
  have hs := h.size
  refine ⟨ax, xy, yb, permIn_trans d dk dk' a b h.perm (permIn_mono dk dk' x y a b ax yb (by omega) hp), h.below.permA permIn_all (by omega) hp, ?_⟩
  intro i j h1 h2 h3 h4
  by_cases hi : x ≤ i ∧ i < y
  · have hj : y ≤ j := by
      rcases Nat.lt_or_ge j y with g | g
      · exact absurd ⟨hi.1, g⟩ h4
      · exact g
    rw [hp.2.1 j (.inr hj)]
    exact permIn_all dk dk' x y (fun v => ltB dk[j]! v = false) (by omega) hp (fun k k1 k2 => h.out k j (by omega) (by omega) h3 (by omega)) i hi.1 hi.2
  · rw [hp.2.1 i (by omega)]
    by_cases hj : x ≤ j ∧ j < y
    · exact permIn_all dk dk' x y (fun v => ltB v dk[i]! = false) (by omega) hp (fun k k1 k2 => h.out i k h1 (by omega) (by omega) (by omega)) j hj.1 hj.2
    · rw [hp.2.1 j (by omega)]
      exact h.out i j h1 h2 h3 h4

theorem QInv.done {a b x y : Nat} {d dk : Array ByteArray} (h : QInv a b d dk x y) (hso : SortedIn ltB x y dk) : SortedIn ltB a b dk := by
  intro i j h1 h2 h3
  by_cases g : x ≤ i ∧ j < y
  · exact hso i j g.1 h2 g.2
  · exact h.out i j h1 h2 h3 g

theorem QInv.equal {a b x y mid : Nat} {d dk dk' : Array ByteArray} {P : ByteArray} (h : QInv a b d dk x y) (hb : b ≤ d.size) (hx : 0 < x) (hP : ltB dk[x - 1]! P = false) (he : EInv P x y dk dk' mid mid) : QInv a b d dk' mid y := by
  have h0 := h.shuf hb he.perm
  have ax := h.ax
  have xy := h.xy
  have yb := h.yb
  have xm := he.ai
  have my := he.Jb
  have hs := h.size
  have hall : ∀ k, x ≤ k → k < y → ltB dk'[k]! P = false := by
    intro k k1 k2
    rcases h0.below with hb | hb
    · omega
    · have h1 := hb k k1 k2
      rw [he.perm.2.1 (x - 1) (.inl (by omega))] at h1
      exact swoB.ntrans _ _ _ h1 hP
  have hlo : ∀ k, x ≤ k → k < mid → ltB P dk'[k]! = false := by
    intro k k1 k2
    by_cases e : k = x
    · rw [e, he.piv]; exact swoB.irrefl _
    · have := he.lo k (by omega) k2
      rwa [he.piv] at this
  refine ⟨by omega, my, yb, h0.perm, .inr ?_, ?_⟩
  · intro i h1 h2
    exact swoB.ntrans _ _ _ (hall i (by omega) h2) (hlo (mid - 1) (by omega) (by omega))
  · intro i j h1 h2 h3 h4
    by_cases g : x ≤ i ∧ j < y
    · exact swoB.ntrans _ _ _ (hall j (by omega) g.2) (hlo i g.1 (by omega))
    · exact h0.out i j h1 h2 h3 g

theorem QInv.left {a b x y mid : Nat} {d dk d' d3 : Array ByteArray} (h : QInv a b d dk x y) (hb : b ≤ d.size) (hd : PDone x y dk d' mid) (hp : PermIn x mid d' d3) (hso : SortedIn ltB x mid d3) : QInv a b d d3 (mid + 1) y := by
  have ax := h.ax
  have yb := h.yb
  have lo := hd.lo
  have hi := hd.hi
  have hs := h.size
  have hs' := hd.perm.1
  have h0 := (h.shuf hb hd.perm).shuf hb (permIn_mono d' d3 x mid x y (Nat.le_refl _) (by omega) (by omega) hp)
  have em : d3[mid]! = d'[mid]! := hp.2.1 mid (.inr (Nat.le_refl _))
  have hl : ∀ k, x ≤ k → k < mid → ltB d3[k]! d3[mid]! = true := by
    rw [em]
    exact permIn_all d' d3 x mid (fun v => ltB v d'[mid]! = true) (by omega) hp hd.less
  have hr : ∀ k, mid < k → k < y → ltB d3[k]! d3[mid]! = false := by
    intro k k1 k2
    rw [em, hp.2.1 k (.inr (by omega))]
    exact hd.rest k k1 k2
  refine ⟨by omega, by omega, yb, h0.perm, .inr ?_, ?_⟩
  · intro i h1 h2
    exact hr i (by omega) h2
  · intro i j h1 h2 h3 h4
    by_cases g : x ≤ i ∧ j < y
    · rcases Nat.lt_trichotomy j mid with c | c | c
      · exact hso i j g.1 h2 c
      · rw [c]; exact ltB_asym (hl i g.1 (by omega))
      · have him : i ≤ mid := by omega
        rcases Nat.lt_or_ge i mid with e | e
        · exact swoB.ntrans _ _ _ (hr j c g.2) (ltB_asym (hl i g.1 e))
        · have : i = mid := by omega
          rw [this]; exact hr j c g.2
    · exact h0.out i j h1 h2 h3 g

theorem QInv.belowL {a b x y mid : Nat} {d dk d' : Array ByteArray} (h : QInv a b d dk x y) (hb : b ≤ d.size) (hd : PDone x y dk d' mid) : Go.Sort.Below ltB x mid d' := by
  have h0 := h.shuf hb hd.perm
  have hi := hd.hi
  rcases h0.below with e | e
  · exact .inl e
  · exact .inr fun i h1 h2 => e i h1 (by omega)
theorem PDone.belowR {x y mid : Nat} {dk d' : Array ByteArray} (hd : PDone x y dk d' mid) : Go.Sort.Below ltB (mid + 1) y d' :=
  .inr fun i h1 h2 => hd.rest i (by omega) h2

theorem QInv.right {a b x y mid : Nat} {d dk d' d3 : Array ByteArray} (h : QInv a b d dk x y) (hb : b ≤ d.size) (hd : PDone x y dk d' mid) (hp : PermIn (mid + 1) y d' d3) (hso : SortedIn ltB (mid + 1) y d3) : QInv a b d d3 x mid := by
  have ax := h.ax
  have yb := h.yb
  have lo := hd.lo
  have hi := hd.hi
  have hs := h.size
  have hs' := hd.perm.1
  have h0 := (h.shuf hb hd.perm).shuf hb (permIn_mono d' d3 (mid + 1) y x y (by omega) (Nat.le_refl _) (by omega) hp)
  have em : d3[mid]! = d'[mid]! := hp.2.1 mid (.inl (by omega))
  have hr : ∀ k, mid < k → k < y → ltB d3[k]! d3[mid]! = false := by
    rw [em]
    intro k k1 k2
    exact permIn_all d' d3 (mid + 1) y (fun v => ltB v d'[mid]! = false) (by omega) hp (fun i i1 i2 => hd.rest i (by omega) i2) k (by omega) k2
  have hl : ∀ k, x ≤ k → k < mid → ltB d3[k]! d3[mid]! = true := by
    intro k k1 k2
    rw [em, hp.2.1 k (.inl (by omega))]
    exact hd.less k k1 k2
  refine ⟨ax, lo, by omega, h0.perm, ?_, ?_⟩
  · rcases h0.below with e | e
    · exact .inl e
    · exact .inr fun i h1 h2 => e i h1 (by omega)
  · intro i j h1 h2 h3 h4
    by_cases g : x ≤ i ∧ j < y
    · rcases Nat.lt_trichotomy i mid with c | c | c
      · rcases Nat.lt_or_ge mid j with e | e
        · exact swoB.ntrans _ _ _ (hr j e g.2) (ltB_asym (hl i g.1 c))
        · have : j = mid := by omega
          rw [this]; exact ltB_asym (hl i g.1 c)
      · rw [c]; exact hr j (by omega) g.2
      · exact hso i j (by omega) h2 g.2
    · exact h0.out i j h1 h2 h3 g

def PdqPost (w0 : World) (g : Nat) (d : Array ByteArray) (a b : Nat) (e : Ending) (w' : World) : Prop :=
  e = .returned (.tuple #[]) ∧ ∃ d', RowS w0 w' g d' ∧ PermIn a b d d' ∧ SortedIn ltB a b d'

theorem QInv.post {a b x y g : Nat} {d dk dk' : Array ByteArray} {w0 w : World} (h : QInv a b d dk x y) (hb : b ≤ d.size) (hp : PermIn x y dk dk') (hso : SortedIn ltB x y dk') (S : RowS w0 w g dk') : PdqPost w0 g d a b (.returned (.tuple #[])) w :=
  have h0 := h.shuf hb hp
  ⟨rfl, dk', S, h0.perm, h0.done hso⟩
end Go.Proofs.Ytgfnajpmaaomnaa
