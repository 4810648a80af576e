/- A region that draws its order, whose operations only read, and whose callees may lay blocks of their own: walked once, in the text's order, over the class of the worlds that keep what was there. -/
import Derived.Test.YtgfnajpmaaomnaaTw
namespace Go.Proofs.Ytgfnajpmaaomnaa
open Go.RowKit

/-- a world that keeps what is in w -/
structure KeptBy (w : World) where
  world : World
  kept : Below w.heap.size w world

def KeptBy.self (w : World) : KeptBy w := ⟨w, Below.refl _ _⟩
instance (w : World) : Inhabited (KeptBy w) := ⟨KeptBy.self w⟩
def KeptBy.next {w : World} (p : KeptBy w) {w' : World} (h : Below p.world.heap.size p.world w') : KeptBy w := ⟨w', p.kept.trans (h.mono p.kept.size)⟩

theorem wp_region_kept {P : Program} {id : Nat} {Q : Exit → Act → World → Prop} {a : Act} {w : World} {l : List Oper} (hm : P.follows .mixedOrders = true) (hB : Region.lexB .any l.toArray = true)
    (h : wpQuiet P l.toArray (fun w' => ∃ p : KeptBy w, w' = p.world) (fun a' => ∀ w', (∃ p : KeptBy w, w' = p.world) → Q .normal a' w') l a) : (Code.region id l.toArray true).wp P Q a w :=
  wp_region_quiet (C := fun w' => ∃ p : KeptBy w, w' = p.world) hm hB ⟨⟨w.drew, (Below.refl _ _).drew⟩, rfl⟩ (by simpa using h)

/-- a callee's contract, met in a world of the class -/
theorem Calls.kept_by {P : Program} {f : FuncId} {args : Array Value} {w : World} {p : KeptBy w} {v : Value}
    (h : Calls P f args p.world fun e w' => e = .returned v ∧ Below p.world.heap.size p.world w') : Calls P f args p.world fun e w'' => e = .returned v ∧ ∃ q : KeptBy w, w'' = q.world :=
  h.mono fun _ _ ⟨he, hb⟩ => ⟨he, p.next hb, rfl⟩
theorem Calls.kept_same {P : Program} {f : FuncId} {args : Array Value} {w : World} {p : KeptBy w} {v : Value}
    (h : Calls P f args p.world fun e w' => e = .returned v ∧ p.world = w') : Calls P f args p.world fun e w'' => e = .returned v ∧ ∃ q : KeptBy w, w'' = q.world :=
  h.mono fun _ _ ⟨he, hb⟩ => ⟨he, p, hb.symm⟩
theorem Calls.kept_draw {P : Program} {f : FuncId} {args : Array Value} {w : World} {p : KeptBy w} {v : Value}
    (h : Calls P f args p.world fun e w' => e = .returned v ∧ ∃ k, w' = p.world.drewN k) : Calls P f args p.world fun e w'' => e = .returned v ∧ ∃ q : KeptBy w, w'' = q.world :=
  h.mono fun _ _ ⟨he, k, hb⟩ => ⟨he, p.next (below_drewN (Below.refl _ _) k), hb⟩

theorem cell_kept {w : World} {a : Addr} {v : Value} (h : w.cell? a = some v) (p : KeptBy w) : p.world.cell? a = some v := cell_later p.kept h
end Go.Proofs.Ytgfnajpmaaomnaa
