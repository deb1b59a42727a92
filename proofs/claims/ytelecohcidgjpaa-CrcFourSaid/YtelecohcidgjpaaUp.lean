/- A region that draws its order, whose calls may lay blocks of their own: one walk of the text's order serves every order. (Derived/Deep/Quiet.lean's theorem at the class 'as w0 was, below B'.) -/
import Derived.Test.YtelecohcidgjpaaBytes
import Derived.BigQuiet
namespace Go.Proofs.Ytelecohcidgjpaa
open Go.RowKit

/-- a world that is as w0 was below B -/
structure Up (B : Nat) (w0 : World) where
  w : World
  below : Below B w0 w

instance (B : Nat) (w0 : World) : Nonempty (Up B w0) := ⟨⟨w0, Below.refl _ _⟩⟩

theorem wp_region_up {P : Program} {id : Nat} {Q : Exit → Act → World → Prop} {a : Act} {w : World} {l : List Oper} (B : Nat) (w0 : World)
    (hm : P.follows .mixedOrders = true) (hB : Region.lexB .any l.toArray = true) (hw : Below B w0 w)
    (h : wpQuiet P l.toArray (fun w' => ∃ u : Up B w0, w' = u.w) (fun a' => ∀ w', (∃ u : Up B w0, w' = u.w) → Q .normal a' w') l a) : (Code.region id l.toArray true).wp P Q a w :=
  wp_region_quiet (C := fun w' => ∃ u : Up B w0, w' = u.w) hm hB ⟨⟨w.drew, hw.drew⟩, rfl⟩ (by simpa using h)

/-- a contract that lays blocks, met in such a world -/
theorem Calls.up {P : Program} {f : FuncId} {args : Array Value} {B : Nat} {w0 : World} (u : Up B w0) {v : Value} (hB : B ≤ u.w.heap.size)
    (h : Calls P f args u.w fun e w' => e = .returned v ∧ Below u.w.heap.size u.w w') : Calls P f args u.w fun e w'' => e = .returned v ∧ ∃ u' : Up B w0, w'' = u'.w :=
  h.mono fun _ w'' ⟨he, hb⟩ => ⟨he, ⟨w'', u.below.trans (hb.mono hB)⟩, rfl⟩

end Go.Proofs.Ytelecohcidgjpaa
