/- A region that draws its order, whose calls may lay blocks of their own: one walk of the text's order serves every order. (Derived/Deep/Quiet.lean's theorem at the class 'as w0 was, below B'.) -/
import Derived.Test.YtjnhkfjhkhbneaaWakes
import Derived.BigQuiet
namespace Go.Proofs.Ytjnhkfjhkhbneaa
open Go.RowKit SpanP

/-- a world that is as w0 was below B -/
structure Up (B : Nat) (w0 : World) where
  w : World
  below : Below B w0 w

instance (B : Nat) (w0 : World) : Nonempty (Up B w0) := ⟨⟨w0, Below.refl _ _⟩⟩

theorem wp_region_up {P : Program} {id : Nat} {Q : Exit → Act → World → Prop} {a : Act} {w : World} {l : List Oper} (B : Nat) (w0 : World)
    (hm : P.follows .mixedOrders = true) (hB : Region.lexB .any l.toArray = true) (hw : Below B w0 w)
    (h : wpQuiet P l.toArray (fun w' => ∃ u : Up B w0, w' = u.w) (fun a' => ∀ w', (∃ u : Up B w0, w' = u.w) → Q .normal a' w') l a) : (Code.region id l.toArray true).wp P Q a w :=
  wp_region_quiet (C := fun w' => ∃ u : Up B w0, w' = u.w) hm hB ⟨⟨w.drew, hw.drew⟩, rfl⟩ (by simpa using h)

/-- a contract that lays blocks, met in such a world -/
theorem Calls.up {P : Program} {f : FuncId} {args : Array Value} {B : Nat} {w0 : World} (u : Up B w0) {v : Value} (hB : B ≤ u.w.heap.size)
    (h : Calls P f args u.w fun e w' => e = .returned v ∧ Below u.w.heap.size u.w w') : Calls P f args u.w fun e w'' => e = .returned v ∧ ∃ u' : Up B w0, w'' = u'.w :=
  h.mono fun _ w'' ⟨he, hb⟩ => ⟨he, ⟨w'', u.below.trans (hb.mono hB)⟩, rfl⟩
/-- a contract that lays none -/
theorem Calls.same {P : Program} {f : FuncId} {args : Array Value} {B : Nat} {w0 : World} (u : Up B w0) {v : Value}
    (h : Calls P f args u.w fun e w' => e = .returned v ∧ u.w = w') : Calls P f args u.w fun e w'' => e = .returned v ∧ ∃ u' : Up B w0, w'' = u'.w :=
  h.mono fun _ _ ⟨he, hb⟩ => ⟨he, u, hb.symm⟩

/-- a span that lies in a block of its own, in every such world -/
theorem Up.cell0 {w0 : World} {g : Nat} {x y : Value} (h : w0.heap[g]? = some (.cells #[x, y] 23)) (u : Up w0.heap.size w0) : u.w.cell? ⟨g, 0, none⟩ = some x := by
  rw [cell_of_row _ _ _ _ _ _ (heap_keep u.below h)]; rfl
theorem Up.cell1 {w0 : World} {g : Nat} {x y : Value} (h : w0.heap[g]? = some (.cells #[x, y] 23)) (u : Up w0.heap.size w0) : u.w.cell? ⟨g, 1, none⟩ = some y := by
  rw [cell_of_row _ _ _ _ _ _ (heap_keep u.below h)]; rfl

/-! contracts whose answers bear names -/
theorem and_as (f1 t1 f2 t2 F T : Int) (hF : andF f1 t1 f2 t2 = F) (hT : andT f1 t1 f2 t2 = T) (w : World) : Calls Try.prog 13 #[.agg #[.int .i64 f1, .int .i64 t1], .agg #[.int .i64 f2, .int .i64 t2]] w fun e w' => e = .returned (.agg #[.int .i64 F, .int .i64 T]) ∧ Below w.heap.size w w' := by
  rw [← hF, ← hT]; exact and_any f1 t1 f2 t2 w
theorem has_as (f t x : Int) (b : Bool) (h : hasB f t x = b) (w : World) : Calls Try.prog 14 #[.agg #[.int .i64 f, .int .i64 t], .int .i64 x] w fun e w' => e = .returned (.bool b) ∧ Below w.heap.size w w' := by
  rw [← h]; exact has_any f t x w
theorem empty_as (f t : Int) (b : Bool) (h : emptyB f t = b) (w : World) : Calls Try.prog 15 #[.agg #[.int .i64 f, .int .i64 t]] w fun e w' => e = .returned (.bool b) ∧ Below w.heap.size w w' := by
  rw [← h]; exact (empty_ex f t w).mono fun _ _ ⟨he, hw⟩ => ⟨he, by rw [hw]; exact (Below.refl _ _).alloc (Nat.le_refl _) _⟩

end Go.Proofs.Ytjnhkfjhkhbneaa
