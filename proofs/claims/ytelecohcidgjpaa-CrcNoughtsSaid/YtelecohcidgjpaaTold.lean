/- The law's helper 'told' returns true and changes nothing that was there. No condition. -/
import Derived.Test.YtelecohcidgjpaaRef
import Derived.Lib.SlBytesConst
namespace Go.Proofs.Ytelecohcidgjpaa
open Go.RowKit

theorem A3_below (w : World) : Below w.heap.size w (A3 w) :=
  (((Below.refl _ _).alloc (Nat.le_refl _) _).alloc (by simp) _).alloc (by simp; omega) _

theorem A3_size (w : World) : (A3 w).heap.size = w.heap.size + 3 := by simp [A3]

/-- a new block of bytes reads as it was laid -/
theorem bytes_new (w : World) (l : List UInt8) (cs : Array Value) (t : TypeId) (fr : Nat × Nat) (h : cs.toList = l.map fun c => .int .u8 (c.toNat : Int)) : BytesAt (w.alloc (.cells cs t fr)) w.heap.size 0 l := by
  intro i hi
  rw [cell_of_row _ _ _ _ _ _ (heap_alloc_new _ _), ← Array.getElem?_toList, h]
  simp [hi]

theorem sum_at (n : Nat) (b off cap : Nat) (l : List UInt8) (w : World) (hn : l.length = n) (hl : l.length ≤ 140737488351232) (hc : BytesAt w b off l) :
    Calls Try.prog 9 #[.slice (some ⟨b, off, none⟩) n cap] w fun e w' => e = .returned (.int .u32 ((CrcP.sum l).toNat : Int)) ∧ w' = A3 w := by
  subst hn; exact sum_any b off cap l w hl hc

theorem sum9 : (((CrcP.sum [49, 50, 51, 52, 53, 54, 55, 56, 57]).toNat : Nat) : Int) = 4236843288 := by decide +kernel
theorem sum4 : (((CrcP.sum [255, 255, 255, 255]).toNat : Nat) : Int) = 4294967295 := by decide +kernel

set_option maxHeartbeats 400000 in
theorem told_any (w : World) : Calls Try.prog 8 #[] w fun e w' => e = .returned (.bool true) ∧ Below w.heap.size w w' := by
  have kc := fun (w : World) (C : Array Value) (n c : Nat) => Lib.run_convert_bytes_const (P := Try.prog) w 22 5 C n c Try.underlying22 Try.underlying5
  go_enter Try.func8, Try.ntmps8
  go_wp2_with fail
  refine (sum_at 9 _ _ _ [49, 50, 51, 52, 53, 54, 55, 56, 57] _ rfl (by decide) (bytes_new _ _ _ _ _ rfl)).mono ?_
  rintro e w1 ⟨rfl, he⟩
  rw [sum9]
  have hb1 : Below w.heap.size w w1 := by
    rw [he]
    exact ((Below.refl _ _).alloc (Nat.le_refl _) _).trans ((A3_below _).mono (by simp))
  clear he
  go_wp2_with fail
  refine (sum_at 4 _ _ _ [255, 255, 255, 255] _ rfl (by decide) (bytes_new _ _ _ _ _ rfl)).mono ?_
  rintro e w2 ⟨rfl, he⟩
  rw [sum4]
  have hb2 : Below w.heap.size w w2 := by
    rw [he]
    have := hb1.size
    exact (hb1.alloc hb1.size _).trans ((A3_below _).mono (by simp; omega))
  clear he
  go_wp2_with fail
  go_ret
  exact ⟨rfl, hb2⟩

end Go.Proofs.Ytelecohcidgjpaa
