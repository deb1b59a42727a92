/- The walk of CrcKnown: it returns true and changes nothing that was there. No condition. -/
import Derived.Test.YtelecohcidgjpaaTold
namespace Go.Proofs.Ytelecohcidgjpaa
open Go.RowKit

theorem sum1 : (((CrcP.sum [0]).toNat : Nat) : Int) = 2985771083 := by decide +kernel

set_option maxHeartbeats 400000 in
theorem known_walk (w : World) : Calls Try.prog 7 #[] w fun e w' => e = .returned (.bool true) ∧ Below w.heap.size w w' := by
  go_enter Try.func7, Try.ntmps7
  go_wp2_with fail
  refine (sum_none _ _ _).mono ?_
  rintro e w1 ⟨rfl, he⟩
  have hb1 : Below w.heap.size w w1 := by rw [he]; exact A3_below w
  clear he
  go_wp2_with fail
  refine (sum_at 1 _ _ _ [0] _ rfl (by decide) (bytes_new _ _ _ _ _ rfl)).mono ?_
  rintro e w2 ⟨rfl, he⟩
  rw [sum1]
  have hb2 : Below w.heap.size w w2 := by
    rw [he]
    have := hb1.size
    exact (hb1.alloc hb1.size _).trans ((A3_below _).mono (by simp; omega))
  clear he
  go_wp2_with fail
  refine (told_any _).mono ?_
  rintro e w3 ⟨rfl, hb3⟩
  have hb : Below w.heap.size w w3 := hb2.trans (hb3.mono hb2.size)
  clear hb3
  go_wp2_with fail
  go_ret
  exact ⟨rfl, hb⟩

end Go.Proofs.Ytelecohcidgjpaa
