/- The reference's Sum of a row of bytes answers the plain sum and changes nothing. Condition: the bytes lie in the cells. -/
import Derived.Test.YtelecohcidgjpaaSum
namespace Go.Proofs.Ytelecohcidgjpaa
open Go.RowKit

theorem rturn (s : BitVec 32) (b : Bool) : (CrcP.rstep s b).toNat = if b != decide (2147483648 ≤ s.toNat) then (2 * s.toNat % 4294967296) ^^^ 79764919 else 2 * s.toNat % 4294967296 := by
  unfold CrcP.rstep
  rw [BitVec.toNat_xor, BitVec.toNat_shiftLeft, BitVec.msb_eq_decide, Nat.shiftLeft_eq]
  show s.toNat * 2 ^ 1 % 2 ^ 32 ^^^ (if (b != decide (2147483648 ≤ s.toNat)) then 79764919#32 else 0#32).toNat = _
  rw [show s.toNat * 2 ^ 1 % 2 ^ 32 = 2 * s.toNat % 4294967296 by omega]
  by_cases h : (b != decide (2147483648 ≤ s.toNat)) = true
  · rw [if_pos h, if_pos h]; rfl
  · rw [if_neg h, if_neg h]; simp

/-- the bit that is taken, as the walk spells it -/
theorem bit_walk (c m : Nat) : (((c : Int) / 2 ^ (7 - m)).tmod 2 == 1) = CrcP.bitOf c m := by
  unfold CrcP.bitOf
  have e1 : ((c : Int) / 2 ^ (7 - m)) = ((c / 2 ^ (7 - m) : Nat) : Int) := by simp
  rw [e1]
  generalize c / 2 ^ (7 - m) = q
  rw [Int.tmod_eq_emod_of_nonneg (by omega), Bool.eq_iff_iff, beq_iff_eq, beq_iff_eq]
  omega

theorem rst_yes {l : List UInt8} {k v c : Nat} (hv : v = (CrcP.rst l k).toNat) (hc : c = (l.getD (k / 8) 0).toNat)
    (h : (!((((c : Int) / 2 ^ (7 - k % 8)).tmod 2 == 1) == decide ((2147483648 : Int) ≤ (v : Int)))) = true) :
    bits .xor .u32 (2 * (v : Int) % 4294967296) 79764919 = ((CrcP.rst l (k + 1)).toNat : Int) := by
  rw [bit_walk] at h
  have e : decide ((2147483648 : Int) ≤ (v : Int)) = decide (2147483648 ≤ v) := by rw [Bool.eq_iff_iff]; simp; omega
  have : (CrcP.bitOf c (k % 8) != decide (2147483648 ≤ v)) = true := by rw [e] at h; exact h
  rw [CrcP.rst, rturn, ← hv, ← hc, if_pos this, show 2 * (v : Int) % 4294967296 = ((2 * v % 4294967296 : Nat) : Int) by omega]
  exact bits_xor_u32 _ 79764919 (by omega) (by omega)

theorem rst_no {l : List UInt8} {k v c : Nat} (hv : v = (CrcP.rst l k).toNat) (hc : c = (l.getD (k / 8) 0).toNat)
    (h : (!((((c : Int) / 2 ^ (7 - k % 8)).tmod 2 == 1) == decide ((2147483648 : Int) ≤ (v : Int)))) = false) :
    (2 * (v : Int) % 4294967296) = ((CrcP.rst l (k + 1)).toNat : Int) := by
  rw [bit_walk] at h
  have e : decide ((2147483648 : Int) ≤ (v : Int)) = decide (2147483648 ≤ v) := by rw [Bool.eq_iff_iff]; simp; omega
  have : ¬ (CrcP.bitOf c (k % 8) != decide (2147483648 ≤ v)) = true := by rw [e] at h; intro h'; rw [bne, h] at h'; cases h'
  rw [CrcP.rst, rturn, ← hv, ← hc, if_neg this]
  omega

theorem rst_end (l : List UInt8) : (4294967295 - ((CrcP.rst l (8 * l.length)).toNat : Int)) = ((CrcP.sum l).toNat : Int) := by
  rw [← CrcP.rst_sum, BitVec.toNat_not]
  have := (CrcP.rst l (8 * l.length)).isLt
  omega

set_option maxHeartbeats 400000 in
theorem ref_any (b off cap : Nat) (l : List UInt8) (w : World) (hl : l.length ≤ 140737488351232) (hc : BytesAt w b off l) :
    Calls Try.prog 10 #[.slice (some ⟨b, off, none⟩) l.length cap] w fun e w' => e = .returned (.int .u32 ((CrcP.sum l).toNat : Int)) ∧ w' = w := by
  have HC := Lib.hid hc
  clear hc
  go_enter Try.func10, Try.ntmps10
  go_wp2
  go_loop [3, 4] (fun v i => ∃ k : Nat, k ≤ 8 * l.length ∧ i = .int .i64 k ∧ v = .int .u32 ((CrcP.rst l k).toNat : Int)) (fun _ i => 8 * l.length - (intOf i).toNat)
  case atStart => exact ⟨0, by omega, rfl, rfl⟩
  case round =>
    obtain ⟨k, hk, rfl, rfl⟩ := hrel
    by_cases hlt : k < 8 * l.length
    · have hcell := HC.out (k / 8) (by omega)
      obtain ⟨v, hv⟩ : ∃ v : Nat, v = (CrcP.rst l k).toNat := ⟨_, rfl⟩
      have hv32 : v < 4294967296 := by rw [hv]; exact (CrcP.rst l k).isLt
      rw [← hv]
      have HV := Lib.hid hv
      clear hv
      obtain ⟨c, hcd⟩ : ∃ c : Nat, c = (l.getD (k / 8) 0).toNat := ⟨_, rfl⟩
      have hc8 : c < 256 := by rw [hcd]; exact (l.getD (k / 8) 0).toNat_lt
      rw [← hcd] at hcell
      have HCD := Lib.hid hcd
      clear hcd
      go_wp2
      · go_round
        case rel => exact ⟨k + 1, by omega, by go_num, by rw [rst_yes HV.out HCD.out (by assumption)]⟩
        case measure => simp [intOf]; omega
      · go_round
        case rel => exact ⟨k + 1, by omega, by go_num, by rw [rst_no HV.out HCD.out (by assumption)]⟩
        case measure => simp [intOf]; omega
    · obtain rfl : k = 8 * l.length := by omega
      go_wp2
      go_ret
      exact ⟨by rw [← rst_end]; rfl, rfl⟩

theorem ref_none (a : Option Addr) (cap : Nat) (w : World) :
    Calls Try.prog 10 #[.slice a 0 cap] w fun e w' => e = .returned (.int .u32 0) ∧ w' = w := by
  go_enter Try.func10, Try.ntmps10
  go_wp2
  refine wp_loop_rounds 1 ?_
  rw [rounds_succ]
  go_wp2
  go_ret
  exact ⟨rfl, rfl⟩

end Go.Proofs.Ytelecohcidgjpaa
