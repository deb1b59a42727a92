/- The program's table of sixteen numbers: what crc.nibbles answers. -/
import Derived.Test.YtelecohcidgjpaaRows
import Derived.Test.YtelecohcidgjpaaPlain
import Derived.WalkKit
import Derived.WalkSpells
import Derived.WalkLawsBesides
import Derived.Deep.Light
namespace Go.Proofs.Ytelecohcidgjpaa
open Go.RowKit

def Tj (k : Nat) : Nat → Nat
  | 0 => k * 268435456
  | j + 1 => CrcP.tN (Tj k j)

def C (k : Nat) : Array Value := ((List.range 16).map fun i => Value.int .u32 (if i < k then ((Tj i 4 : Nat) : Int) else 0)).toArray

/-- the table -/
def adds : Array Value := (CrcP.adds.map fun (n : Nat) => Value.int .u32 (n : Int)).toArray
theorem adds_eq : adds = #[.int .u32 0, .int .u32 79764919, .int .u32 159529838, .int .u32 222504665, .int .u32 319059676, .int .u32 398814059, .int .u32 445009330, .int .u32 507990021, .int .u32 638119352, .int .u32 583659535, .int .u32 797628118, .int .u32 726387553, .int .u32 890018660, .int .u32 835552979, .int .u32 1015980042, .int .u32 944750013] := rfl

theorem C_lt (k : Nat) (hk : k < 16) : (C k)[k]? = some (.int .u32 0) := by simp [C, hk]
theorem C_size (k : Nat) : (C k).size = 16 := by simp [C]

theorem C_succ (k : Nat) : (C k).setIfInBounds k (.int .u32 (Tj k 4 : Nat)) = C (k + 1) := by
  apply Array.ext
  · simp [C]
  · intro i h1 h2
    have hi : i < 16 := by simpa [C] using h2
    rw [Array.getElem_setIfInBounds (by simpa [C] using hi)]
    by_cases e : k = i
    · subst e; simp [C]
    · simp only [e, if_false]
      simp only [C, List.getElem_toArray, List.getElem_map, List.getElem_range]
      by_cases h : i < k
      · rw [if_pos h, if_pos (by omega)]
      · rw [if_neg h, if_neg (by omega)]

theorem C_0 : C 0 = #[.int .u32 0, .int .u32 0, .int .u32 0, .int .u32 0, .int .u32 0, .int .u32 0, .int .u32 0, .int .u32 0, .int .u32 0, .int .u32 0, .int .u32 0, .int .u32 0, .int .u32 0, .int .u32 0, .int .u32 0, .int .u32 0] := rfl

theorem C_16 : C 16 = adds := by
  have : (List.range 16).map (fun i => if i < 16 then (Tj i 4 : Nat) else 0) = CrcP.adds := by decide +kernel
  unfold adds
  rw [← this]
  rfl

theorem tN_lt (v : Nat) (h : v < 4294967296) : CrcP.tN v < 4294967296 := by
  unfold CrcP.tN
  split
  · omega
  · exact Nat.xor_lt_two_pow (n := 32) (by omega) (by omega)

theorem Tj_lt (k : Nat) (hk : k < 16) (j : Nat) : Tj k j < 4294967296 := by
  induction j with
  | zero => unfold Tj; omega
  | succ j ih => exact tN_lt _ ih

theorem bits_xor_u32 (a b : Nat) (ha : a < 4294967296) (hb : b < 4294967296) : bits .xor .u32 (a : Int) (b : Int) = ((a ^^^ b : Nat) : Int) := by
  have hx : a ^^^ b < 2 ^ 32 := Nat.xor_lt_two_pow (by omega) (by omega)
  have h1 : (BitVec.ofInt 32 (a : Int)).toNat = a := by
    rw [BitVec.ofInt_natCast, BitVec.toNat_ofNat]; exact Nat.mod_eq_of_lt (by omega)
  have h2 : (BitVec.ofInt 32 (b : Int)).toNat = b := by
    rw [BitVec.ofInt_natCast, BitVec.toNat_ofNat]; exact Nat.mod_eq_of_lt (by omega)
  show IntKind.u32.wrap ((BitVec.ofInt 32 (a : Int) ^^^ BitVec.ofInt 32 (b : Int)).toNat : Int) = _
  rw [BitVec.toNat_xor, h1, h2]
  simp [IntKind.wrap, IntKind.bits, IntKind.signed]
  omega

/-- one bit's turn, as the walk spells it -/
theorem turn (v : Nat) (hv : v < 4294967296) : bits .xor .u32 ((v : Int) * 2 % 4294967296) (79764919 * ((v : Int) / 2147483648) % 4294967296) = ((CrcP.tN v : Nat) : Int) := by
  unfold CrcP.tN
  by_cases h : v < 2147483648
  · have e1 : (v : Int) * 2 % 4294967296 = ((2 * v : Nat) : Int) := by omega
    have e2 : 79764919 * ((v : Int) / 2147483648) % 4294967296 = ((0 : Nat) : Int) := by omega
    rw [e1, e2, bits_xor_u32 _ _ (by omega) (by omega), if_pos h, Nat.xor_zero]
  · have e1 : (v : Int) * 2 % 4294967296 = ((2 * v - 4294967296 : Nat) : Int) := by omega
    have e2 : 79764919 * ((v : Int) / 2147483648) % 4294967296 = ((79764919 : Nat) : Int) := by omega
    rw [e1, e2, bits_xor_u32 _ _ (by omega) (by omega), if_neg h]


set_option maxHeartbeats 400000 in
theorem nib_any (w : World) :
    Calls Try.prog 11 #[] w fun e w' => e = .returned (.agg adds) ∧ w' = (w.alloc (.cells adds 32)).alloc (.cells adds 32) := by
  go_enter Try.func11, Try.ntmps11
  go_wp2
  go_loopw [4] (fun i wr => ∃ k : Nat, k ≤ 16 ∧ i = .int .i64 k ∧ wr = (w.alloc (.cells (C 0) 32)).alloc (.cells (C k) 32))
    (fun i _ => 16 - (intOf i).toNat)
  case atStart => exact ⟨0, Nat.zero_le _, rfl, rfl⟩
  case round =>
    obtain ⟨k, hk, rfl, rfl⟩ := hrel
    by_cases hlt : k < 16
    · have hCk := C_lt k hlt
      go_wp2
      go_loop [3, 10] (fun v i => ∃ j : Nat, j ≤ 4 ∧ i = .int .i64 j ∧ v = .int .u32 ((Tj k j : Nat) : Int)) (fun _ i => 4 - (intOf i).toNat)
      case atStart => exact ⟨0, by omega, rfl, by simp [Tj]⟩
      case round =>
        obtain ⟨j, hj, rfl, rfl⟩ := hrel
        by_cases hjl : j < 4
        · go_wp2
          go_round
          case rel => exact ⟨j + 1, by omega, by go_num, by rw [turn _ (Tj_lt k hlt j)]; rfl⟩
          case measure => simp [intOf]; omega
        · obtain rfl : j = 4 := by omega
          go_wp2
          go_roundw
          case rel => exact ⟨k + 1, by omega, by go_num, by rw [C_succ k]⟩
          case measure => simp [intOf]; omega
    · obtain rfl : k = 16 := by omega
      rw [C_16, C_0]
      rw [adds_eq]
      go_wp2
      rw [← adds_eq]
      exact bodyPost_ret (v := .agg adds) (results_cell_row (p := 0) (ty := 32) rfl _ _ w.heap.size 32 adds (0, 0) _ rfl (heap_alloc2_old w _ _) Try.underlying32 rfl (by kernel_rfl)) rfl ⟨rfl, rfl⟩

end Go.Proofs.Ytelecohcidgjpaa
