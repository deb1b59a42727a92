/- crc.Sum of a row of bytes answers the plain sum; the world has three blocks more. Condition: the bytes lie in the cells. -/
import Derived.Test.YtelecohcidgjpaaNib
import Derived.Lib.Hide
namespace Go.Proofs.Ytelecohcidgjpaa
open Go.RowKit

/-- three blocks more -/
def A3 (w : World) : World := ((w.alloc (.cells adds 32)).alloc (.cells adds 32)).alloc (.cells adds 32)

/-- the cells of a row of bytes -/
def BytesAt (w : World) (b off : Nat) (l : List UInt8) : Prop := ∀ i, i < l.length → w.cell? ⟨b, off + i, none⟩ = some (.int .u8 ((l.getD i 0).toNat : Int))

theorem setRow_alloc (w : World) (t : TypeId) (cur vs : Array Value) : (w.alloc (.cells cur t)).setRow w.heap.size vs = w.alloc (.cells vs t) := by
  show ({ w with heap := (w.heap.push (.cells cur t)).modify w.heap.size _ } : World) = { w with heap := w.heap.push (.cells vs t) }
  congr 1
  apply Array.ext
  · simp
  · intro i h1 h2
    rw [Array.getElem_modify]
    by_cases e : w.heap.size = i
    · subst e; simp
    · rw [if_neg e, Array.getElem_push, Array.getElem_push]
      have : i < w.heap.size := by simp at h2; omega
      simp [this]

theorem store_new (P : Program) (w : World) (t : TypeId) (cur vs : Array Value) (h : vs.size = cur.size) (h1 : ∀ v ∈ vs.toList, v.oneCell' = true) :
    (storeCells ⟨w.heap.size, 0, none⟩ vs.toList).run P (w.alloc (.cells cur t)) = .ok () (w.alloc (.cells vs t)) := by
  rw [run_storeCells_at (P := P) w.heap.size 0 t vs.toList 0 cur _ (heap_alloc_new _ _) (by simp [h]) h1]
  have : (cur.toList.take (0 + 0) ++ vs.toList ++ cur.toList.drop (0 + 0 + vs.toList.length)).toArray = vs := by
    have : cur.toList.drop (0 + 0 + vs.toList.length) = [] := by simp [h]
    rw [this]; simp
  rw [this, setRow_alloc]

theorem adds_size : adds.size = 16 := rfl
theorem adds_one : ∀ v ∈ adds.toList, v.oneCell' = true := by
  intro v hv
  simp only [adds, List.mem_map] at hv
  obtain ⟨n, _, rfl⟩ := hv
  rfl

/-- a nibble's state, in numbers -/
def half (c j : Nat) : Nat := if j = 0 then c / 16 else c % 16
def nst (v c : Nat) : Nat → Nat
  | 0 => v
  | j + 1 => (CrcP.nib (BitVec.ofNat 32 (nst v c j)) (half c j)).toNat

theorem adds_cell (x : Nat) (hx : x < 16) : adds[x]? = some (.int .u32 ((CrcP.adds.getD x 0 : Nat) : Int)) := by
  have : CrcP.adds.length = 16 := rfl
  have h : x < CrcP.adds.length := by omega
  simp [adds, h]

theorem adds_lt (x : Nat) : CrcP.adds.getD x 0 < 4294967296 := by
  by_cases h : x < 16
  · have : ∀ x : Fin 16, CrcP.adds.getD x.val 0 < 4294967296 := by decide
    exact this ⟨x, h⟩
  · have : CrcP.adds.length = 16 := rfl
    simp [List.getD_eq_getElem?_getD, List.getElem?_eq_none (show CrcP.adds.length ≤ x by omega)]

theorem nst_lt (v c j : Nat) (hv : v < 4294967296) : nst v c j < 4294967296 := by
  cases j with
  | zero => exact hv
  | succ j => exact (CrcP.nib _ _).isLt

theorem bits_and15 (c : Nat) (hc : c < 256) : bits .and .u8 (c : Int) 15 = ((c % 16 : Nat) : Int) := by
  have : ∀ c : Fin 256, bits .and .u8 (c.val : Int) 15 = ((c.val % 16 : Nat) : Int) := by decide +kernel
  exact this ⟨c, hc⟩

/-- a nibble's turn, as the walk spells it -/
theorem nturn (v f : Nat) (hv : v < 4294967296) (hf : f < 16) :
    ∃ x : Nat, x < 16 ∧ bits .xor .u32 ((v : Int) / 268435456) (f : Int) = (x : Int) ∧
      bits .xor .u32 ((v : Int) * 16 % 4294967296) ((CrcP.adds.getD x 0 : Nat) : Int) = (((CrcP.nib (BitVec.ofNat 32 v) f).toNat : Nat) : Int) := by
  have hq : (v : Int) / 268435456 = ((v / 268435456 : Nat) : Int) := by omega
  refine ⟨(v / 268435456) ^^^ f, Nat.xor_lt_two_pow (n := 4) (by omega) (by omega), ?_, ?_⟩
  · rw [hq, bits_xor_u32 _ _ (by omega) (by omega)]
  · have e1 : (v : Int) * 16 % 4294967296 = ((v * 16 % 4294967296 : Nat) : Int) := by omega
    rw [e1, bits_xor_u32 _ _ (by omega) (adds_lt _)]
    congr 1
    unfold CrcP.nib
    rw [BitVec.toNat_xor, BitVec.toNat_shiftLeft, BitVec.toNat_ofNat, BitVec.toNat_ofNat, Nat.shiftLeft_eq, Nat.mod_eq_of_lt (show v < 2 ^ 32 by omega), Nat.mod_eq_of_lt (show CrcP.adds.getD (v / 2 ^ 28 ^^^ f) 0 < 2 ^ 32 from adds_lt _)]

theorem cell_A3_old {w : World} {b o : Nat} {v : Value} (h : w.cell? ⟨b, o, none⟩ = some v) : (A3 w).cell? ⟨b, o, none⟩ = some v := by
  have hb : b < w.heap.size := block_lt_of_cell h
  unfold A3
  rw [World.cell?_alloc_past _ _ _ (by simp; omega), World.cell?_alloc_past _ _ _ (by simp; omega), World.cell?_alloc_past _ _ _ hb, h]

theorem cell_A3_new (w : World) (x : Nat) (hx : x < 16) : (A3 w).cell? ⟨w.heap.size + 1 + 1, x, none⟩ = some (.int .u32 ((CrcP.adds.getD x 0 : Nat) : Int)) := by
  have h := heap_alloc_new ((w.alloc (.cells adds 32)).alloc (.cells adds 32)) (.cells adds 32)
  simp only [World.size_alloc] at h
  unfold A3
  rw [cell_of_row _ _ _ _ _ _ h, adds_cell x hx]

theorem index2 (x y : Value) (j : Nat) (hj : j < 2) (w : World) : (Instr.index 35 (.agg #[x, y]) (.int .i64 (j : Int))).run Try.prog w = .ok (if j = 0 then x else y) w := by
  have h0 : ∀ w, (Instr.index 35 (.agg #[x, y]) (.int .i64 0)).run Try.prog w = .ok x w := fun _ => by kernel_rfl
  have h1 : ∀ w, (Instr.index 35 (.agg #[x, y]) (.int .i64 1)).run Try.prog w = .ok y w := fun _ => by kernel_rfl
  match j, hj with
  | 0, _ => exact h0 w
  | 1, _ => exact h1 w

set_option maxHeartbeats 400000 in
theorem sum_any (b off cap : Nat) (l : List UInt8) (w : World) (hl : l.length ≤ 140737488351232) (hc : BytesAt w b off l) :
    Calls Try.prog 9 #[.slice (some ⟨b, off, none⟩) l.length cap] w fun e w' => e = .returned (.int .u32 ((CrcP.sum l).toNat : Int)) ∧ w' = A3 w := by
  have hst := store_new Try.prog ((w.alloc (.cells adds 32)).alloc (.cells adds 32)) 32 #[.int .u32 0, .int .u32 0, .int .u32 0, .int .u32 0, .int .u32 0, .int .u32 0, .int .u32 0, .int .u32 0, .int .u32 0, .int .u32 0, .int .u32 0, .int .u32 0, .int .u32 0, .int .u32 0, .int .u32 0, .int .u32 0] adds rfl adds_one
  simp only [World.size_alloc] at hst
  have hsz := adds_size
  have HC := Lib.hid hc
  clear hc
  go_enter Try.func9, Try.ntmps9
  go_wp2_with (go_at_call 11; refine (nib_any _).mono ?_; rintro e w' ⟨rfl, rfl⟩)
  clear hst hsz
  have HW : Hid (A3 w = ((w.alloc (.cells adds 32)).alloc (.cells adds 32)).alloc (.cells adds 32)) := Lib.hid rfl
  rw [← HW.out]
  clear HW
  have HT : Hid (∀ x, x < 16 → (A3 w).cell? ⟨w.heap.size + 1 + 1, x, none⟩ = some (.int .u32 ((CrcP.adds.getD x 0 : Nat) : Int))) := Lib.hid (cell_A3_new w)
  have HB : Hid (BytesAt (A3 w) b off l) := Lib.hid fun i hi => cell_A3_old (HC.out i hi)
  obtain ⟨W, hW⟩ : ∃ W, W = A3 w := ⟨_, rfl⟩
  rw [← hW] at HT HB ⊢
  have HE := Lib.hid hW
  clear hW
  go_loop [4, 12] (fun v i => ∃ k : Nat, k ≤ l.length ∧ i = .int .i64 k ∧ v = .int .u32 ((CrcP.st (l.take k) (BitVec.allOnes 32)).toNat : Int)) (fun _ i => l.length - (intOf i).toNat)
  case atStart => exact ⟨0, by omega, rfl, rfl⟩
  case round =>
    obtain ⟨k, hk, rfl, rfl⟩ := hrel
    by_cases hlt : k < l.length
    · have hcell := HB.out k hlt
      obtain ⟨v, hv⟩ : ∃ v : Nat, v = (CrcP.st (l.take k) (BitVec.allOnes 32)).toNat := ⟨_, rfl⟩
      have hv32 : v < 4294967296 := by rw [hv]; exact (CrcP.st (l.take k) (BitVec.allOnes 32)).isLt
      rw [← hv]
      have HV := Lib.hid hv
      clear hv
      obtain ⟨c, hcd⟩ : ∃ c : Nat, c = (l.getD k 0).toNat := ⟨_, rfl⟩
      have hc8 : c < 256 := by rw [hcd]; exact (l.getD k 0).toNat_lt
      rw [← hcd] at hcell
      have HCD := Lib.hid hcd
      clear hcd
      have hkl : l.length ≤ 140737488351232 := hl
      go_wp2
      go_loop [4, 21] (fun t i => ∃ j : Nat, j ≤ 2 ∧ i = .int .i64 j ∧ t = .int .u32 ((nst v c j : Nat) : Int)) (fun _ i => 2 - (intOf i).toNat)
      case atStart => exact ⟨0, by omega, rfl, rfl⟩
      case round =>
        obtain ⟨j, hj, rfl, rfl⟩ := hrel
        by_cases hjl : j < 2
        · have hix := fun W' => index2 (.int .u8 ((c : Int) / 16)) (.int .u8 ((c : Int) % 16)) j hjl W'
          have hhf : half c j < 16 := by unfold half; split <;> omega
          have ehf : (if j = 0 then Value.int .u8 ((c : Int) / 16) else Value.int .u8 ((c : Int) % 16)) = .int .u8 ((half c j : Nat) : Int) := by
            unfold half; split <;> simp
          rw [ehf] at hix
          clear ehf
          obtain ⟨t, ht⟩ : ∃ t : Nat, t = nst v c j := ⟨_, rfl⟩
          have ht32 : t < 4294967296 := by rw [ht]; exact nst_lt v c j hv32
          rw [← ht]
          obtain ⟨f, hf⟩ : ∃ f : Nat, f = half c j := ⟨_, rfl⟩
          rw [← hf] at hix hhf
          obtain ⟨x, hx16, hx1, hx2⟩ := nturn t f ht32 hhf
          have hN : Hid (((CrcP.nib (BitVec.ofNat 32 t) f).toNat : Nat) = nst v c (j + 1)) := by rw [ht, hf]; exact Lib.hid rfl
          clear ht hf
          have htab := HT.out x hx16
          go_wp2
          go_round
          case rel => exact ⟨j + 1, by omega, by go_num, by rw [List.getD_eq_getElem?_getD] at hx2; rw [hx2, hN.out]⟩
          case measure => simp [intOf]; omega
        · obtain rfl : j = 2 := by omega
          have hN : Hid (nst v c 2 = (CrcP.st (l.take (k + 1)) (BitVec.allOnes 32)).toNat) := by
            refine Lib.hid ?_
            rw [List.take_succ_eq_append_getElem hlt, CrcP.st_append]
            show (CrcP.nib (BitVec.ofNat 32 (CrcP.nib (BitVec.ofNat 32 v) (c / 16)).toNat) (c % 16)).toNat = (CrcP.step (CrcP.st (l.take k) (BitVec.allOnes 32)) l[k]).toNat
            rw [HV.out, BitVec.ofNat_toNat, BitVec.setWidth_eq, BitVec.ofNat_toNat, BitVec.setWidth_eq, ← CrcP.nib_step, HCD.out]
            simp [hlt]
          go_wp2
          go_round
          case rel => exact ⟨k + 1, by omega, by go_num, by rw [hN.out]⟩
          case measure => simp [intOf]; omega
    · obtain rfl : k = l.length := by omega
      obtain ⟨v, hv⟩ : ∃ v : Nat, v = (CrcP.st (l.take l.length) (BitVec.allOnes 32)).toNat := ⟨_, rfl⟩
      have hv32 : v < 4294967296 := by rw [hv]; exact (CrcP.st (l.take l.length) (BitVec.allOnes 32)).isLt
      rw [← hv]
      have HV := Lib.hid hv
      clear hv
      have hmax : bits .xor .u32 IntKind.u32.max (v : Int) = (((CrcP.sum l).toNat : Nat) : Int) := by
        show bits .xor .u32 ((4294967295 : Nat) : Int) (v : Int) = _
        rw [bits_xor_u32 _ _ (by omega) hv32, HV.out, List.take_length, CrcP.sum, ← BitVec.allOnes_xor, BitVec.toNat_xor]
        rfl
      go_wp2
      go_ret
      exact ⟨rfl, HE.out⟩

/-- of no bytes -/
theorem sum_none (a : Option Addr) (cap : Nat) (w : World) :
    Calls Try.prog 9 #[.slice a 0 cap] w fun e w' => e = .returned (.int .u32 0) ∧ w' = A3 w := by
  have hst := store_new Try.prog ((w.alloc (.cells adds 32)).alloc (.cells adds 32)) 32 #[.int .u32 0, .int .u32 0, .int .u32 0, .int .u32 0, .int .u32 0, .int .u32 0, .int .u32 0, .int .u32 0, .int .u32 0, .int .u32 0, .int .u32 0, .int .u32 0, .int .u32 0, .int .u32 0, .int .u32 0, .int .u32 0] adds rfl adds_one
  simp only [World.size_alloc] at hst
  have hsz := adds_size
  go_enter Try.func9, Try.ntmps9
  go_wp2_with (go_at_call 11; refine (nib_any _).mono ?_; rintro e w' ⟨rfl, rfl⟩)
  clear hst hsz
  refine wp_loop_rounds 1 ?_
  rw [rounds_succ]
  have hmax : bits .xor .u32 IntKind.u32.max 4294967295 = 0 := by decide +kernel
  go_wp2
  go_ret
  exact ⟨rfl, rfl⟩

end Go.Proofs.Ytelecohcidgjpaa
