/- The walk of CrcNoughts: it returns true and changes nothing that was there. Conditions: the slice reads as bytes; the two numbers fit their kind. -/
import Derived.Test.YtelecohcidgjpaaBytes
namespace Go.Proofs.Ytelecohcidgjpaa
open Go.RowKit

/-- bytes 0, made by the call -/
theorem made_noughts (k : Nat) : (madeCells (Value.int .u8 0).cells (k * 1)).toList = cellsOf (List.replicate k 0) := by
  unfold madeCells cellsOf
  apply List.ext_getElem
  · simp
  · intro i h1 h2
    simp [Value.cells, Nat.mod_one]

theorem wpl_make {ops : Array Oper} {rest : List Oper} {o : Oper} {a : Act} {w : World} {Q : Exit → Act → World → Prop} (hg : o.guard = none) (l c : Operand) (hop : o.op = Op.makeSlice 22 l c)
    (L : Int) (k : Nat) (hl : a.eval l = .int .i64 L) (hc : a.eval c = .int .i64 L) (hL : L = (k : Int)) (hk : k ≤ 140737488351232)
    (hK : ∀ w', w'.ownsRow w.heap.size 5 1 (.slice (some ⟨w.heap.size, 0, none⟩) k k) k (cellsOf (List.replicate k 0)) → w.grownBy w' none → wpList Try.prog ops Q rest (a.put o.dst (.slice (some ⟨w.heap.size, 0, none⟩) k k)) w') :
    wpList Try.prog ops Q (o :: rest) a w := by
  obtain ⟨i0, hi, hz0, hz1, hz2⟩ := info_parts Try.info5
  refine wpList_make_full w hg l c 22 hop w.heap.size 5 i0 (.int .u8 0) 1 Try.underlying22 hi hz0 hz1 .i64 .i64 L L k hl hc hL hL (by rw [hz2]; omega) (by unfold maxLen; omega) (Nat.le_refl _) ?_
  intro w' h1 h2
  rw [made_noughts] at h1
  exact hK w' h1 h2

theorem own_shape {w : World} {base : Nat} {e : TypeId} {size : Nat} {v : Value} {n : Nat} {xs : List Value} (h : w.ownsRow base e size v n xs) : ∃ ad cap, v = .slice ad n cap := by
  rcases h.2 with ⟨rfl, rfl⟩ | ⟨g, cap, cur, rfl, _⟩
  · exact ⟨none, 0, rfl⟩
  · exact ⟨_, cap, rfl⟩

set_option maxHeartbeats 400000 in
theorem noughts_walk (a0 : Option Addr) (n0 c0 : Nat) (l0 : List UInt8) (e0 : l0.length = n0) (x y : Int) (w : World)
    (h0 : RB w (.slice a0 n0 c0) l0) (wx : (Lit.int .u16 x).wf = true) (wy : (Lit.int .u16 y).wf = true) (b0 : n0 ≤ 140737488351232) :
    Calls Try.prog 6 #[.slice a0 n0 c0, .int .u16 x, .int .u16 y] w fun e w' => e = .returned (.bool true) ∧ Below w.heap.size w w' := by
  have bx : 0 ≤ x ∧ x ≤ 65535 := by simpa [Lit.wf, IntKind.min, IntKind.max, IntKind.signed, IntKind.bits] using wx
  have bY : 0 ≤ y ∧ y ≤ 65535 := by simpa [Lit.wf, IntKind.min, IntKind.max, IntKind.signed, IntKind.bits] using wy
  clear wx wy
  obtain ⟨X, rfl⟩ : ∃ X : Nat, x = (X : Int) := ⟨x.toNat, by omega⟩
  obtain ⟨Y, rfl⟩ : ∃ Y : Nat, y = (Y : Int) := ⟨y.toNat, by omega⟩
  have H0 := Lib.hid h0
  have E0 := Lib.hid e0
  clear h0 e0
  by_cases t : n0 ≤ 1000
  · obtain ⟨s0, k0⟩ : ∃ s : Int, s = ((CrcP.sum (List.replicate (X % 3001) 0 ++ l0)).toNat : Int) := ⟨_, rfl⟩
    obtain ⟨s1, k1⟩ : ∃ s : Int, s = ((CrcP.sum (List.replicate (Y % 3001) 0 ++ l0)).toNat : Int) := ⟨_, rfl⟩
    have hlaw : ((s0 == s1) == (((X : Int) % 3001 + (l0.length : Int)) == ((Y : Int) % 3001 + (l0.length : Int)))) = true := by
      rw [k0, k1, sum_beq]
      have h := CrcP.sum_noughts (n := X % 3001) (m := Y % 3001) (by omega) (by omega) l0
      rw [beq_iff_eq, Bool.eq_iff_iff, decide_eq_true_iff, h, beq_iff_eq]
      omega
    have K0 := Lib.hid k0
    have K1 := Lib.hid k1
    clear k0 k1
    have z0 : l0.length ≤ 1000 := by rw [E0.out]; exact t
    go_enter Try.func6, Try.ntmps6
    go_wp2_with (first
      | (at_make; refine wpl_make rfl (.tmp 15) (.tmp 15) rfl _ (X % 3001) rfl rfl (by omega) (by omega) ?_; intro w1 hown1 hg1; have hb1 : Below w.heap.size w w1 := (Below.refl _ w).grown hg1 (Nat.le_refl _) (fun k e => by cases e); clear hg1)
      | (at_builtin; refine wpl_append rfl (.tmp 16) (.tmp 17) rfl w.heap.size _ (X % 3001) _ rfl hown1 _ l0 rfl (H0.out.up hb1) (by omega) hb1.size ?_; intro v2 w2 hown2 hg2; have hb2 : Below w.heap.size w w2 := hb1.grown hg2 hb1.size (own_block hown1); clear hg2; obtain ⟨ad2, cap2, rfl⟩ := own_shape hown2; have R2 := Lib.hid (rb_own hown2); clear hown2)
      | (at_make; refine wpl_make rfl (.tmp 21) (.tmp 21) rfl _ (Y % 3001) rfl rfl (by omega) (by omega) ?_; intro w3 hown3 hg3; have hb3 : Below w2.heap.size w2 w3 := (Below.refl _ w2).grown hg3 (Nat.le_refl _) (fun k e => by cases e); clear hg3)
      | (at_builtin; refine wpl_append rfl (.tmp 22) (.tmp 23) rfl w2.heap.size _ (Y % 3001) _ rfl hown3 _ l0 rfl (H0.out.up (hb2.trans (hb3.mono hb2.size))) (by omega) hb3.size ?_; intro v4 w4 hown4 hg4; have hb4 : Below w2.heap.size w2 w4 := hb3.grown hg4 hb3.size (own_block hown3); clear hg4; obtain ⟨ad4, cap4, rfl⟩ := own_shape hown4; have R4 := Lib.hid (rb_own hown4); clear hown4))
    have hb0 : Below w.heap.size w w4 := hb2.trans (hb4.mono hb2.size)
    refine (sum_named s0 _ K0.out _ _ (by simp; omega) (R2.out.up hb4)).mono ?_
    rintro e w5 ⟨rfl, hc5⟩
    have hb5 : Below w.heap.size w w5 := hb0.trans (hc5.mono hb0.size)
    go_wp2_with fail
    refine (sum_named s1 _ K1.out _ _ (by simp; omega) (R4.out.up hc5)).mono ?_
    rintro e w6 ⟨rfl, hc6⟩
    have hb6 : Below w.heap.size w w6 := hb5.trans (hc6.mono hb5.size)
    go_wp2_with fail
    refine (told_any _).mono ?_
    rintro e w7 ⟨rfl, hc7⟩
    have hb7 : Below w.heap.size w w7 := hb6.trans (hc7.mono hb6.size)
    go_wp2_with fail
    go_ret
    exact ⟨rfl, hb7⟩
  · go_enter Try.func6, Try.ntmps6
    go_wp2_with fail
    refine (told_any _).mono ?_
    rintro e w1 ⟨rfl, hb⟩
    go_wp2_with fail
    go_ret
    exact ⟨rfl, hb⟩

end Go.Proofs.Ytelecohcidgjpaa
