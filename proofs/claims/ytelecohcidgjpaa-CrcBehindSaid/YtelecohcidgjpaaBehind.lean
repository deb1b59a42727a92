/- The walk of CrcBehind: it returns true and changes nothing that was there. Conditions: the three slices read as bytes. -/
import Derived.Test.YtelecohcidgjpaaBytes
namespace Go.Proofs.Ytelecohcidgjpaa
open Go.RowKit

set_option maxHeartbeats 400000 in
theorem behind_walk (a0 : Option Addr) (n0 c0 : Nat) (l0 : List UInt8) (e0 : l0.length = n0) (a1 : Option Addr) (n1 c1 : Nat) (l1 : List UInt8) (e1 : l1.length = n1) (a2 : Option Addr) (n2 c2 : Nat) (l2 : List UInt8) (e2 : l2.length = n2) (w : World)
    (h0 : RB w (.slice a0 n0 c0) l0) (h1 : RB w (.slice a1 n1 c1) l1) (h2 : RB w (.slice a2 n2 c2) l2) (b0 : n0 ≤ 140737488351232) (b1 : n1 ≤ 140737488351232) (b2 : n2 ≤ 140737488351232) :
    Calls Try.prog 5 #[.slice a0 n0 c0, .slice a1 n1 c1, .slice a2 n2 c2] w fun e w' => e = .returned (.bool true) ∧ Below w.heap.size w w' := by
  have H0 := Lib.hid h0
  have H1 := Lib.hid h1
  have H2 := Lib.hid h2
  have E0 := Lib.hid e0
  have E1 := Lib.hid e1
  have E2 := Lib.hid e2
  clear h0 h1 h2 e0 e1 e2
  by_cases t : n0 ≤ 2000 ∧ n1 ≤ 2000 ∧ n2 ≤ 2000
  · obtain ⟨t0, t1, t2⟩ := t
    obtain ⟨s0, k0⟩ : ∃ s : Int, s = ((CrcP.sum l0).toNat : Int) := ⟨_, rfl⟩
    obtain ⟨s1, k1⟩ : ∃ s : Int, s = ((CrcP.sum l1).toNat : Int) := ⟨_, rfl⟩
    obtain ⟨s2, k2⟩ : ∃ s : Int, s = ((CrcP.sum (l0 ++ l2)).toNat : Int) := ⟨_, rfl⟩
    obtain ⟨s3, k3⟩ : ∃ s : Int, s = ((CrcP.sum (l1 ++ l2)).toNat : Int) := ⟨_, rfl⟩
    have hlaw : ((s0 == s1) == (s2 == s3)) = true := by
      rw [k0, k1, k2, k3, sum_beq, sum_beq]
      simp only [CrcP.sum_behind, beq_self_eq_true]
    have K0 := Lib.hid k0
    have K1 := Lib.hid k1
    have K2 := Lib.hid k2
    have K3 := Lib.hid k3
    clear k0 k1 k2 k3
    have z0 : l0.length ≤ 2000 := by rw [E0.out]; exact t0
    have z1 : l1.length ≤ 2000 := by rw [E1.out]; exact t1
    have z2 : l2.length ≤ 2000 := by rw [E2.out]; exact t2
    go_enter Try.func5, Try.ntmps5
    go_wp2_with (first
      | (at_builtin; refine wpl_append rfl (.tmp 23) (.tmp 24) rfl w.heap.size _ 0 [] rfl (own_empty w) _ l0 rfl (H0.out.up ((Below.refl _ w).alloc (Nat.le_refl _) _)) (by omega) (by simp) ?_; intro v1 w1 hown1 hg1; simp only [Nat.zero_add, List.nil_append] at hown1; have hb1 : Below w.heap.size w w1 := ((Below.refl _ w).alloc (Nat.le_refl _) _).grown hg1 (by simp) (fun k e => by cases e; exact Nat.le_refl _); clear hg1)
      | (at_builtin; refine wpl_append rfl (.tmp 25) (.tmp 26) rfl w.heap.size _ l0.length l0 rfl hown1 _ l2 rfl (H2.out.up hb1) (by omega) hb1.size ?_; intro v2 w2 hown2 hg2; have hb2 : Below w.heap.size w w2 := hb1.grown hg2 hb1.size (own_block hown1); have R2 := Lib.hid (rb_own hown2); clear hg2 hown2)
      | (at_builtin; refine wpl_append rfl (.tmp 28) (.tmp 29) rfl w2.heap.size _ 0 [] rfl (own_empty w2) _ l1 rfl (H1.out.up (hb2.alloc hb2.size _)) (by omega) (by simp) ?_; intro v3 w3 hown3 hg3; simp only [Nat.zero_add, List.nil_append] at hown3; have hb3 : Below w2.heap.size w2 w3 := ((Below.refl _ w2).alloc (Nat.le_refl _) _).grown hg3 (by simp) (fun k e => by cases e; exact Nat.le_refl _); clear hg3)
      | (at_builtin; refine wpl_append rfl (.tmp 30) (.tmp 31) rfl w2.heap.size _ l1.length l1 rfl hown3 _ l2 rfl (H2.out.up (hb2.trans (hb3.mono hb2.size))) (by omega) hb3.size ?_; intro v4 w4 hown4 hg4; have hb4 : Below w2.heap.size w2 w4 := hb3.grown hg4 hb3.size (own_block hown3); have R4 := Lib.hid (rb_own hown4); clear hg4 hown4))
    have hb0 : Below w.heap.size w w4 := hb2.trans (hb4.mono hb2.size)
    refine (sum_named s0 l0 K0.out _ _ (by omega) (H0.out.up hb0)).mono ?_
    rintro e w5 ⟨rfl, hc5⟩
    have hb5 : Below w.heap.size w w5 := hb0.trans (hc5.mono hb0.size)
    go_wp2_with fail
    refine (sum_named s1 l1 K1.out _ _ (by omega) (H1.out.up hb5)).mono ?_
    rintro e w6 ⟨rfl, hc6⟩
    have hb6 : Below w.heap.size w w6 := hb5.trans (hc6.mono hb5.size)
    have hd6 : Below w4.heap.size w4 w6 := hc5.trans (hc6.mono hc5.size)
    go_wp2_with fail
    refine (sum_named s2 (l0 ++ l2) K2.out _ _ (by rw [List.length_append]; omega) (R2.out.up (hb4.trans (hd6.mono hb4.size)))).mono ?_
    rintro e w7 ⟨rfl, hc7⟩
    have hb7 : Below w.heap.size w w7 := hb6.trans (hc7.mono hb6.size)
    have hd7 : Below w4.heap.size w4 w7 := hd6.trans (hc7.mono hd6.size)
    go_wp2_with fail
    refine (sum_named s3 (l1 ++ l2) K3.out _ _ (by rw [List.length_append]; omega) (R4.out.up hd7)).mono ?_
    rintro e w8 ⟨rfl, hc8⟩
    have hb8 : Below w.heap.size w w8 := hb7.trans (hc8.mono hb7.size)
    go_wp2_with fail
    refine (told_any _).mono ?_
    rintro e w9 ⟨rfl, hc9⟩
    have hb9 : Below w.heap.size w w9 := hb8.trans (hc9.mono hb8.size)
    go_wp2_with fail
    go_ret
    exact ⟨rfl, hb9⟩
  · by_cases t0 : n0 ≤ 2000
    · by_cases t1 : n1 ≤ 2000
      · have t2 : ¬ n2 ≤ 2000 := fun h => t ⟨t0, t1, h⟩
        clear t
        go_enter Try.func5, Try.ntmps5
        go_wp2_with fail
        refine (told_any _).mono ?_
        rintro e w1 ⟨rfl, hb⟩
        go_wp2_with fail
        go_ret
        exact ⟨rfl, hb⟩
      · clear t
        go_enter Try.func5, Try.ntmps5
        go_wp2_with fail
        refine (told_any _).mono ?_
        rintro e w1 ⟨rfl, hb⟩
        go_wp2_with fail
        go_ret
        exact ⟨rfl, hb⟩
    · clear t
      go_enter Try.func5, Try.ntmps5
      go_wp2_with fail
      refine (told_any _).mono ?_
      rintro e w1 ⟨rfl, hb⟩
      go_wp2_with fail
      go_ret
      exact ⟨rfl, hb⟩

end Go.Proofs.Ytelecohcidgjpaa
