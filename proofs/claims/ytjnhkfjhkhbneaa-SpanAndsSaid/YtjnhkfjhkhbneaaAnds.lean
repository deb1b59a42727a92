/- The walk of SpanAnds: it returns true and changes nothing that was there. No condition. -/
import Derived.Test.YtjnhkfjhkhbneaaUp
namespace Go.Proofs.Ytjnhkfjhkhbneaa
open Go.RowKit Go.BigFrame SpanP

set_option maxRecDepth 100000 in
set_option maxHeartbeats 1600000 in
theorem ands_walk (f1 t1 f2 t2 f3 t3 t : Int) (w : World) :
    Calls Try.prog 3 #[.agg #[.int .i64 f1, .int .i64 t1], .agg #[.int .i64 f2, .int .i64 t2], .agg #[.int .i64 f3, .int .i64 t3], .int .i64 t] w fun e w' => e = .returned (.bool true) ∧ Below w.heap.size w w' := by
  obtain ⟨xF, hxF⟩ : ∃ x, andF f1 t1 f2 t2 = x := ⟨_, rfl⟩
  obtain ⟨xT, hxT⟩ : ∃ x, andT f1 t1 f2 t2 = x := ⟨_, rfl⟩
  obtain ⟨zF, hzF⟩ : ∃ x, andF f2 t2 f3 t3 = x := ⟨_, rfl⟩
  obtain ⟨zT, hzT⟩ : ∃ x, andT f2 t2 f3 t3 = x := ⟨_, rfl⟩
  obtain ⟨yF, hyF⟩ : ∃ x, andF xF xT f3 t3 = x := ⟨_, rfl⟩
  obtain ⟨yT, hyT⟩ : ∃ x, andT xF xT f3 t3 = x := ⟨_, rfl⟩
  have A1 := Lib.hid (and_as f1 t1 f2 t2 xF xT hxF hxT)
  have A2 := Lib.hid (and_as f2 t2 f1 t1 xF xT (by rw [and_commF]; exact hxF) (by rw [and_commT]; exact hxT))
  have A3 := Lib.hid (and_as xF xT f3 t3 yF yT hyF hyT)
  have A4 := Lib.hid (and_as f2 t2 f3 t3 zF zT hzF hzT)
  have A5 := Lib.hid (and_as f1 t1 zF zT yF yT (by rw [← hzF, ← hzT, and_assocF, hxF, hxT]; exact hyF) (by rw [← hzF, ← hzT, and_assocT, hxF, hxT]; exact hyT))
  obtain ⟨p, hp⟩ : ∃ b, hasB f1 t1 t = b := ⟨_, rfl⟩
  obtain ⟨q, hq⟩ : ∃ b, hasB f2 t2 t = b := ⟨_, rfl⟩
  have H1 := Lib.hid (has_as f1 t1 t p hp)
  have H2 := Lib.hid (has_as f2 t2 t q hq)
  have H3 := Lib.hid (has_as xF xT t (p && q) (by rw [← hxF, ← hxT, has_and, hp, hq]))
  obtain ⟨e, he⟩ : ∃ b, emptyB f1 t1 = b := ⟨_, rfl⟩
  have E1 := Lib.hid (empty_as f1 t1 e he)
  have E2 := Lib.hid (fun (b : Bool) (hb : (xF == 0 && xT == 0) = b) => empty_as xF xT b (by rw [← hb, ← hxF, ← hxT]; exact and_zero))
  have S1 := Lib.hid (fun (h : e = false) => and_as f1 t1 f1 t1 f1 t1 (and_selfF (by rw [he]; exact h)) (and_selfT (by rw [he]; exact h)))
  clear hxF hxT hzF hzT hyF hyT hp hq he
  go_enter Try.func3, Try.ntmps3
  go_wp2_with fail
  refine (A1.out _).mono ?_
  rintro e w1 ⟨rfl, hb1⟩
  have hB1 : Below w.heap.size w w1 := ((((Below.refl _ w).alloc (Nat.le_refl _) _).alloc (by simp) _).alloc (by simp; omega) _).trans (hb1.mono (by simp; omega))
  have hA : w1.heap[w.heap.size]? = some (.cells #[.int .i64 f1, .int .i64 t1] 23) := heap_keep hb1 (heap_keep_alloc _ (heap_alloc2_old w _ _))
  have hBb : w1.heap[w.heap.size + 1]? = some (.cells #[.int .i64 f2, .int .i64 t2] 23) := heap_keep hb1 (heap_keep_alloc _ (heap_alloc2_new w _ _))
  have hC : w1.heap[w.heap.size + 1 + 1]? = some (.cells #[.int .i64 f3, .int .i64 t3] 23) := heap_keep hb1 (heap3_new w _ _ _)
  clear hb1
  go_wp2_with fail
  have hX : (w1.alloc (.cells #[.int .i64 xF, .int .i64 xT] 23)).heap[w1.heap.size]? = some (.cells #[.int .i64 xF, .int .i64 xT] 23) := heap_alloc_new _ _
  have hBW : Below w.heap.size w (w1.alloc (.cells #[.int .i64 xF, .int .i64 xT] 23)) := hB1.alloc hB1.size _
  replace hA := heap_keep_alloc (.cells #[.int .i64 xF, .int .i64 xT] 23) hA
  replace hBb := heap_keep_alloc (.cells #[.int .i64 xF, .int .i64 xT] 23) hBb
  replace hC := heap_keep_alloc (.cells #[.int .i64 xF, .int .i64 xT] 23) hC
  clear hB1
  obtain ⟨W, hW⟩ : ∃ W, W = w1.alloc (.cells #[.int .i64 xF, .int .i64 xT] 23) := ⟨_, rfl⟩
  rw [← hW] at hX hBW hA hBb hC ⊢
  clear hW
  obtain ⟨g, hg⟩ : ∃ g, g = w1.heap.size := ⟨_, rfl⟩
  rw [← hg] at hX ⊢
  clear hg
  have a0 := Up.cell0 hA
  have a1 := Up.cell1 hA
  have b0 := Up.cell0 hBb
  have b1 := Up.cell1 hBb
  have c0 := Up.cell0 hC
  have c1 := Up.cell1 hC
  have x0 := Up.cell0 hX
  have x1 := Up.cell1 hX
  have KA := Lib.hid hA
  have KX := Lib.hid hX
  clear hA hBb hC hX
  refine wp_region_up W.heap.size W (by kernel_rfl) (by kernel_rfl) (Below.refl _ _) ?_
  cases p
  all_goals
    repeat (go_big_quiet_step (first | with_reducible exact Calls.up _ (Up.below _).size (A2.out _) | with_reducible exact Calls.up _ (Up.below _).size (A3.out _) | with_reducible exact Calls.up _ (Up.below _).size (A4.out _) | with_reducible exact Calls.up _ (Up.below _).size (A5.out _) | with_reducible exact Calls.up _ (Up.below _).size (H1.out _) | with_reducible exact Calls.up _ (Up.below _).size (H2.out _) | with_reducible exact Calls.up _ (Up.below _).size (H3.out _)))
    refine wpQuiet_nil ?_
    rintro wu ⟨⟨_, hu⟩, rfl⟩
    have hBu : Below w.heap.size w wu := hBW.trans (hu.mono hBW.size)
    have kA := heap_keep hu KA.out
    have kX := heap_keep hu KX.out
    clear a0 a1 b0 b1 c0 c1 x0 x1 hu
    have a0 := Up.cell0 kA
    have a1 := Up.cell1 kA
    have x0 := Up.cell0 kX
    have x1 := Up.cell1 kX
    clear kA kX
    go_wp2_with fail
    rcases (show (xF = 0 ∧ xT = 0) ∨ (¬ xF = 0) ∨ (xF = 0 ∧ ¬ xT = 0) by omega) with ⟨z1, z2⟩ | z1 | ⟨z1, z2⟩
    · have E3 := Lib.hid (E2.out true (by rw [z1, z2]; rfl))
      subst z1 z2
      refine wp_region_up wu.heap.size wu (by kernel_rfl) (by kernel_rfl) (Below.refl _ _) ?_
      cases e
      all_goals
        repeat (go_big_quiet_step (first | with_reducible exact Calls.up _ (Up.below _).size (E1.out _) | with_reducible exact Calls.up _ (Up.below _).size (E3.out _) | with_reducible exact Calls.up _ (Up.below _).size (S1.out rfl _) | with_reducible exact Calls.up _ (Up.below _).size (wakes_any _)))
        refine wpQuiet_nil ?_
        rintro wv ⟨⟨_, hv⟩, rfl⟩
        have hBv : Below w.heap.size w wv := hBu.trans (hv.mono hBu.size)
        clear a0 a1 x0 x1 hv
        go_wp2_with fail
        go_ret
        exact ⟨rfl, hBv⟩
    · have E3 := Lib.hid (E2.out false (by simp [z1]))
      refine wp_region_up wu.heap.size wu (by kernel_rfl) (by kernel_rfl) (Below.refl _ _) ?_
      cases e
      all_goals
        repeat (go_big_quiet_step (first | with_reducible exact Calls.up _ (Up.below _).size (E1.out _) | with_reducible exact Calls.up _ (Up.below _).size (E3.out _) | with_reducible exact Calls.up _ (Up.below _).size (S1.out rfl _) | with_reducible exact Calls.up _ (Up.below _).size (wakes_any _)))
        refine wpQuiet_nil ?_
        rintro wv ⟨⟨_, hv⟩, rfl⟩
        have hBv : Below w.heap.size w wv := hBu.trans (hv.mono hBu.size)
        clear a0 a1 x0 x1 hv
        go_wp2_with fail
        go_ret
        exact ⟨rfl, hBv⟩
    · have E3 := Lib.hid (E2.out false (by simp [z2]))
      subst z1
      refine wp_region_up wu.heap.size wu (by kernel_rfl) (by kernel_rfl) (Below.refl _ _) ?_
      cases e
      all_goals
        repeat (go_big_quiet_step (first | with_reducible exact Calls.up _ (Up.below _).size (E1.out _) | with_reducible exact Calls.up _ (Up.below _).size (E3.out _) | with_reducible exact Calls.up _ (Up.below _).size (S1.out rfl _) | with_reducible exact Calls.up _ (Up.below _).size (wakes_any _)))
        refine wpQuiet_nil ?_
        rintro wv ⟨⟨_, hv⟩, rfl⟩
        have hBv : Below w.heap.size w wv := hBu.trans (hv.mono hBu.size)
        clear a0 a1 x0 x1 hv
        go_wp2_with fail
        go_ret
        exact ⟨rfl, hBv⟩

end Go.Proofs.Ytjnhkfjhkhbneaa
