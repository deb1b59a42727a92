/- What Out and In of the document's answer for layer 9 answer. Conditions stand in each contract. -/
import Derived.Test.YtjnhkfjhkhbneaaRef9
namespace Go.Proofs.Ytjnhkfjhkhbneaa
open Go.RowKit SpanP

set_option maxRecDepth 100000 in
set_option maxHeartbeats 400000 in
theorem rout_ok (f t n F T : Int) (w : World) (hF : outF f t n = F) (hT : outT f t n = T) (h0 : 1 ≤ n) (h1 : n ≤ 1099511627776) (h2 : -4611687117939015680 ≤ f ∧ f ≤ 4611687117939015679) (h3 : -4611687117939015680 ≤ t ∧ t ≤ 4611687117939015679) :
    Calls Try.prog 40 #[.agg #[.int .i64 f, .int .i64 t], .int .i64 n] w fun e w' => e = .returned (.agg #[.int .i64 F, .int .i64 T]) ∧ Below w.heap.size w w' := by
  by_cases h : t ≤ f
  · have e1 : F = 0 := by rw [← hF, outF, if_pos h]
    have e2 : T = 0 := by rw [← hT, outT, if_pos h]
    subst e1 e2
    clear hF hT
    go_enter Try.func40, Try.ntmps40
    go_wp2
    exact bodyPost_ret (v := .agg #[.int .i64 0, .int .i64 0]) (by simp [results, Try.results40, go_sem]) rfl ⟨rfl, ((Below.refl _ _).alloc (Nat.le_refl _) _).alloc (by simp) _⟩
  · have e1 : goodF (fl f n) (ce t n) = F := by rw [← hF, outF, if_neg h]
    have e2 : goodT (fl f n) (ce t n) = T := by rw [← hT, outT, if_neg h]
    have C1 := Lib.hid (fun w => rfloor_any f n w h0 h1 (by omega) (by omega))
    have C2 := Lib.hid (fun w => rceil_any t n w h0 h1 (by omega) (by omega))
    obtain ⟨x, hx⟩ : ∃ x, fl f n = x := ⟨_, rfl⟩
    obtain ⟨y, hy⟩ : ∃ y, ce t n = y := ⟨_, rfl⟩
    rw [hx] at e1 e2 C1
    rw [hy] at e1 e2 C2
    have G := Lib.hid (rgood_any x y F T e1 e2)
    clear hF hT e1 e2 hx hy h2 h3
    go_enter Try.func40, Try.ntmps40
    go_wp2
    refine wp_region_still_tail 8 (by kernel_rfl) (by kernel_rfl) ?_
    simp only [List.take_succ_cons, List.take_zero, List.drop_succ_cons, List.drop_zero]
    change wpStill _ _ (World.drew _) (fun a' => wpList _ _ _ _ a' (World.drew _)) _ _
    still_step
    still_step
    still_step
    still_call (C1.out _)
    still_step
    still_step
    still_step
    still_call (C2.out _)
    refine wpStill_nil ?_
    have hb0 := (((Below.refl _ w).alloc (Nat.le_refl _) (.cells #[.int .i64 f, .int .i64 t] 23)).alloc (by simp) (.cells #[.int .i64 0, .int .i64 0] 23)).drew
    have hr : (((w.alloc (.cells #[.int .i64 f, .int .i64 t] 23)).alloc (.cells #[.int .i64 0, .int .i64 0] 23)).drew).heap[w.heap.size + 1]? = some (.cells #[.int .i64 0, .int .i64 0] 23) := heap_alloc2_new w _ _
    obtain ⟨W, hW⟩ : ∃ W, W = (((w.alloc (.cells #[.int .i64 f, .int .i64 t] 23)).alloc (.cells #[.int .i64 0, .int .i64 0] 23)).drew) := ⟨_, rfl⟩
    rw [← hW] at hb0 hr ⊢
    clear hW
    go_wp2_with fail
    refine (G.out _).mono ?_
    rintro e w1 ⟨rfl, rfl⟩
    have hr1 := heap_keep_alloc (.cells #[.int .i64 F, .int .i64 T] 23) hr
    have hb1 : Below w.heap.size w (W.alloc (.cells #[.int .i64 F, .int .i64 T] 23)) := hb0.alloc hb0.size _
    obtain ⟨V, hV⟩ : ∃ V, V = W.alloc (.cells #[.int .i64 F, .int .i64 T] 23) := ⟨_, rfl⟩
    rw [← hV] at hb1 hr1 ⊢
    clear hV hr hb0
    have hc0 : V.cell? ⟨w.heap.size + 1, 0, none⟩ = some (.int .i64 0) := by rw [cell_of_row _ _ _ _ _ _ hr1]; rfl
    have hc1 : V.cell? ⟨w.heap.size + 1, 1, none⟩ = some (.int .i64 0) := by rw [cell_of_row _ _ _ _ _ _ hr1]; rfl
    have hf0 : V.frozen? ⟨w.heap.size + 1, 0, none⟩ = false := frozen_of_row _ _ _ _ _ hr1
    have hf1 : V.frozen? ⟨w.heap.size + 1, 1, none⟩ = false := frozen_of_row _ _ _ _ _ hr1
    clear hr1
    go_wp2_with fail
    refine bodyPost_ret (v := .agg #[.int .i64 F, .int .i64 T]) (by simp [results, Try.results40, go_sem, hc0, hc1]) rfl ⟨rfl, ?_⟩
    exact (hb1.setCell (by simp) _).setCell (by simp) _

set_option maxRecDepth 100000 in
set_option maxHeartbeats 400000 in
theorem rin_ok (f t n F T : Int) (w : World) (hF : inF f t n = F) (hT : inT f t n = T) (h0 : 1 ≤ n) (h1 : n ≤ 1099511627776) (h2 : -4611687117939015680 ≤ f ∧ f ≤ 4611687117939015679) (h3 : -4611687117939015680 ≤ t ∧ t ≤ 4611687117939015679) :
    Calls Try.prog 41 #[.agg #[.int .i64 f, .int .i64 t], .int .i64 n] w fun e w' => e = .returned (.agg #[.int .i64 F, .int .i64 T]) ∧ Below w.heap.size w w' := by
  by_cases h : t ≤ f
  · have e1 : F = 0 := by rw [← hF, inF, if_pos h]
    have e2 : T = 0 := by rw [← hT, inT, if_pos h]
    subst e1 e2
    clear hF hT
    go_enter Try.func41, Try.ntmps41
    go_wp2
    exact bodyPost_ret (v := .agg #[.int .i64 0, .int .i64 0]) (by simp [results, Try.results41, go_sem]) rfl ⟨rfl, ((Below.refl _ _).alloc (Nat.le_refl _) _).alloc (by simp) _⟩
  · have e1 : goodF (ce f n) (fl t n) = F := by rw [← hF, inF, if_neg h]
    have e2 : goodT (ce f n) (fl t n) = T := by rw [← hT, inT, if_neg h]
    have C1 := Lib.hid (fun w => rceil_any f n w h0 h1 (by omega) (by omega))
    have C2 := Lib.hid (fun w => rfloor_any t n w h0 h1 (by omega) (by omega))
    obtain ⟨x, hx⟩ : ∃ x, ce f n = x := ⟨_, rfl⟩
    obtain ⟨y, hy⟩ : ∃ y, fl t n = y := ⟨_, rfl⟩
    rw [hx] at e1 e2 C1
    rw [hy] at e1 e2 C2
    have G := Lib.hid (rgood_any x y F T e1 e2)
    clear hF hT e1 e2 hx hy h2 h3
    go_enter Try.func41, Try.ntmps41
    go_wp2
    refine wp_region_still_tail 8 (by kernel_rfl) (by kernel_rfl) ?_
    simp only [List.take_succ_cons, List.take_zero, List.drop_succ_cons, List.drop_zero]
    change wpStill _ _ (World.drew _) (fun a' => wpList _ _ _ _ a' (World.drew _)) _ _
    still_step
    still_step
    still_step
    still_call (C1.out _)
    still_step
    still_step
    still_step
    still_call (C2.out _)
    refine wpStill_nil ?_
    have hb0 := (((Below.refl _ w).alloc (Nat.le_refl _) (.cells #[.int .i64 f, .int .i64 t] 23)).alloc (by simp) (.cells #[.int .i64 0, .int .i64 0] 23)).drew
    have hr : (((w.alloc (.cells #[.int .i64 f, .int .i64 t] 23)).alloc (.cells #[.int .i64 0, .int .i64 0] 23)).drew).heap[w.heap.size + 1]? = some (.cells #[.int .i64 0, .int .i64 0] 23) := heap_alloc2_new w _ _
    obtain ⟨W, hW⟩ : ∃ W, W = (((w.alloc (.cells #[.int .i64 f, .int .i64 t] 23)).alloc (.cells #[.int .i64 0, .int .i64 0] 23)).drew) := ⟨_, rfl⟩
    rw [← hW] at hb0 hr ⊢
    clear hW
    go_wp2_with fail
    refine (G.out _).mono ?_
    rintro e w1 ⟨rfl, rfl⟩
    have hr1 := heap_keep_alloc (.cells #[.int .i64 F, .int .i64 T] 23) hr
    have hb1 : Below w.heap.size w (W.alloc (.cells #[.int .i64 F, .int .i64 T] 23)) := hb0.alloc hb0.size _
    obtain ⟨V, hV⟩ : ∃ V, V = W.alloc (.cells #[.int .i64 F, .int .i64 T] 23) := ⟨_, rfl⟩
    rw [← hV] at hb1 hr1 ⊢
    clear hV hr hb0
    have hc0 : V.cell? ⟨w.heap.size + 1, 0, none⟩ = some (.int .i64 0) := by rw [cell_of_row _ _ _ _ _ _ hr1]; rfl
    have hc1 : V.cell? ⟨w.heap.size + 1, 1, none⟩ = some (.int .i64 0) := by rw [cell_of_row _ _ _ _ _ _ hr1]; rfl
    have hf0 : V.frozen? ⟨w.heap.size + 1, 0, none⟩ = false := frozen_of_row _ _ _ _ _ hr1
    have hf1 : V.frozen? ⟨w.heap.size + 1, 1, none⟩ = false := frozen_of_row _ _ _ _ _ hr1
    clear hr1
    go_wp2_with fail
    refine bodyPost_ret (v := .agg #[.int .i64 F, .int .i64 T]) (by simp [results, Try.results41, go_sem, hc0, hc1]) rfl ⟨rfl, ?_⟩
    exact (hb1.setCell (by simp) _).setCell (by simp) _

end Go.Proofs.Ytjnhkfjhkhbneaa
