/- The law's helper 'wakes' of layer 9 returns true and changes nothing that was there. No condition. -/
import Derived.Test.YtjnhkfjhkhbneaaSpan6
namespace Go.Proofs.Ytjnhkfjhkhbneaa
open Go.RowKit SpanP

theorem k_floor (w : World) : Calls Try.prog 35 #[.int .i64 (-7), .int .i64 5] w fun e w' => e = .returned (.tuple #[.int .i64 (-10), .int .i64 0]) ∧ Below w.heap.size w w' := by
  have := floor_ok (-7) 5 w (by decide)
  rwa [show fl (-7) 5 = -10 by decide] at this
theorem k_floor0 (w : World) : Calls Try.prog 35 #[.int .i64 5, .int .i64 0] w fun e w' => e = .returned (.tuple #[.int .i64 0, .int .i64 1]) ∧ Below w.heap.size w w' :=
  floor_bad 5 0 1 w (by decide) rfl
theorem k_out (w : World) : Calls Try.prog 31 #[.agg #[.int .i64 3, .int .i64 12], .int .i64 5] w fun e w' => e = .returned (.tuple #[.agg #[.int .i64 0, .int .i64 15], .int .i64 0]) ∧ Below w.heap.size w w' := by
  have := out_ok 3 12 5 w (by decide)
  rwa [show outF 3 12 5 = 0 by decide, show outT 3 12 5 = 15 by decide] at this
theorem k_in (w : World) : Calls Try.prog 32 #[.agg #[.int .i64 3, .int .i64 12], .int .i64 5] w fun e w' => e = .returned (.tuple #[.agg #[.int .i64 5, .int .i64 10], .int .i64 0]) ∧ Below w.heap.size w w' := by
  have := in_ok 3 12 5 w (by decide)
  rwa [show inF 3 12 5 = 5 by decide, show inT 3 12 5 = 10 by decide] at this
theorem k_time (w : World) : Calls Try.prog 28 #[.int .i64 0] w fun e w' => e = .returned (.bool true) ∧ w = w' := time_any 0 w
theorem k_width (w : World) : Calls Try.prog 29 #[.int .i64 0] w fun e w' => e = .returned (.bool false) ∧ w = w' := width_any 0 w

theorem heap_keep {w w' : World} {g : Nat} {o : Obj} (hb : Below w.heap.size w w') (h : w.heap[g]? = some o) : w'.heap[g]? = some o := by
  have : g < w.heap.size := by
    rcases Nat.lt_or_ge g w.heap.size with h' | h'
    · exact h'
    · rw [Array.getElem?_eq_none h'] at h; cases h
  rw [hb.block g this]; exact h
theorem heap_lt {w : World} {g : Nat} {o : Obj} (h : w.heap[g]? = some o) : g < w.heap.size := by
  rcases Nat.lt_or_ge g w.heap.size with h' | h'
  · exact h'
  · rw [Array.getElem?_eq_none h'] at h; cases h
theorem heap_keep_alloc {w : World} {g : Nat} {o : Obj} (x : Obj) (h : w.heap[g]? = some o) : (w.alloc x).heap[g]? = some o := by
  rw [heap_alloc_old _ _ (heap_lt h)]; exact h

set_option maxRecDepth 100000 in
set_option maxHeartbeats 800000 in
theorem wakes_any (w : World) : Calls Try.prog 16 #[] w fun e w' => e = .returned (.bool true) ∧ Below w.heap.size w w' := by
  go_enter Try.func16, Try.ntmps16
  go_wp2_with fail
  refine (k_floor _).mono ?_
  rintro e w1 ⟨rfl, hb1⟩
  go_wp2_with fail
  refine (k_out _).mono ?_
  rintro e w2 ⟨rfl, hb2⟩
  have hB2 : Below w.heap.size w w2 := hb1.trans (hb2.mono hb1.size)
  clear hb1 hb2
  go_wp2_with fail
  refine (k_in _).mono ?_
  rintro e w3 ⟨rfl, hb3⟩
  have hB3 : Below w.heap.size w w3 := (hB2.alloc hB2.size _).trans (hb3.mono (by have := hB2.size; simp; omega))
  have hr3 : w3.heap[w2.heap.size]? = some (.cells #[.int .i64 0, .int .i64 15] 23) := heap_keep hb3 (heap_alloc_new _ _)
  clear hb3
  go_wp2_with fail
  refine (k_floor0 _).mono ?_
  rintro e w4 ⟨rfl, hb4⟩
  have hB4 : Below w.heap.size w w4 := (hB3.alloc hB3.size _).trans (hb4.mono (by have := hB3.size; simp; omega))
  have hr4 : w4.heap[w2.heap.size]? = some (.cells #[.int .i64 0, .int .i64 15] 23) := heap_keep hb4 (heap_keep_alloc _ hr3)
  have hs4 : w4.heap[w3.heap.size]? = some (.cells #[.int .i64 5, .int .i64 10] 23) := heap_keep hb4 (heap_alloc_new _ _)
  have c0 : w4.cell? ⟨w2.heap.size, 0, none⟩ = some (.int .i64 0) := by rw [cell_of_row _ _ _ _ _ _ hr4]; rfl
  have c1 : w4.cell? ⟨w2.heap.size, 1, none⟩ = some (.int .i64 15) := by rw [cell_of_row _ _ _ _ _ _ hr4]; rfl
  have d0 : w4.cell? ⟨w3.heap.size, 0, none⟩ = some (.int .i64 5) := by rw [cell_of_row _ _ _ _ _ _ hs4]; rfl
  have d1 : w4.cell? ⟨w3.heap.size, 1, none⟩ = some (.int .i64 10) := by rw [cell_of_row _ _ _ _ _ _ hs4]; rfl
  clear hb4 hr3 hr4 hs4
  go_wp2_with (first | (go_at_call 28; refine (k_time _).mono ?_; rintro e w' ⟨rfl, rfl⟩) | (go_at_call 29; refine (k_width _).mono ?_; rintro e w' ⟨rfl, rfl⟩))
  go_ret
  exact ⟨rfl, hB4⟩

end Go.Proofs.Ytjnhkfjhkhbneaa
