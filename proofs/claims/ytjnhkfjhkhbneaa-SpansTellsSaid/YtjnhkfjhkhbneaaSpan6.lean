/- What the functions of package span answer: Out, In; and that the law's helper 'wakes' returns true. -/
import Derived.Test.YtjnhkfjhkhbneaaSpan5
namespace Go.Proofs.Ytjnhkfjhkhbneaa
open Go.RowKit SpanP

set_option maxRecDepth 100000 in
set_option maxHeartbeats 400000 in
theorem out_ok (f t n : Int) (w : World) (h : wrongN n [f, t] = 0) :
    Calls Try.prog 31 #[.agg #[.int .i64 f, .int .i64 t], .int .i64 n] w fun e w' => e = .returned (.tuple #[.agg #[.int .i64 (outF f t n), .int .i64 (outT f t n)], .int .i64 0]) ∧ Below w.heap.size w w' := by
  have H := Lib.hid h
  clear h
  obtain ⟨F, hF⟩ : ∃ F, F = outF f t n := ⟨_, rfl⟩
  obtain ⟨T, hT⟩ : ∃ T, T = outT f t n := ⟨_, rfl⟩
  have K := Lib.hid (fun (w : World) (bn : Nat) (hn : w.cell? ⟨bn, 0, none⟩ = some (.int .i64 n)) => whole_out f t n bn w hn H.out)
  rw [← hF, ← hT] at K ⊢
  clear hF hT
  go_enter Try.func31, Try.ntmps31
  go_wp2_with fail
  refine (K.out _ _ (by simp [go_sem])).mono ?_
  rintro e w1 ⟨rfl, hb⟩
  have hr1 : w1.heap[w.heap.size + 1 + 1]? = some (.cells #[.int .i64 0, .int .i64 0] 23) := by
    rw [hb.block _ (by simp)]; exact heap3_new _ _ _ _
  have hb' : Below w.heap.size w w1 := ((((Below.refl _ _).alloc (Nat.le_refl _) _).alloc (by simp) _).alloc (by simp; omega) _).trans (hb.mono (by simp; omega))
  have hc0 : w1.cell? ⟨w.heap.size + 1 + 1, 0, none⟩ = some (.int .i64 0) := by rw [cell_of_row _ _ _ _ _ _ hr1]; rfl
  have hc1 : w1.cell? ⟨w.heap.size + 1 + 1, 1, none⟩ = some (.int .i64 0) := by rw [cell_of_row _ _ _ _ _ _ hr1]; rfl
  have hf0 : w1.frozen? ⟨w.heap.size + 1 + 1, 0, none⟩ = false := frozen_of_row _ _ _ _ _ hr1
  have hf1 : w1.frozen? ⟨w.heap.size + 1 + 1, 1, none⟩ = false := frozen_of_row _ _ _ _ _ hr1
  clear hb hr1
  go_wp2_with fail
  refine bodyPost_ret (v := .tuple #[.agg #[.int .i64 F, .int .i64 T], .int .i64 0]) (by simp [results, Try.results31, go_sem, hc0, hc1]) rfl ⟨rfl, ?_⟩
  exact (hb'.setCell (by simp; omega) _).setCell (by simp; omega) _

set_option maxRecDepth 100000 in
set_option maxHeartbeats 400000 in
theorem out_bad (f t n x : Int) (w : World) (h : wrongN n [f, t] = x) (hx : (x != 0) = true) :
    Calls Try.prog 31 #[.agg #[.int .i64 f, .int .i64 t], .int .i64 n] w fun e w' => e = .returned (.tuple #[.agg #[.int .i64 0, .int .i64 0], .int .i64 x]) ∧ Below w.heap.size w w' := by
  have H := Lib.hid h
  clear h
  have K := Lib.hid (fun (w : World) (v : Value) => whole_out_bad f t n x v w H.out hx)
  clear hx
  go_enter Try.func31, Try.ntmps31
  go_wp2_with fail
  refine (K.out _ _).mono ?_
  rintro e w1 ⟨rfl, hb⟩
  have hr1 : w1.heap[w.heap.size + 1 + 1]? = some (.cells #[.int .i64 0, .int .i64 0] 23) := by
    rw [hb.block _ (by simp)]; exact heap3_new _ _ _ _
  have hb' : Below w.heap.size w w1 := ((((Below.refl _ _).alloc (Nat.le_refl _) _).alloc (by simp) _).alloc (by simp; omega) _).trans (hb.mono (by simp; omega))
  have hc0 : w1.cell? ⟨w.heap.size + 1 + 1, 0, none⟩ = some (.int .i64 0) := by rw [cell_of_row _ _ _ _ _ _ hr1]; rfl
  have hc1 : w1.cell? ⟨w.heap.size + 1 + 1, 1, none⟩ = some (.int .i64 0) := by rw [cell_of_row _ _ _ _ _ _ hr1]; rfl
  have hf0 : w1.frozen? ⟨w.heap.size + 1 + 1, 0, none⟩ = false := frozen_of_row _ _ _ _ _ hr1
  have hf1 : w1.frozen? ⟨w.heap.size + 1 + 1, 1, none⟩ = false := frozen_of_row _ _ _ _ _ hr1
  clear hb hr1
  go_wp2_with fail
  refine bodyPost_ret (v := .tuple #[.agg #[.int .i64 0, .int .i64 0], .int .i64 x]) (by simp [results, Try.results31, go_sem, hc0, hc1]) rfl ⟨rfl, ?_⟩
  exact (hb'.setCell (by simp; omega) _).setCell (by simp; omega) _

set_option maxRecDepth 100000 in
set_option maxHeartbeats 400000 in
theorem in_ok (f t n : Int) (w : World) (h : wrongN n [f, t] = 0) :
    Calls Try.prog 32 #[.agg #[.int .i64 f, .int .i64 t], .int .i64 n] w fun e w' => e = .returned (.tuple #[.agg #[.int .i64 (inF f t n), .int .i64 (inT f t n)], .int .i64 0]) ∧ Below w.heap.size w w' := by
  have H := Lib.hid h
  clear h
  obtain ⟨F, hF⟩ : ∃ F, F = inF f t n := ⟨_, rfl⟩
  obtain ⟨T, hT⟩ : ∃ T, T = inT f t n := ⟨_, rfl⟩
  have K := Lib.hid (fun (w : World) (bn : Nat) (hn : w.cell? ⟨bn, 0, none⟩ = some (.int .i64 n)) => whole_in f t n bn w hn H.out)
  rw [← hF, ← hT] at K ⊢
  clear hF hT
  go_enter Try.func32, Try.ntmps32
  go_wp2_with fail
  refine (K.out _ _ (by simp [go_sem])).mono ?_
  rintro e w1 ⟨rfl, hb⟩
  have hr1 : w1.heap[w.heap.size + 1 + 1]? = some (.cells #[.int .i64 0, .int .i64 0] 23) := by
    rw [hb.block _ (by simp)]; exact heap3_new _ _ _ _
  have hb' : Below w.heap.size w w1 := ((((Below.refl _ _).alloc (Nat.le_refl _) _).alloc (by simp) _).alloc (by simp; omega) _).trans (hb.mono (by simp; omega))
  have hc0 : w1.cell? ⟨w.heap.size + 1 + 1, 0, none⟩ = some (.int .i64 0) := by rw [cell_of_row _ _ _ _ _ _ hr1]; rfl
  have hc1 : w1.cell? ⟨w.heap.size + 1 + 1, 1, none⟩ = some (.int .i64 0) := by rw [cell_of_row _ _ _ _ _ _ hr1]; rfl
  have hf0 : w1.frozen? ⟨w.heap.size + 1 + 1, 0, none⟩ = false := frozen_of_row _ _ _ _ _ hr1
  have hf1 : w1.frozen? ⟨w.heap.size + 1 + 1, 1, none⟩ = false := frozen_of_row _ _ _ _ _ hr1
  clear hb hr1
  go_wp2_with fail
  refine bodyPost_ret (v := .tuple #[.agg #[.int .i64 F, .int .i64 T], .int .i64 0]) (by simp [results, Try.results32, go_sem, hc0, hc1]) rfl ⟨rfl, ?_⟩
  exact (hb'.setCell (by simp; omega) _).setCell (by simp; omega) _

set_option maxRecDepth 100000 in
set_option maxHeartbeats 400000 in
theorem in_bad (f t n x : Int) (w : World) (h : wrongN n [f, t] = x) (hx : (x != 0) = true) :
    Calls Try.prog 32 #[.agg #[.int .i64 f, .int .i64 t], .int .i64 n] w fun e w' => e = .returned (.tuple #[.agg #[.int .i64 0, .int .i64 0], .int .i64 x]) ∧ Below w.heap.size w w' := by
  have H := Lib.hid h
  clear h
  have K := Lib.hid (fun (w : World) (v : Value) => whole_in_bad f t n x v w H.out hx)
  clear hx
  go_enter Try.func32, Try.ntmps32
  go_wp2_with fail
  refine (K.out _ _).mono ?_
  rintro e w1 ⟨rfl, hb⟩
  have hr1 : w1.heap[w.heap.size + 1 + 1]? = some (.cells #[.int .i64 0, .int .i64 0] 23) := by
    rw [hb.block _ (by simp)]; exact heap3_new _ _ _ _
  have hb' : Below w.heap.size w w1 := ((((Below.refl _ _).alloc (Nat.le_refl _) _).alloc (by simp) _).alloc (by simp; omega) _).trans (hb.mono (by simp; omega))
  have hc0 : w1.cell? ⟨w.heap.size + 1 + 1, 0, none⟩ = some (.int .i64 0) := by rw [cell_of_row _ _ _ _ _ _ hr1]; rfl
  have hc1 : w1.cell? ⟨w.heap.size + 1 + 1, 1, none⟩ = some (.int .i64 0) := by rw [cell_of_row _ _ _ _ _ _ hr1]; rfl
  have hf0 : w1.frozen? ⟨w.heap.size + 1 + 1, 0, none⟩ = false := frozen_of_row _ _ _ _ _ hr1
  have hf1 : w1.frozen? ⟨w.heap.size + 1 + 1, 1, none⟩ = false := frozen_of_row _ _ _ _ _ hr1
  clear hb hr1
  go_wp2_with fail
  refine bodyPost_ret (v := .tuple #[.agg #[.int .i64 0, .int .i64 0], .int .i64 x]) (by simp [results, Try.results32, go_sem, hc0, hc1]) rfl ⟨rfl, ?_⟩
  exact (hb'.setCell (by simp; omega) _).setCell (by simp; omega) _


end Go.Proofs.Ytjnhkfjhkhbneaa
