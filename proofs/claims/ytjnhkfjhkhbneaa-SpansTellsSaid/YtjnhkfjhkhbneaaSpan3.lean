/- What the functions of package span answer: Floor, Ceil, Bucket. -/
import Derived.Test.YtjnhkfjhkhbneaaSpan2
namespace Go.Proofs.Ytjnhkfjhkhbneaa
open Go.RowKit SpanP

theorem ints1 (w : World) (t : Int) (ty : TypeId) : IntsAt (w.alloc (.cells #[.int .i64 t] ty)) w.heap.size [t] := by
  intro i hi
  match i, hi with
  | 0, _ => rw [cell_of_row _ _ _ _ _ _ (heap_alloc_new _ _)]; rfl
theorem ints2 (w : World) (s t : Int) (ty : TypeId) : IntsAt (w.alloc (.cells #[.int .i64 s, .int .i64 t] ty)) w.heap.size [s, t] := by
  intro i hi
  match i, hi with
  | 0, _ => rw [cell_of_row _ _ _ _ _ _ (heap_alloc_new _ _)]; rfl
  | 1, _ => rw [cell_of_row _ _ _ _ _ _ (heap_alloc_new _ _)]; rfl
theorem wrong_1 (n t : Int) (ty : TypeId) (w : World) (x : Int) (hx : wrongN n [t] = x) :
    Calls Try.prog 70 #[.int .i64 n, .slice (some ⟨w.heap.size, 0, none⟩) 1 1] (w.alloc (.cells #[.int .i64 t] ty)) fun e w' => e = .returned (.int .i64 x) ∧ w.alloc (.cells #[.int .i64 t] ty) = w' :=
  hx ▸ wrong_any n [t] w.heap.size 1 _ (by simp) (ints1 w t ty)
theorem wrong_2 (n s t : Int) (ty : TypeId) (w : World) (x : Int) (hx : wrongN n [s, t] = x) :
    Calls Try.prog 70 #[.int .i64 n, .slice (some ⟨w.heap.size, 0, none⟩) 2 2] (w.alloc (.cells #[.int .i64 s, .int .i64 t] ty)) fun e w' => e = .returned (.int .i64 x) ∧ w.alloc (.cells #[.int .i64 s, .int .i64 t] ty) = w' :=
  hx ▸ wrong_any n [s, t] w.heap.size 2 _ (by simp) (ints2 w s t ty)

set_option maxHeartbeats 400000 in
theorem floor_ok (t n : Int) (w : World) (h : wrongN n [t] = 0) :
    Calls Try.prog 35 #[.int .i64 t, .int .i64 n] w fun e w' => e = .returned (.tuple #[.int .i64 (fl t n), .int .i64 0]) ∧ Below w.heap.size w w' := by
  obtain ⟨h1, h2, h3⟩ := wrongN_ok h
  have h4 := h3 t (by simp)
  clear h3
  have H := Lib.hid h
  clear h
  go_enter Try.func35, Try.ntmps35
  go_wp2_with (first | (go_at_call 70; refine (wrong_1 _ _ _ _ 0 H.out).mono ?_; rintro e w' ⟨rfl, rfl⟩) | (go_at_call 67; refine (floor_any _ _ _ (by omega) (by omega) (by omega) (by omega)).mono ?_; rintro e w' ⟨rfl, rfl⟩))
  go_ret2
  exact ⟨rfl, (Below.refl _ _).alloc (Nat.le_refl _) _⟩

set_option maxHeartbeats 400000 in
theorem floor_bad (t n x : Int) (w : World) (h : wrongN n [t] = x) (hx : (x != 0) = true) :
    Calls Try.prog 35 #[.int .i64 t, .int .i64 n] w fun e w' => e = .returned (.tuple #[.int .i64 0, .int .i64 x]) ∧ Below w.heap.size w w' := by
  have H := Lib.hid h
  clear h
  go_enter Try.func35, Try.ntmps35
  go_wp2_with (first | (go_at_call 70; refine (wrong_1 _ _ _ _ x H.out).mono ?_; rintro e w' ⟨rfl, rfl⟩))
  go_ret2
  exact ⟨rfl, (Below.refl _ _).alloc (Nat.le_refl _) _⟩

set_option maxHeartbeats 400000 in
theorem ceil_ok (t n : Int) (w : World) (h : wrongN n [t] = 0) :
    Calls Try.prog 36 #[.int .i64 t, .int .i64 n] w fun e w' => e = .returned (.tuple #[.int .i64 (ce t n), .int .i64 0]) ∧ Below w.heap.size w w' := by
  obtain ⟨h1, h2, h3⟩ := wrongN_ok h
  have h4 := h3 t (by simp)
  clear h3
  have H := Lib.hid h
  clear h
  have g1 := fl_le (-t) n h1
  have g2 := lt_fl (-t) n h1
  go_enter Try.func36, Try.ntmps36
  go_wp2_with (first | (go_at_call 70; refine (wrong_1 _ _ _ _ 0 H.out).mono ?_; rintro e w' ⟨rfl, rfl⟩) | (go_at_call 67; refine (floor_any _ _ _ (by omega) (by omega) (by omega) (by omega)).mono ?_; rintro e w' ⟨rfl, rfl⟩))
  go_ret2
  exact ⟨rfl, (Below.refl _ _).alloc (Nat.le_refl _) _⟩

set_option maxHeartbeats 400000 in
theorem ceil_bad (t n x : Int) (w : World) (h : wrongN n [t] = x) (hx : (x != 0) = true) :
    Calls Try.prog 36 #[.int .i64 t, .int .i64 n] w fun e w' => e = .returned (.tuple #[.int .i64 0, .int .i64 x]) ∧ Below w.heap.size w w' := by
  have H := Lib.hid h
  clear h
  go_enter Try.func36, Try.ntmps36
  go_wp2_with (first | (go_at_call 70; refine (wrong_1 _ _ _ _ x H.out).mono ?_; rintro e w' ⟨rfl, rfl⟩))
  go_ret2
  exact ⟨rfl, (Below.refl _ _).alloc (Nat.le_refl _) _⟩

set_option maxHeartbeats 400000 in
theorem bucket_ok (t n : Int) (w : World) (h : wrongN n [t] = 0) :
    Calls Try.prog 30 #[.int .i64 t, .int .i64 n] w fun e w' => e = .returned (.tuple #[.agg #[.int .i64 (fl t n), .int .i64 (fl t n + n)], .int .i64 0]) ∧ Below w.heap.size w w' := by
  obtain ⟨h1, h2, h3⟩ := wrongN_ok h
  have h4 := h3 t (by simp)
  clear h3
  have H := Lib.hid h
  clear h
  have g1 := fl_le t n h1
  have g2 := lt_fl t n h1
  go_enter Try.func30, Try.ntmps30
  go_wp2_with fail
  refine (floor_ok t n _ H.out).mono ?_
  rintro e w1 ⟨rfl, hb⟩
  have hc0 : w1.cell? ⟨w.heap.size, 0, none⟩ = some (.int .i64 0) := by
    rw [hb.cell (by simp)]; rw [cell_of_row _ _ _ _ _ _ (heap_alloc_new _ _)]; rfl
  have hc1 : w1.cell? ⟨w.heap.size, 1, none⟩ = some (.int .i64 0) := by
    rw [hb.cell (by simp)]; rw [cell_of_row _ _ _ _ _ _ (heap_alloc_new _ _)]; rfl
  have hf0 : w1.frozen? ⟨w.heap.size, 0, none⟩ = false := by
    rw [hb.frozen (by simp)]; exact frozen_of_row _ _ _ _ _ (heap_alloc_new _ _)
  have hf1 : w1.frozen? ⟨w.heap.size, 1, none⟩ = false := by
    rw [hb.frozen (by simp)]; exact frozen_of_row _ _ _ _ _ (heap_alloc_new _ _)
  have hb' : Below w.heap.size w w1 := ((Below.refl _ _).alloc (Nat.le_refl _) _).trans (hb.mono (by simp))
  clear hb
  go_wp2_with fail
  refine bodyPost_ret (v := .tuple #[.agg #[.int .i64 (fl t n), .int .i64 (fl t n + n)], .int .i64 0]) (by simp [results, Try.results30, go_sem, hc0, hc1]) rfl ⟨rfl, ?_⟩
  exact (hb'.setCell (by simp) _).setCell (by simp) _

end Go.Proofs.Ytjnhkfjhkhbneaa
