/- What the functions of package span answer: Bucket (an error), and the turning of a span's ends by Out and In. -/
import Derived.Test.YtjnhkfjhkhbneaaSpan3
import Derived.StillTailTactics
namespace Go.Proofs.Ytjnhkfjhkhbneaa
open Go.RowKit SpanP

theorem floor_st (t n x : Int) (w : World) (hx : fl t n = x) (h0 : 1 ≤ n) (h1 : n ≤ 1099511627776) (h2 : -4611687117939015680 ≤ t) (h3 : t ≤ 4611687117939015680) :
    Calls Try.prog 67 #[.int .i64 t, .int .i64 n] w fun e w' => e = .returned (.int .i64 x) ∧ w' = w :=
  (floor_any t n w h0 h1 h2 h3).mono fun e w' ⟨he, hw⟩ => ⟨by rw [he, hx], hw.symm⟩

set_option maxRecDepth 100000 in
set_option maxHeartbeats 400000 in
theorem turn_out (f t n : Int) (bn : Nat) (w : World) (hn : w.cell? ⟨bn, 0, none⟩ = some (.int .i64 n)) (h0 : 1 ≤ n) (h1 : n ≤ 1099511627776) (h2 : -4611687117939015680 ≤ f ∧ f ≤ 4611687117939015679) (h3 : -4611687117939015680 ≤ t ∧ t ≤ 4611687117939015679) :
    Calls Try.prog 66 #[.agg #[.int .i64 f, .int .i64 t], .pointer (some ⟨bn, 0, none⟩)] w fun e w' => e = .returned (.agg #[.int .i64 (fl f n), .int .i64 (ce t n)]) ∧ Below w.heap.size w w' := by
  have hlt : bn < w.heap.size := block_lt_of_cell hn
  have hne : ¬ bn = w.heap.size := by omega
  have hne' : ¬ w.heap.size = bn := by omega
  have g1 := fl_le (-t) n h0
  have g2 := lt_fl (-t) n h0
  obtain ⟨x, hx⟩ : ∃ x, fl f n = x := ⟨_, rfl⟩
  obtain ⟨y, hy⟩ : ∃ y, fl (-t) n = y := ⟨_, rfl⟩
  have hc : ce t n = -y := by rw [← hy]; rfl
  rw [hx, hc]
  rw [hy] at g1 g2
  have k1 : IntKind.i64.wrap (-t) = -t := IntWalk.i64_in _ (by omega)
  have k2 : IntKind.i64.wrap (-y) = -y := IntWalk.i64_in _ (by omega)
  have C1 := Lib.hid (fun w => floor_st f n x w hx (by omega) (by omega) (by omega) (by omega))
  have C2 := Lib.hid (fun w => floor_st (-t) n y w hy (by omega) (by omega) (by omega) (by omega))
  clear g1 g2 h2 h3 hx hy hc
  go_enter Try.func66, Try.ntmps66
  go_wp2
  refine wp_region_still_tail 11 (by kernel_rfl) (by kernel_rfl) ?_
  simp only [List.take_succ_cons, List.take_zero, List.drop_succ_cons, List.drop_zero]
  change wpStill _ _ (World.drew _) (fun a' => wpList _ _ _ _ a' (World.drew _)) _ _
  still_step
  still_step
  still_step
  still_call (C1.out _)
  still_step
  still_step
  still_step
  still_step
  still_call (C2.out _)
  still_step
  still_step
  refine wpStill_nil ?_
  go_wp2
  refine bodyPost_ret (v := .agg #[.int .i64 x, .int .i64 (-y)]) (by simp [results, Try.results66, go_sem]) rfl ⟨rfl, ?_⟩
  exact (((Below.refl _ _).alloc (Nat.le_refl _) _).alloc (by simp) _).drew

set_option maxRecDepth 100000 in
set_option maxHeartbeats 400000 in
theorem turn_in (f t n : Int) (bn : Nat) (w : World) (hn : w.cell? ⟨bn, 0, none⟩ = some (.int .i64 n)) (h0 : 1 ≤ n) (h1 : n ≤ 1099511627776) (h2 : -4611687117939015680 ≤ f ∧ f ≤ 4611687117939015679) (h3 : -4611687117939015680 ≤ t ∧ t ≤ 4611687117939015679) :
    Calls Try.prog 68 #[.agg #[.int .i64 f, .int .i64 t], .pointer (some ⟨bn, 0, none⟩)] w fun e w' => e = .returned (.agg #[.int .i64 (ce f n), .int .i64 (fl t n)]) ∧ Below w.heap.size w w' := by
  have hlt : bn < w.heap.size := block_lt_of_cell hn
  have hne : ¬ bn = w.heap.size := by omega
  have hne' : ¬ w.heap.size = bn := by omega
  have g1 := fl_le (-f) n h0
  have g2 := lt_fl (-f) n h0
  obtain ⟨x, hx⟩ : ∃ x, fl t n = x := ⟨_, rfl⟩
  obtain ⟨y, hy⟩ : ∃ y, fl (-f) n = y := ⟨_, rfl⟩
  have hc : ce f n = -y := by rw [← hy]; rfl
  rw [hx, hc]
  rw [hy] at g1 g2
  have k1 : IntKind.i64.wrap (-f) = -f := IntWalk.i64_in _ (by omega)
  have k2 : IntKind.i64.wrap (-y) = -y := IntWalk.i64_in _ (by omega)
  have C1 := Lib.hid (fun w => floor_st t n x w hx (by omega) (by omega) (by omega) (by omega))
  have C2 := Lib.hid (fun w => floor_st (-f) n y w hy (by omega) (by omega) (by omega) (by omega))
  clear g1 g2 h2 h3 hx hy hc
  go_enter Try.func68, Try.ntmps68
  go_wp2
  refine wp_region_still_tail 11 (by kernel_rfl) (by kernel_rfl) ?_
  simp only [List.take_succ_cons, List.take_zero, List.drop_succ_cons, List.drop_zero]
  change wpStill _ _ (World.drew _) (fun a' => wpList _ _ _ _ a' (World.drew _)) _ _
  still_step
  still_step
  still_step
  still_step
  still_call (C2.out _)
  still_step
  still_step
  still_step
  still_step
  still_call (C1.out _)
  still_step
  refine wpStill_nil ?_
  go_wp2
  refine bodyPost_ret (v := .agg #[.int .i64 (-y), .int .i64 x]) (by simp [results, Try.results68, go_sem]) rfl ⟨rfl, ?_⟩
  exact (((Below.refl _ _).alloc (Nat.le_refl _) _).alloc (by simp) _).drew

set_option maxHeartbeats 400000 in
theorem bucket_bad (t n x : Int) (w : World) (h : wrongN n [t] = x) (hx : (x != 0) = true) :
    Calls Try.prog 30 #[.int .i64 t, .int .i64 n] w fun e w' => e = .returned (.tuple #[.agg #[.int .i64 0, .int .i64 0], .int .i64 x]) ∧ Below w.heap.size w w' := by
  have H := Lib.hid h
  clear h
  go_enter Try.func30, Try.ntmps30
  go_wp2_with fail
  refine (floor_bad t n x _ H.out hx).mono ?_
  rintro e w1 ⟨rfl, hb⟩
  have hc0 : w1.cell? ⟨w.heap.size, 0, none⟩ = some (.int .i64 0) := by
    rw [hb.cell (by simp)]; rw [cell_of_row _ _ _ _ _ _ (heap_alloc_new _ _)]; rfl
  have hc1 : w1.cell? ⟨w.heap.size, 1, none⟩ = some (.int .i64 0) := by
    rw [hb.cell (by simp)]; rw [cell_of_row _ _ _ _ _ _ (heap_alloc_new _ _)]; rfl
  have hf0 : w1.frozen? ⟨w.heap.size, 0, none⟩ = false := by
    rw [hb.frozen (by simp)]; exact frozen_of_row _ _ _ _ _ (heap_alloc_new _ _)
  have hf1 : w1.frozen? ⟨w.heap.size, 1, none⟩ = false := by
    rw [hb.frozen (by simp)]; exact frozen_of_row _ _ _ _ _ (heap_alloc_new _ _)
  have hb' : Below w.heap.size w w1 := ((Below.refl _ _).alloc (Nat.le_refl _) _).trans (hb.mono (by simp))
  clear hb
  go_wp2_with fail
  refine bodyPost_ret (v := .tuple #[.agg #[.int .i64 0, .int .i64 0], .int .i64 x]) (by simp [results, Try.results30, go_sem, hc0, hc1]) rfl ⟨rfl, ?_⟩
  exact (hb'.setCell (by simp) _).setCell (by simp) _

end Go.Proofs.Ytjnhkfjhkhbneaa
