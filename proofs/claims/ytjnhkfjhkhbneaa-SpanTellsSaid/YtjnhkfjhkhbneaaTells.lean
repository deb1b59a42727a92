/- The walk of SpanTells: it returns true and changes nothing that was there. No condition. -/
import Derived.Test.YtjnhkfjhkhbneaaRef9b
namespace Go.Proofs.Ytjnhkfjhkhbneaa
open Go.RowKit Go.BigFrame SpanP

theorem rwrong_1g (n t : Int) (ty : TypeId) (g : Nat) (w : World) (x : Int) (hx : wrongN n [t] = x) (hg : w.heap[g]? = some (.cells #[.int .i64 t] ty)) :
    Calls Try.prog 37 #[.int .i64 n, .slice (some ⟨g, 0, none⟩) 1 1] w fun e w' => e = .returned (.int .i64 x) ∧ w = w' :=
  hx ▸ rwrong_any n [t] g 1 w (by simp) (fun i hi => by
    match i, hi with
    | 0, _ => rw [cell_of_row _ _ _ _ _ _ hg]; rfl)
theorem rwrong_2g (n s t : Int) (ty : TypeId) (g : Nat) (w : World) (x : Int) (hx : wrongN n [s, t] = x) (hg : w.heap[g]? = some (.cells #[.int .i64 s, .int .i64 t] ty)) :
    Calls Try.prog 37 #[.int .i64 n, .slice (some ⟨g, 0, none⟩) 2 2] w fun e w' => e = .returned (.int .i64 x) ∧ w = w' :=
  hx ▸ rwrong_any n [s, t] g 2 w (by simp) (fun i hi => by
    match i, hi with
    | 0, _ => rw [cell_of_row _ _ _ _ _ _ hg]; rfl
    | 1, _ => rw [cell_of_row _ _ _ _ _ _ hg]; rfl)
theorem rtime_as (t : Int) (b : Bool) (h : timeB t = b) (w : World) : Calls Try.prog 42 #[.int .i64 t] w fun e w' => e = .returned (.bool b) ∧ w = w' := h ▸ rtime_any t w
theorem rwidth_as (t : Int) (b : Bool) (h : widthB t = b) (w : World) : Calls Try.prog 43 #[.int .i64 t] w fun e w' => e = .returned (.bool b) ∧ w = w' := h ▸ rwidth_any t w
theorem hasB_lo {f t x : Int} (h : f ≤ x) : hasB f t x = decide (x < t) := by rw [hasB, decide_eq_true h]; rfl
theorem hasB_no {f t x : Int} (h : ¬ f ≤ x) : hasB f t x = false := by rw [hasB, decide_eq_false h]; rfl

set_option maxRecDepth 100000 in
set_option maxHeartbeats 6400000 in
theorem tells_00 (t n sf st of_ ot : Int) (w : World) (hA : wrongN n [t] = 0) (hB : wrongN n [sf, st] = 0) :
    Calls Try.prog 9 #[.int .i64 t, .int .i64 n, .agg #[.int .i64 sf, .int .i64 st], .agg #[.int .i64 of_, .int .i64 ot]] w fun e w' => e = .returned (.bool true) ∧ Below w.heap.size w w' := by
  obtain ⟨n1, n2, hb⟩ := wrongN_ok hA
  have tb := hb t (by simp)
  clear hb
  have q1 := fl_le t n n1
  have q2 := lt_fl t n n1
  obtain ⟨aF, haF⟩ : ∃ y, fl t n = y := ⟨_, rfl⟩
  obtain ⟨cF, hcF⟩ : ∃ y, ce t n = y := ⟨_, rfl⟩
  have R1 := Lib.hid (fun g w => rwrong_1g n t 2 g w 0 hA)
  have C1 := Lib.hid (floor_as t n aF hA haF)
  have C2 := Lib.hid (ceil_as t n cF hA hcF)
  have C3 := Lib.hid (bucket_as t n aF (aF + n) hA haF (by rw [haF]))
  have C4 := Lib.hid (fun w => haF ▸ rfloor_any t n w n1 n2 (by omega) (by omega) : ∀ w, Calls Try.prog 38 #[.int .i64 t, .int .i64 n] w fun e w' => e = .returned (.int .i64 aF) ∧ w' = w)
  have C5 := Lib.hid (fun w => hcF ▸ rceil_any t n w n1 n2 (by omega) (by omega) : ∀ w, Calls Try.prog 39 #[.int .i64 t, .int .i64 n] w fun e w' => e = .returned (.int .i64 cF) ∧ w' = w)
  rw [haF] at q1 q2
  clear haF hcF hA
  obtain ⟨m1, m2, hb⟩ := wrongN_ok hB
  have fb := hb sf (by simp)
  have sb := hb st (by simp)
  clear hb
  obtain ⟨oF, hoF⟩ : ∃ y, outF sf st n = y := ⟨_, rfl⟩
  obtain ⟨oT, hoT⟩ : ∃ y, outT sf st n = y := ⟨_, rfl⟩
  obtain ⟨iF, hiF⟩ : ∃ y, inF sf st n = y := ⟨_, rfl⟩
  obtain ⟨iT, hiT⟩ : ∃ y, inT sf st n = y := ⟨_, rfl⟩
  have R2 := Lib.hid (fun g w => rwrong_2g n sf st 2 g w 0 hB)
  have C6 := Lib.hid (out_as sf st n oF oT hB hoF hoT)
  have C7 := Lib.hid (in_as sf st n iF iT hB hiF hiT)
  have C8 := Lib.hid (fun w => rout_ok sf st n oF oT w hoF hoT m1 m2 fb sb)
  have C9 := Lib.hid (fun w => rin_ok sf st n iF iT w hiF hiT m1 m2 fb sb)
  clear hoF hoT hiF hiT hB fb sb m1 m2
  obtain ⟨hF, hhF⟩ : ∃ y, andF sf st of_ ot = y := ⟨_, rfl⟩
  obtain ⟨hT, hhT⟩ : ∃ y, andT sf st of_ ot = y := ⟨_, rfl⟩
  obtain ⟨p, hp⟩ : ∃ y, timeB t = y := ⟨_, rfl⟩
  obtain ⟨q, hq⟩ : ∃ y, widthB n = y := ⟨_, rfl⟩
  have D1 := Lib.hid (time_as t p hp)
  have D2 := Lib.hid (rtime_as t p hp)
  have D3 := Lib.hid (width_as n q hq)
  have D4 := Lib.hid (rwidth_as n q hq)
  have D5 := Lib.hid (empty_as sf st (decide (st ≤ sf)) rfl)
  have D6 := Lib.hid (and_as sf st of_ ot hF hT hhF hhT)
  have D7 := Lib.hid (fun w => rand_any sf st of_ ot hF hT hhF hhT w)
  clear hhF hhT hp hq
  go_enter Try.func9, Try.ntmps9
  go_wp2_with fail
  refine (R1.out _ _ (heap3_new w _ _ _)).mono ?_
  rintro e w' ⟨rfl, rfl⟩
  go_wp2_with fail
  refine (C1.out _).mono ?_
  rintro e w1 ⟨rfl, hb1⟩
  have hB1 : Below w.heap.size w w1 := ((((Below.refl _ w).alloc (Nat.le_refl _) _).alloc (by simp) _).alloc (by simp; omega) _).trans (hb1.mono (by simp; omega))
  have kS1 : w1.heap[w.heap.size]? = some (.cells #[.int .i64 sf, .int .i64 st] 23) := heap_keep hb1 (heap_keep_alloc _ (heap_alloc2_old w _ _))
  have kO1 : w1.heap[w.heap.size + 1]? = some (.cells #[.int .i64 of_, .int .i64 ot] 23) := heap_keep hb1 (heap_keep_alloc _ (heap_alloc2_new w _ _))
  clear hb1
  go_wp2_with fail
  refine (C2.out _).mono ?_
  rintro e w2 ⟨rfl, hb2⟩
  have hB2 : Below w.heap.size w w2 := hB1.trans (hb2.mono hB1.size)
  have kS2 := heap_keep hb2 kS1
  have kO2 := heap_keep hb2 kO1
  clear hb2 hB1 kS1 kO1
  go_wp2_with fail
  refine (C3.out _).mono ?_
  rintro e w3 ⟨rfl, hb3⟩
  have hB3 : Below w.heap.size w w3 := hB2.trans (hb3.mono hB2.size)
  have kS3 := heap_keep hb3 kS2
  have kO3 := heap_keep hb3 kO2
  clear hb3 hB2 kS2 kO2
  have s0 : (w3.alloc (.cells #[.int .i64 aF, .int .i64 (aF + n)] 23)).cell? ⟨w.heap.size, 0, none⟩ = some (.int .i64 sf) := by rw [cell_of_row _ _ _ _ _ _ (heap_keep_alloc _ kS3)]; rfl
  have s1 : (w3.alloc (.cells #[.int .i64 aF, .int .i64 (aF + n)] 23)).cell? ⟨w.heap.size, 1, none⟩ = some (.int .i64 st) := by rw [cell_of_row _ _ _ _ _ _ (heap_keep_alloc _ kS3)]; rfl
  have lt3 := heap_lt kS3
  go_wp2_with (first | ((with_reducible refine (C4.out _).mono ?_); rintro e w' ⟨rfl, rfl⟩) | ((with_reducible refine (C5.out _).mono ?_); rintro e w' ⟨rfl, rfl⟩))
  refine (R2.out _ _ (heap_alloc2_new w3 _ _)).mono ?_
  rintro e w' ⟨rfl, rfl⟩
  have s2 : ((w3.alloc (.cells #[.int .i64 aF, .int .i64 (aF + n)] 23)).alloc (.cells #[.int .i64 sf, .int .i64 st] 2)).cell? ⟨w.heap.size, 0, none⟩ = some (.int .i64 sf) := by rw [cell_of_row _ _ _ _ _ _ (heap_keep_alloc _ (heap_keep_alloc _ kS3))]; rfl
  have s3 : ((w3.alloc (.cells #[.int .i64 aF, .int .i64 (aF + n)] 23)).alloc (.cells #[.int .i64 sf, .int .i64 st] 2)).cell? ⟨w.heap.size, 1, none⟩ = some (.int .i64 st) := by rw [cell_of_row _ _ _ _ _ _ (heap_keep_alloc _ (heap_keep_alloc _ kS3))]; rfl
  go_wp2_with fail
  refine (C6.out _).mono ?_
  rintro e w4 ⟨rfl, hb4⟩
  have hB4 : Below w.heap.size w w4 := ((hB3.alloc hB3.size _).alloc (by have := hB3.size; simp; omega) _).trans (hb4.mono (by have := hB3.size; simp; omega))
  have kS4 := heap_keep hb4 (heap_keep_alloc _ (heap_keep_alloc _ kS3))
  have kO4 := heap_keep hb4 (heap_keep_alloc _ (heap_keep_alloc _ kO3))
  clear hb4 hB3 kS3 kO3 s0 s1 s2 s3 lt3
  have s0 : (w4.alloc (.cells #[.int .i64 oF, .int .i64 oT] 23)).cell? ⟨w.heap.size, 0, none⟩ = some (.int .i64 sf) := by rw [cell_of_row _ _ _ _ _ _ (heap_keep_alloc _ kS4)]; rfl
  have s1 : (w4.alloc (.cells #[.int .i64 oF, .int .i64 oT] 23)).cell? ⟨w.heap.size, 1, none⟩ = some (.int .i64 st) := by rw [cell_of_row _ _ _ _ _ _ (heap_keep_alloc _ kS4)]; rfl
  have lt4 := heap_lt kS4
  go_wp2_with fail
  refine (C7.out _).mono ?_
  rintro e w5 ⟨rfl, hb5⟩
  have hB5 : Below w.heap.size w w5 := (hB4.alloc hB4.size _).trans (hb5.mono (by have := hB4.size; simp; omega))
  have kS5 := heap_keep hb5 (heap_keep_alloc _ kS4)
  have kO5 := heap_keep hb5 (heap_keep_alloc _ kO4)
  have kX5 : w5.heap[w4.heap.size]? = some (.cells #[.int .i64 oF, .int .i64 oT] 23) := heap_keep hb5 (heap_alloc_new _ _)
  clear hb5 hB4 kS4 kO4 s0 s1 lt4
  go_wp2_with fail
  have kS := heap_keep_alloc (.cells #[.int .i64 iF, .int .i64 iT] 23) kS5
  have kO := heap_keep_alloc (.cells #[.int .i64 iF, .int .i64 iT] 23) kO5
  have kX := heap_keep_alloc (.cells #[.int .i64 iF, .int .i64 iT] 23) kX5
  have kY : (w5.alloc (.cells #[.int .i64 iF, .int .i64 iT] 23)).heap[w5.heap.size]? = some (.cells #[.int .i64 iF, .int .i64 iT] 23) := heap_alloc_new _ _
  have hBV : Below w.heap.size w (w5.alloc (.cells #[.int .i64 iF, .int .i64 iT] 23)) := hB5.alloc hB5.size _
  obtain ⟨V, hV⟩ : ∃ V, V = w5.alloc (.cells #[.int .i64 iF, .int .i64 iT] 23) := ⟨_, rfl⟩
  rw [← hV] at kS kO kX kY hBV ⊢
  clear hV kS5 kO5 kX5 hB5
  obtain ⟨gx, hgx⟩ : ∃ g, g = w4.heap.size := ⟨_, rfl⟩
  obtain ⟨gy, hgy⟩ : ∃ g, g = w5.heap.size := ⟨_, rfl⟩
  rw [← hgx] at kX ⊢
  rw [← hgy] at kY ⊢
  clear hgx hgy
  have a0 := Up.cell0 kS
  have a1 := Up.cell1 kS
  have x0 := Up.cell0 kX
  have x1 := Up.cell1 kX
  have y0 := Up.cell0 kY
  have y1 := Up.cell1 kY
  have KS := Lib.hid kS
  have KO := Lib.hid kO
  clear kS kO kX kY
  refine wp_region_up V.heap.size V (by kernel_rfl) (by kernel_rfl) (Below.refl _ _) ?_
  repeat (go_big_quiet_step (first | with_reducible exact Calls.up _ (Up.below _).size (C8.out _) | with_reducible exact Calls.up _ (Up.below _).size (C9.out _)))
  refine wpQuiet_nil ?_
  rintro U ⟨⟨_, hu⟩, rfl⟩
  have hBU : Below w.heap.size w U := hBV.trans (hu.mono hBV.size)
  have kS := heap_keep hu KS.out
  have kO := heap_keep hu KO.out
  clear a0 a1 x0 x1 y0 y1 hu KS KO hBV
  go_wp2_with fail
  have a0 := Up.cell0 kS
  have a1 := Up.cell1 kS
  have b0 := Up.cell0 kO
  have b1 := Up.cell1 kO
  clear kS kO
  by_cases hft : sf ≤ t
  · have D8 := Lib.hid (has_as sf st t (decide (t < st)) (hasB_lo hft))
    refine wp_region_up U.heap.size U (by kernel_rfl) (by kernel_rfl) (Below.refl _ _) ?_
    repeat (go_big_quiet_step (first | with_reducible exact Calls.same _ (D1.out _) | with_reducible exact Calls.same _ (D2.out _) | with_reducible exact Calls.same _ (D3.out _) | with_reducible exact Calls.same _ (D4.out _) | with_reducible exact Calls.up _ (Up.below _).size (D5.out _) | with_reducible exact Calls.up _ (Up.below _).size (D6.out _) | with_reducible exact Calls.up _ (Up.below _).size (D7.out _) | with_reducible exact Calls.up _ (Up.below _).size (D8.out _) | with_reducible exact Calls.up _ (Up.below _).size (wakes_any _)))
    refine wpQuiet_nil ?_
    rintro Y ⟨⟨_, hy⟩, rfl⟩
    have hBY : Below w.heap.size w Y := hBU.trans (hy.mono hBU.size)
    clear a0 a1 b0 b1 hy
    go_wp2_with fail
    go_ret
    exact ⟨rfl, hBY⟩
  · have D8 := Lib.hid (has_as sf st t false (hasB_no hft))
    refine wp_region_up U.heap.size U (by kernel_rfl) (by kernel_rfl) (Below.refl _ _) ?_
    repeat (go_big_quiet_step (first | with_reducible exact Calls.same _ (D1.out _) | with_reducible exact Calls.same _ (D2.out _) | with_reducible exact Calls.same _ (D3.out _) | with_reducible exact Calls.same _ (D4.out _) | with_reducible exact Calls.up _ (Up.below _).size (D5.out _) | with_reducible exact Calls.up _ (Up.below _).size (D6.out _) | with_reducible exact Calls.up _ (Up.below _).size (D7.out _) | with_reducible exact Calls.up _ (Up.below _).size (D8.out _) | with_reducible exact Calls.up _ (Up.below _).size (wakes_any _)))
    refine wpQuiet_nil ?_
    rintro Y ⟨⟨_, hy⟩, rfl⟩
    have hBY : Below w.heap.size w Y := hBU.trans (hy.mono hBU.size)
    clear a0 a1 b0 b1 hy
    go_wp2_with fail
    go_ret
    exact ⟨rfl, hBY⟩

set_option maxRecDepth 100000 in
set_option maxHeartbeats 6400000 in
theorem tells_01 (t n sf st of_ ot : Int) (w : World) (hA : wrongN n [t] = 0) (hB : ¬ wrongN n [sf, st] = 0) :
    Calls Try.prog 9 #[.int .i64 t, .int .i64 n, .agg #[.int .i64 sf, .int .i64 st], .agg #[.int .i64 of_, .int .i64 ot]] w fun e w' => e = .returned (.bool true) ∧ Below w.heap.size w w' := by
  obtain ⟨n1, n2, hb⟩ := wrongN_ok hA
  have tb := hb t (by simp)
  clear hb
  have q1 := fl_le t n n1
  have q2 := lt_fl t n n1
  obtain ⟨aF, haF⟩ : ∃ y, fl t n = y := ⟨_, rfl⟩
  obtain ⟨cF, hcF⟩ : ∃ y, ce t n = y := ⟨_, rfl⟩
  have R1 := Lib.hid (fun g w => rwrong_1g n t 2 g w 0 hA)
  have C1 := Lib.hid (floor_as t n aF hA haF)
  have C2 := Lib.hid (ceil_as t n cF hA hcF)
  have C3 := Lib.hid (bucket_as t n aF (aF + n) hA haF (by rw [haF]))
  have C4 := Lib.hid (fun w => haF ▸ rfloor_any t n w n1 n2 (by omega) (by omega) : ∀ w, Calls Try.prog 38 #[.int .i64 t, .int .i64 n] w fun e w' => e = .returned (.int .i64 aF) ∧ w' = w)
  have C5 := Lib.hid (fun w => hcF ▸ rceil_any t n w n1 n2 (by omega) (by omega) : ∀ w, Calls Try.prog 39 #[.int .i64 t, .int .i64 n] w fun e w' => e = .returned (.int .i64 cF) ∧ w' = w)
  rw [haF] at q1 q2
  clear haF hcF hA
  obtain ⟨x2, hx2⟩ : ∃ y, wrongN n [sf, st] = y := ⟨_, rfl⟩
  rw [hx2] at hB
  have ye : (x2 == 0) = false := by simp [hB]
  have yn : (x2 != 0) = true := by simp [hB]
  have R2 := Lib.hid (fun g w => rwrong_2g n sf st 2 g w x2 hx2)
  have C6 := Lib.hid (fun w => out_bad sf st n x2 w hx2 yn)
  have C7 := Lib.hid (fun w => in_bad sf st n x2 w hx2 yn)
  clear hx2 yn
  obtain ⟨hF, hhF⟩ : ∃ y, andF sf st of_ ot = y := ⟨_, rfl⟩
  obtain ⟨hT, hhT⟩ : ∃ y, andT sf st of_ ot = y := ⟨_, rfl⟩
  obtain ⟨p, hp⟩ : ∃ y, timeB t = y := ⟨_, rfl⟩
  obtain ⟨q, hq⟩ : ∃ y, widthB n = y := ⟨_, rfl⟩
  have D1 := Lib.hid (time_as t p hp)
  have D2 := Lib.hid (rtime_as t p hp)
  have D3 := Lib.hid (width_as n q hq)
  have D4 := Lib.hid (rwidth_as n q hq)
  have D5 := Lib.hid (empty_as sf st (decide (st ≤ sf)) rfl)
  have D6 := Lib.hid (and_as sf st of_ ot hF hT hhF hhT)
  have D7 := Lib.hid (fun w => rand_any sf st of_ ot hF hT hhF hhT w)
  clear hhF hhT hp hq
  go_enter Try.func9, Try.ntmps9
  go_wp2_with fail
  refine (R1.out _ _ (heap3_new w _ _ _)).mono ?_
  rintro e w' ⟨rfl, rfl⟩
  go_wp2_with fail
  refine (C1.out _).mono ?_
  rintro e w1 ⟨rfl, hb1⟩
  have hB1 : Below w.heap.size w w1 := ((((Below.refl _ w).alloc (Nat.le_refl _) _).alloc (by simp) _).alloc (by simp; omega) _).trans (hb1.mono (by simp; omega))
  have kS1 : w1.heap[w.heap.size]? = some (.cells #[.int .i64 sf, .int .i64 st] 23) := heap_keep hb1 (heap_keep_alloc _ (heap_alloc2_old w _ _))
  have kO1 : w1.heap[w.heap.size + 1]? = some (.cells #[.int .i64 of_, .int .i64 ot] 23) := heap_keep hb1 (heap_keep_alloc _ (heap_alloc2_new w _ _))
  clear hb1
  go_wp2_with fail
  refine (C2.out _).mono ?_
  rintro e w2 ⟨rfl, hb2⟩
  have hB2 : Below w.heap.size w w2 := hB1.trans (hb2.mono hB1.size)
  have kS2 := heap_keep hb2 kS1
  have kO2 := heap_keep hb2 kO1
  clear hb2 hB1 kS1 kO1
  go_wp2_with fail
  refine (C3.out _).mono ?_
  rintro e w3 ⟨rfl, hb3⟩
  have hB3 : Below w.heap.size w w3 := hB2.trans (hb3.mono hB2.size)
  have kS3 := heap_keep hb3 kS2
  have kO3 := heap_keep hb3 kO2
  clear hb3 hB2 kS2 kO2
  have s0 : (w3.alloc (.cells #[.int .i64 aF, .int .i64 (aF + n)] 23)).cell? ⟨w.heap.size, 0, none⟩ = some (.int .i64 sf) := by rw [cell_of_row _ _ _ _ _ _ (heap_keep_alloc _ kS3)]; rfl
  have s1 : (w3.alloc (.cells #[.int .i64 aF, .int .i64 (aF + n)] 23)).cell? ⟨w.heap.size, 1, none⟩ = some (.int .i64 st) := by rw [cell_of_row _ _ _ _ _ _ (heap_keep_alloc _ kS3)]; rfl
  have lt3 := heap_lt kS3
  go_wp2_with (first | ((with_reducible refine (C4.out _).mono ?_); rintro e w' ⟨rfl, rfl⟩) | ((with_reducible refine (C5.out _).mono ?_); rintro e w' ⟨rfl, rfl⟩))
  refine (R2.out _ _ (heap_alloc2_new w3 _ _)).mono ?_
  rintro e w' ⟨rfl, rfl⟩
  have s2 : ((w3.alloc (.cells #[.int .i64 aF, .int .i64 (aF + n)] 23)).alloc (.cells #[.int .i64 sf, .int .i64 st] 2)).cell? ⟨w.heap.size, 0, none⟩ = some (.int .i64 sf) := by rw [cell_of_row _ _ _ _ _ _ (heap_keep_alloc _ (heap_keep_alloc _ kS3))]; rfl
  have s3 : ((w3.alloc (.cells #[.int .i64 aF, .int .i64 (aF + n)] 23)).alloc (.cells #[.int .i64 sf, .int .i64 st] 2)).cell? ⟨w.heap.size, 1, none⟩ = some (.int .i64 st) := by rw [cell_of_row _ _ _ _ _ _ (heap_keep_alloc _ (heap_keep_alloc _ kS3))]; rfl
  go_wp2_with fail
  refine (C6.out _).mono ?_
  rintro e w4 ⟨rfl, hb4⟩
  have hB4 : Below w.heap.size w w4 := ((hB3.alloc hB3.size _).alloc (by have := hB3.size; simp; omega) _).trans (hb4.mono (by have := hB3.size; simp; omega))
  have kS4 := heap_keep hb4 (heap_keep_alloc _ (heap_keep_alloc _ kS3))
  have kO4 := heap_keep hb4 (heap_keep_alloc _ (heap_keep_alloc _ kO3))
  clear hb4 hB3 kS3 kO3 s0 s1 s2 s3 lt3
  have s0 : (w4.alloc (.cells #[.int .i64 0, .int .i64 0] 23)).cell? ⟨w.heap.size, 0, none⟩ = some (.int .i64 sf) := by rw [cell_of_row _ _ _ _ _ _ (heap_keep_alloc _ kS4)]; rfl
  have s1 : (w4.alloc (.cells #[.int .i64 0, .int .i64 0] 23)).cell? ⟨w.heap.size, 1, none⟩ = some (.int .i64 st) := by rw [cell_of_row _ _ _ _ _ _ (heap_keep_alloc _ kS4)]; rfl
  have lt4 := heap_lt kS4
  go_wp2_with fail
  refine (C7.out _).mono ?_
  rintro e w5 ⟨rfl, hb5⟩
  have hB5 : Below w.heap.size w w5 := (hB4.alloc hB4.size _).trans (hb5.mono (by have := hB4.size; simp; omega))
  have kS5 := heap_keep hb5 (heap_keep_alloc _ kS4)
  have kO5 := heap_keep hb5 (heap_keep_alloc _ kO4)
  have kX5 : w5.heap[w4.heap.size]? = some (.cells #[.int .i64 0, .int .i64 0] 23) := heap_keep hb5 (heap_alloc_new _ _)
  clear hb5 hB4 kS4 kO4 s0 s1 lt4
  have x0 : (w5.alloc (.cells #[.int .i64 0, .int .i64 0] 23)).cell? ⟨w4.heap.size, 0, none⟩ = some (.int .i64 0) := by rw [cell_of_row _ _ _ _ _ _ (heap_keep_alloc _ kX5)]; rfl
  have x1_ : (w5.alloc (.cells #[.int .i64 0, .int .i64 0] 23)).cell? ⟨w4.heap.size, 1, none⟩ = some (.int .i64 0) := by rw [cell_of_row _ _ _ _ _ _ (heap_keep_alloc _ kX5)]; rfl
  have ltx := heap_lt kX5
  go_wp2_with fail
  clear x0 x1_ ltx
  have kS := heap_keep_alloc (.cells #[.int .i64 0, .int .i64 0] 23) kS5
  have kO := heap_keep_alloc (.cells #[.int .i64 0, .int .i64 0] 23) kO5
  have kX := heap_keep_alloc (.cells #[.int .i64 0, .int .i64 0] 23) kX5
  have kY : (w5.alloc (.cells #[.int .i64 0, .int .i64 0] 23)).heap[w5.heap.size]? = some (.cells #[.int .i64 0, .int .i64 0] 23) := heap_alloc_new _ _
  have hBV : Below w.heap.size w (w5.alloc (.cells #[.int .i64 0, .int .i64 0] 23)) := hB5.alloc hB5.size _
  obtain ⟨V, hV⟩ : ∃ V, V = w5.alloc (.cells #[.int .i64 0, .int .i64 0] 23) := ⟨_, rfl⟩
  rw [← hV] at kS kO kX kY hBV ⊢
  clear hV kS5 kO5 kX5 hB5
  obtain ⟨gx, hgx⟩ : ∃ g, g = w4.heap.size := ⟨_, rfl⟩
  obtain ⟨gy, hgy⟩ : ∃ g, g = w5.heap.size := ⟨_, rfl⟩
  rw [← hgx] at kX ⊢
  rw [← hgy] at kY ⊢
  clear hgx hgy
  have a0 := Up.cell0 kS
  have a1 := Up.cell1 kS
  have b0 := Up.cell0 kO
  have b1 := Up.cell1 kO
  clear kS kO kX kY
  by_cases hft : sf ≤ t
  · have D8 := Lib.hid (has_as sf st t (decide (t < st)) (hasB_lo hft))
    refine wp_region_up V.heap.size V (by kernel_rfl) (by kernel_rfl) (Below.refl _ _) ?_
    repeat (go_big_quiet_step (first | with_reducible exact Calls.same _ (D1.out _) | with_reducible exact Calls.same _ (D2.out _) | with_reducible exact Calls.same _ (D3.out _) | with_reducible exact Calls.same _ (D4.out _) | with_reducible exact Calls.up _ (Up.below _).size (D5.out _) | with_reducible exact Calls.up _ (Up.below _).size (D6.out _) | with_reducible exact Calls.up _ (Up.below _).size (D7.out _) | with_reducible exact Calls.up _ (Up.below _).size (D8.out _) | with_reducible exact Calls.up _ (Up.below _).size (wakes_any _)))
    refine wpQuiet_nil ?_
    rintro Y ⟨⟨_, hy⟩, rfl⟩
    have hBY : Below w.heap.size w Y := hBV.trans (hy.mono hBV.size)
    clear a0 a1 b0 b1 hy
    go_wp2_with fail
    go_ret
    exact ⟨rfl, hBY⟩
  · have D8 := Lib.hid (has_as sf st t false (hasB_no hft))
    refine wp_region_up V.heap.size V (by kernel_rfl) (by kernel_rfl) (Below.refl _ _) ?_
    repeat (go_big_quiet_step (first | with_reducible exact Calls.same _ (D1.out _) | with_reducible exact Calls.same _ (D2.out _) | with_reducible exact Calls.same _ (D3.out _) | with_reducible exact Calls.same _ (D4.out _) | with_reducible exact Calls.up _ (Up.below _).size (D5.out _) | with_reducible exact Calls.up _ (Up.below _).size (D6.out _) | with_reducible exact Calls.up _ (Up.below _).size (D7.out _) | with_reducible exact Calls.up _ (Up.below _).size (D8.out _) | with_reducible exact Calls.up _ (Up.below _).size (wakes_any _)))
    refine wpQuiet_nil ?_
    rintro Y ⟨⟨_, hy⟩, rfl⟩
    have hBY : Below w.heap.size w Y := hBV.trans (hy.mono hBV.size)
    clear a0 a1 b0 b1 hy
    go_wp2_with fail
    go_ret
    exact ⟨rfl, hBY⟩

set_option maxRecDepth 100000 in
set_option maxHeartbeats 6400000 in
theorem tells_10 (t n sf st of_ ot : Int) (w : World) (hA : ¬ wrongN n [t] = 0) (hB : wrongN n [sf, st] = 0) :
    Calls Try.prog 9 #[.int .i64 t, .int .i64 n, .agg #[.int .i64 sf, .int .i64 st], .agg #[.int .i64 of_, .int .i64 ot]] w fun e w' => e = .returned (.bool true) ∧ Below w.heap.size w w' := by
  obtain ⟨x1, hx1⟩ : ∃ y, wrongN n [t] = y := ⟨_, rfl⟩
  rw [hx1] at hA
  have xe : (x1 == 0) = false := by simp [hA]
  have xn : (x1 != 0) = true := by simp [hA]
  have R1 := Lib.hid (fun g w => rwrong_1g n t 2 g w x1 hx1)
  have C1 := Lib.hid (fun w => floor_bad t n x1 w hx1 xn)
  have C2 := Lib.hid (fun w => ceil_bad t n x1 w hx1 xn)
  have C3 := Lib.hid (fun w => bucket_bad t n x1 w hx1 xn)
  clear hx1 xn
  obtain ⟨m1, m2, hb⟩ := wrongN_ok hB
  have fb := hb sf (by simp)
  have sb := hb st (by simp)
  clear hb
  obtain ⟨oF, hoF⟩ : ∃ y, outF sf st n = y := ⟨_, rfl⟩
  obtain ⟨oT, hoT⟩ : ∃ y, outT sf st n = y := ⟨_, rfl⟩
  obtain ⟨iF, hiF⟩ : ∃ y, inF sf st n = y := ⟨_, rfl⟩
  obtain ⟨iT, hiT⟩ : ∃ y, inT sf st n = y := ⟨_, rfl⟩
  have R2 := Lib.hid (fun g w => rwrong_2g n sf st 2 g w 0 hB)
  have C6 := Lib.hid (out_as sf st n oF oT hB hoF hoT)
  have C7 := Lib.hid (in_as sf st n iF iT hB hiF hiT)
  have C8 := Lib.hid (fun w => rout_ok sf st n oF oT w hoF hoT m1 m2 fb sb)
  have C9 := Lib.hid (fun w => rin_ok sf st n iF iT w hiF hiT m1 m2 fb sb)
  clear hoF hoT hiF hiT hB fb sb m1 m2
  obtain ⟨hF, hhF⟩ : ∃ y, andF sf st of_ ot = y := ⟨_, rfl⟩
  obtain ⟨hT, hhT⟩ : ∃ y, andT sf st of_ ot = y := ⟨_, rfl⟩
  obtain ⟨p, hp⟩ : ∃ y, timeB t = y := ⟨_, rfl⟩
  obtain ⟨q, hq⟩ : ∃ y, widthB n = y := ⟨_, rfl⟩
  have D1 := Lib.hid (time_as t p hp)
  have D2 := Lib.hid (rtime_as t p hp)
  have D3 := Lib.hid (width_as n q hq)
  have D4 := Lib.hid (rwidth_as n q hq)
  have D5 := Lib.hid (empty_as sf st (decide (st ≤ sf)) rfl)
  have D6 := Lib.hid (and_as sf st of_ ot hF hT hhF hhT)
  have D7 := Lib.hid (fun w => rand_any sf st of_ ot hF hT hhF hhT w)
  clear hhF hhT hp hq
  go_enter Try.func9, Try.ntmps9
  go_wp2_with fail
  refine (R1.out _ _ (heap3_new w _ _ _)).mono ?_
  rintro e w' ⟨rfl, rfl⟩
  go_wp2_with fail
  refine (C1.out _).mono ?_
  rintro e w1 ⟨rfl, hb1⟩
  have hB1 : Below w.heap.size w w1 := ((((Below.refl _ w).alloc (Nat.le_refl _) _).alloc (by simp) _).alloc (by simp; omega) _).trans (hb1.mono (by simp; omega))
  have kS1 : w1.heap[w.heap.size]? = some (.cells #[.int .i64 sf, .int .i64 st] 23) := heap_keep hb1 (heap_keep_alloc _ (heap_alloc2_old w _ _))
  have kO1 : w1.heap[w.heap.size + 1]? = some (.cells #[.int .i64 of_, .int .i64 ot] 23) := heap_keep hb1 (heap_keep_alloc _ (heap_alloc2_new w _ _))
  clear hb1
  go_wp2_with fail
  refine (C2.out _).mono ?_
  rintro e w2 ⟨rfl, hb2⟩
  have hB2 : Below w.heap.size w w2 := hB1.trans (hb2.mono hB1.size)
  have kS2 := heap_keep hb2 kS1
  have kO2 := heap_keep hb2 kO1
  clear hb2 hB1 kS1 kO1
  go_wp2_with fail
  refine (C3.out _).mono ?_
  rintro e w3 ⟨rfl, hb3⟩
  have hB3 : Below w.heap.size w w3 := hB2.trans (hb3.mono hB2.size)
  have kS3 := heap_keep hb3 kS2
  have kO3 := heap_keep hb3 kO2
  clear hb3 hB2 kS2 kO2
  have s0 : (w3.alloc (.cells #[.int .i64 0, .int .i64 0] 23)).cell? ⟨w.heap.size, 0, none⟩ = some (.int .i64 sf) := by rw [cell_of_row _ _ _ _ _ _ (heap_keep_alloc _ kS3)]; rfl
  have s1 : (w3.alloc (.cells #[.int .i64 0, .int .i64 0] 23)).cell? ⟨w.heap.size, 1, none⟩ = some (.int .i64 st) := by rw [cell_of_row _ _ _ _ _ _ (heap_keep_alloc _ kS3)]; rfl
  have lt3 := heap_lt kS3
  go_wp2_with fail
  refine (R2.out _ _ (heap_alloc2_new w3 _ _)).mono ?_
  rintro e w' ⟨rfl, rfl⟩
  have s2 : ((w3.alloc (.cells #[.int .i64 0, .int .i64 0] 23)).alloc (.cells #[.int .i64 sf, .int .i64 st] 2)).cell? ⟨w.heap.size, 0, none⟩ = some (.int .i64 sf) := by rw [cell_of_row _ _ _ _ _ _ (heap_keep_alloc _ (heap_keep_alloc _ kS3))]; rfl
  have s3 : ((w3.alloc (.cells #[.int .i64 0, .int .i64 0] 23)).alloc (.cells #[.int .i64 sf, .int .i64 st] 2)).cell? ⟨w.heap.size, 1, none⟩ = some (.int .i64 st) := by rw [cell_of_row _ _ _ _ _ _ (heap_keep_alloc _ (heap_keep_alloc _ kS3))]; rfl
  go_wp2_with fail
  refine (C6.out _).mono ?_
  rintro e w4 ⟨rfl, hb4⟩
  have hB4 : Below w.heap.size w w4 := ((hB3.alloc hB3.size _).alloc (by have := hB3.size; simp; omega) _).trans (hb4.mono (by have := hB3.size; simp; omega))
  have kS4 := heap_keep hb4 (heap_keep_alloc _ (heap_keep_alloc _ kS3))
  have kO4 := heap_keep hb4 (heap_keep_alloc _ (heap_keep_alloc _ kO3))
  clear hb4 hB3 kS3 kO3 s0 s1 s2 s3 lt3
  have s0 : (w4.alloc (.cells #[.int .i64 oF, .int .i64 oT] 23)).cell? ⟨w.heap.size, 0, none⟩ = some (.int .i64 sf) := by rw [cell_of_row _ _ _ _ _ _ (heap_keep_alloc _ kS4)]; rfl
  have s1 : (w4.alloc (.cells #[.int .i64 oF, .int .i64 oT] 23)).cell? ⟨w.heap.size, 1, none⟩ = some (.int .i64 st) := by rw [cell_of_row _ _ _ _ _ _ (heap_keep_alloc _ kS4)]; rfl
  have lt4 := heap_lt kS4
  go_wp2_with fail
  refine (C7.out _).mono ?_
  rintro e w5 ⟨rfl, hb5⟩
  have hB5 : Below w.heap.size w w5 := (hB4.alloc hB4.size _).trans (hb5.mono (by have := hB4.size; simp; omega))
  have kS5 := heap_keep hb5 (heap_keep_alloc _ kS4)
  have kO5 := heap_keep hb5 (heap_keep_alloc _ kO4)
  have kX5 : w5.heap[w4.heap.size]? = some (.cells #[.int .i64 oF, .int .i64 oT] 23) := heap_keep hb5 (heap_alloc_new _ _)
  clear hb5 hB4 kS4 kO4 s0 s1 lt4
  go_wp2_with fail
  have kS := heap_keep_alloc (.cells #[.int .i64 iF, .int .i64 iT] 23) kS5
  have kO := heap_keep_alloc (.cells #[.int .i64 iF, .int .i64 iT] 23) kO5
  have kX := heap_keep_alloc (.cells #[.int .i64 iF, .int .i64 iT] 23) kX5
  have kY : (w5.alloc (.cells #[.int .i64 iF, .int .i64 iT] 23)).heap[w5.heap.size]? = some (.cells #[.int .i64 iF, .int .i64 iT] 23) := heap_alloc_new _ _
  have hBV : Below w.heap.size w (w5.alloc (.cells #[.int .i64 iF, .int .i64 iT] 23)) := hB5.alloc hB5.size _
  obtain ⟨V, hV⟩ : ∃ V, V = w5.alloc (.cells #[.int .i64 iF, .int .i64 iT] 23) := ⟨_, rfl⟩
  rw [← hV] at kS kO kX kY hBV ⊢
  clear hV kS5 kO5 kX5 hB5
  obtain ⟨gx, hgx⟩ : ∃ g, g = w4.heap.size := ⟨_, rfl⟩
  obtain ⟨gy, hgy⟩ : ∃ g, g = w5.heap.size := ⟨_, rfl⟩
  rw [← hgx] at kX ⊢
  rw [← hgy] at kY ⊢
  clear hgx hgy
  have a0 := Up.cell0 kS
  have a1 := Up.cell1 kS
  have x0 := Up.cell0 kX
  have x1 := Up.cell1 kX
  have y0 := Up.cell0 kY
  have y1 := Up.cell1 kY
  have KS := Lib.hid kS
  have KO := Lib.hid kO
  clear kS kO kX kY
  refine wp_region_up V.heap.size V (by kernel_rfl) (by kernel_rfl) (Below.refl _ _) ?_
  repeat (go_big_quiet_step (first | with_reducible exact Calls.up _ (Up.below _).size (C8.out _) | with_reducible exact Calls.up _ (Up.below _).size (C9.out _)))
  refine wpQuiet_nil ?_
  rintro U ⟨⟨_, hu⟩, rfl⟩
  have hBU : Below w.heap.size w U := hBV.trans (hu.mono hBV.size)
  have kS := heap_keep hu KS.out
  have kO := heap_keep hu KO.out
  clear a0 a1 x0 x1 y0 y1 hu KS KO hBV
  go_wp2_with fail
  have a0 := Up.cell0 kS
  have a1 := Up.cell1 kS
  have b0 := Up.cell0 kO
  have b1 := Up.cell1 kO
  clear kS kO
  by_cases hft : sf ≤ t
  · have D8 := Lib.hid (has_as sf st t (decide (t < st)) (hasB_lo hft))
    refine wp_region_up U.heap.size U (by kernel_rfl) (by kernel_rfl) (Below.refl _ _) ?_
    repeat (go_big_quiet_step (first | with_reducible exact Calls.same _ (D1.out _) | with_reducible exact Calls.same _ (D2.out _) | with_reducible exact Calls.same _ (D3.out _) | with_reducible exact Calls.same _ (D4.out _) | with_reducible exact Calls.up _ (Up.below _).size (D5.out _) | with_reducible exact Calls.up _ (Up.below _).size (D6.out _) | with_reducible exact Calls.up _ (Up.below _).size (D7.out _) | with_reducible exact Calls.up _ (Up.below _).size (D8.out _) | with_reducible exact Calls.up _ (Up.below _).size (wakes_any _)))
    refine wpQuiet_nil ?_
    rintro Y ⟨⟨_, hy⟩, rfl⟩
    have hBY : Below w.heap.size w Y := hBU.trans (hy.mono hBU.size)
    clear a0 a1 b0 b1 hy
    go_wp2_with fail
    go_ret
    exact ⟨rfl, hBY⟩
  · have D8 := Lib.hid (has_as sf st t false (hasB_no hft))
    refine wp_region_up U.heap.size U (by kernel_rfl) (by kernel_rfl) (Below.refl _ _) ?_
    repeat (go_big_quiet_step (first | with_reducible exact Calls.same _ (D1.out _) | with_reducible exact Calls.same _ (D2.out _) | with_reducible exact Calls.same _ (D3.out _) | with_reducible exact Calls.same _ (D4.out _) | with_reducible exact Calls.up _ (Up.below _).size (D5.out _) | with_reducible exact Calls.up _ (Up.below _).size (D6.out _) | with_reducible exact Calls.up _ (Up.below _).size (D7.out _) | with_reducible exact Calls.up _ (Up.below _).size (D8.out _) | with_reducible exact Calls.up _ (Up.below _).size (wakes_any _)))
    refine wpQuiet_nil ?_
    rintro Y ⟨⟨_, hy⟩, rfl⟩
    have hBY : Below w.heap.size w Y := hBU.trans (hy.mono hBU.size)
    clear a0 a1 b0 b1 hy
    go_wp2_with fail
    go_ret
    exact ⟨rfl, hBY⟩

set_option maxRecDepth 100000 in
set_option maxHeartbeats 6400000 in
theorem tells_11 (t n sf st of_ ot : Int) (w : World) (hA : ¬ wrongN n [t] = 0) (hB : ¬ wrongN n [sf, st] = 0) :
    Calls Try.prog 9 #[.int .i64 t, .int .i64 n, .agg #[.int .i64 sf, .int .i64 st], .agg #[.int .i64 of_, .int .i64 ot]] w fun e w' => e = .returned (.bool true) ∧ Below w.heap.size w w' := by
  obtain ⟨x1, hx1⟩ : ∃ y, wrongN n [t] = y := ⟨_, rfl⟩
  rw [hx1] at hA
  have xe : (x1 == 0) = false := by simp [hA]
  have xn : (x1 != 0) = true := by simp [hA]
  have R1 := Lib.hid (fun g w => rwrong_1g n t 2 g w x1 hx1)
  have C1 := Lib.hid (fun w => floor_bad t n x1 w hx1 xn)
  have C2 := Lib.hid (fun w => ceil_bad t n x1 w hx1 xn)
  have C3 := Lib.hid (fun w => bucket_bad t n x1 w hx1 xn)
  clear hx1 xn
  obtain ⟨x2, hx2⟩ : ∃ y, wrongN n [sf, st] = y := ⟨_, rfl⟩
  rw [hx2] at hB
  have ye : (x2 == 0) = false := by simp [hB]
  have yn : (x2 != 0) = true := by simp [hB]
  have R2 := Lib.hid (fun g w => rwrong_2g n sf st 2 g w x2 hx2)
  have C6 := Lib.hid (fun w => out_bad sf st n x2 w hx2 yn)
  have C7 := Lib.hid (fun w => in_bad sf st n x2 w hx2 yn)
  clear hx2 yn
  obtain ⟨hF, hhF⟩ : ∃ y, andF sf st of_ ot = y := ⟨_, rfl⟩
  obtain ⟨hT, hhT⟩ : ∃ y, andT sf st of_ ot = y := ⟨_, rfl⟩
  obtain ⟨p, hp⟩ : ∃ y, timeB t = y := ⟨_, rfl⟩
  obtain ⟨q, hq⟩ : ∃ y, widthB n = y := ⟨_, rfl⟩
  have D1 := Lib.hid (time_as t p hp)
  have D2 := Lib.hid (rtime_as t p hp)
  have D3 := Lib.hid (width_as n q hq)
  have D4 := Lib.hid (rwidth_as n q hq)
  have D5 := Lib.hid (empty_as sf st (decide (st ≤ sf)) rfl)
  have D6 := Lib.hid (and_as sf st of_ ot hF hT hhF hhT)
  have D7 := Lib.hid (fun w => rand_any sf st of_ ot hF hT hhF hhT w)
  clear hhF hhT hp hq
  go_enter Try.func9, Try.ntmps9
  go_wp2_with fail
  refine (R1.out _ _ (heap3_new w _ _ _)).mono ?_
  rintro e w' ⟨rfl, rfl⟩
  go_wp2_with fail
  refine (C1.out _).mono ?_
  rintro e w1 ⟨rfl, hb1⟩
  have hB1 : Below w.heap.size w w1 := ((((Below.refl _ w).alloc (Nat.le_refl _) _).alloc (by simp) _).alloc (by simp; omega) _).trans (hb1.mono (by simp; omega))
  have kS1 : w1.heap[w.heap.size]? = some (.cells #[.int .i64 sf, .int .i64 st] 23) := heap_keep hb1 (heap_keep_alloc _ (heap_alloc2_old w _ _))
  have kO1 : w1.heap[w.heap.size + 1]? = some (.cells #[.int .i64 of_, .int .i64 ot] 23) := heap_keep hb1 (heap_keep_alloc _ (heap_alloc2_new w _ _))
  clear hb1
  go_wp2_with fail
  refine (C2.out _).mono ?_
  rintro e w2 ⟨rfl, hb2⟩
  have hB2 : Below w.heap.size w w2 := hB1.trans (hb2.mono hB1.size)
  have kS2 := heap_keep hb2 kS1
  have kO2 := heap_keep hb2 kO1
  clear hb2 hB1 kS1 kO1
  go_wp2_with fail
  refine (C3.out _).mono ?_
  rintro e w3 ⟨rfl, hb3⟩
  have hB3 : Below w.heap.size w w3 := hB2.trans (hb3.mono hB2.size)
  have kS3 := heap_keep hb3 kS2
  have kO3 := heap_keep hb3 kO2
  clear hb3 hB2 kS2 kO2
  have s0 : (w3.alloc (.cells #[.int .i64 0, .int .i64 0] 23)).cell? ⟨w.heap.size, 0, none⟩ = some (.int .i64 sf) := by rw [cell_of_row _ _ _ _ _ _ (heap_keep_alloc _ kS3)]; rfl
  have s1 : (w3.alloc (.cells #[.int .i64 0, .int .i64 0] 23)).cell? ⟨w.heap.size, 1, none⟩ = some (.int .i64 st) := by rw [cell_of_row _ _ _ _ _ _ (heap_keep_alloc _ kS3)]; rfl
  have lt3 := heap_lt kS3
  go_wp2_with fail
  refine (R2.out _ _ (heap_alloc2_new w3 _ _)).mono ?_
  rintro e w' ⟨rfl, rfl⟩
  have s2 : ((w3.alloc (.cells #[.int .i64 0, .int .i64 0] 23)).alloc (.cells #[.int .i64 sf, .int .i64 st] 2)).cell? ⟨w.heap.size, 0, none⟩ = some (.int .i64 sf) := by rw [cell_of_row _ _ _ _ _ _ (heap_keep_alloc _ (heap_keep_alloc _ kS3))]; rfl
  have s3 : ((w3.alloc (.cells #[.int .i64 0, .int .i64 0] 23)).alloc (.cells #[.int .i64 sf, .int .i64 st] 2)).cell? ⟨w.heap.size, 1, none⟩ = some (.int .i64 st) := by rw [cell_of_row _ _ _ _ _ _ (heap_keep_alloc _ (heap_keep_alloc _ kS3))]; rfl
  go_wp2_with fail
  refine (C6.out _).mono ?_
  rintro e w4 ⟨rfl, hb4⟩
  have hB4 : Below w.heap.size w w4 := ((hB3.alloc hB3.size _).alloc (by have := hB3.size; simp; omega) _).trans (hb4.mono (by have := hB3.size; simp; omega))
  have kS4 := heap_keep hb4 (heap_keep_alloc _ (heap_keep_alloc _ kS3))
  have kO4 := heap_keep hb4 (heap_keep_alloc _ (heap_keep_alloc _ kO3))
  clear hb4 hB3 kS3 kO3 s0 s1 s2 s3 lt3
  have s0 : (w4.alloc (.cells #[.int .i64 0, .int .i64 0] 23)).cell? ⟨w.heap.size, 0, none⟩ = some (.int .i64 sf) := by rw [cell_of_row _ _ _ _ _ _ (heap_keep_alloc _ kS4)]; rfl
  have s1 : (w4.alloc (.cells #[.int .i64 0, .int .i64 0] 23)).cell? ⟨w.heap.size, 1, none⟩ = some (.int .i64 st) := by rw [cell_of_row _ _ _ _ _ _ (heap_keep_alloc _ kS4)]; rfl
  have lt4 := heap_lt kS4
  go_wp2_with fail
  refine (C7.out _).mono ?_
  rintro e w5 ⟨rfl, hb5⟩
  have hB5 : Below w.heap.size w w5 := (hB4.alloc hB4.size _).trans (hb5.mono (by have := hB4.size; simp; omega))
  have kS5 := heap_keep hb5 (heap_keep_alloc _ kS4)
  have kO5 := heap_keep hb5 (heap_keep_alloc _ kO4)
  have kX5 : w5.heap[w4.heap.size]? = some (.cells #[.int .i64 0, .int .i64 0] 23) := heap_keep hb5 (heap_alloc_new _ _)
  clear hb5 hB4 kS4 kO4 s0 s1 lt4
  have x0 : (w5.alloc (.cells #[.int .i64 0, .int .i64 0] 23)).cell? ⟨w4.heap.size, 0, none⟩ = some (.int .i64 0) := by rw [cell_of_row _ _ _ _ _ _ (heap_keep_alloc _ kX5)]; rfl
  have x1_ : (w5.alloc (.cells #[.int .i64 0, .int .i64 0] 23)).cell? ⟨w4.heap.size, 1, none⟩ = some (.int .i64 0) := by rw [cell_of_row _ _ _ _ _ _ (heap_keep_alloc _ kX5)]; rfl
  have ltx := heap_lt kX5
  go_wp2_with fail
  clear x0 x1_ ltx
  have kS := heap_keep_alloc (.cells #[.int .i64 0, .int .i64 0] 23) kS5
  have kO := heap_keep_alloc (.cells #[.int .i64 0, .int .i64 0] 23) kO5
  have kX := heap_keep_alloc (.cells #[.int .i64 0, .int .i64 0] 23) kX5
  have kY : (w5.alloc (.cells #[.int .i64 0, .int .i64 0] 23)).heap[w5.heap.size]? = some (.cells #[.int .i64 0, .int .i64 0] 23) := heap_alloc_new _ _
  have hBV : Below w.heap.size w (w5.alloc (.cells #[.int .i64 0, .int .i64 0] 23)) := hB5.alloc hB5.size _
  obtain ⟨V, hV⟩ : ∃ V, V = w5.alloc (.cells #[.int .i64 0, .int .i64 0] 23) := ⟨_, rfl⟩
  rw [← hV] at kS kO kX kY hBV ⊢
  clear hV kS5 kO5 kX5 hB5
  obtain ⟨gx, hgx⟩ : ∃ g, g = w4.heap.size := ⟨_, rfl⟩
  obtain ⟨gy, hgy⟩ : ∃ g, g = w5.heap.size := ⟨_, rfl⟩
  rw [← hgx] at kX ⊢
  rw [← hgy] at kY ⊢
  clear hgx hgy
  have a0 := Up.cell0 kS
  have a1 := Up.cell1 kS
  have b0 := Up.cell0 kO
  have b1 := Up.cell1 kO
  clear kS kO kX kY
  by_cases hft : sf ≤ t
  · have D8 := Lib.hid (has_as sf st t (decide (t < st)) (hasB_lo hft))
    refine wp_region_up V.heap.size V (by kernel_rfl) (by kernel_rfl) (Below.refl _ _) ?_
    repeat (go_big_quiet_step (first | with_reducible exact Calls.same _ (D1.out _) | with_reducible exact Calls.same _ (D2.out _) | with_reducible exact Calls.same _ (D3.out _) | with_reducible exact Calls.same _ (D4.out _) | with_reducible exact Calls.up _ (Up.below _).size (D5.out _) | with_reducible exact Calls.up _ (Up.below _).size (D6.out _) | with_reducible exact Calls.up _ (Up.below _).size (D7.out _) | with_reducible exact Calls.up _ (Up.below _).size (D8.out _) | with_reducible exact Calls.up _ (Up.below _).size (wakes_any _)))
    refine wpQuiet_nil ?_
    rintro Y ⟨⟨_, hy⟩, rfl⟩
    have hBY : Below w.heap.size w Y := hBV.trans (hy.mono hBV.size)
    clear a0 a1 b0 b1 hy
    go_wp2_with fail
    go_ret
    exact ⟨rfl, hBY⟩
  · have D8 := Lib.hid (has_as sf st t false (hasB_no hft))
    refine wp_region_up V.heap.size V (by kernel_rfl) (by kernel_rfl) (Below.refl _ _) ?_
    repeat (go_big_quiet_step (first | with_reducible exact Calls.same _ (D1.out _) | with_reducible exact Calls.same _ (D2.out _) | with_reducible exact Calls.same _ (D3.out _) | with_reducible exact Calls.same _ (D4.out _) | with_reducible exact Calls.up _ (Up.below _).size (D5.out _) | with_reducible exact Calls.up _ (Up.below _).size (D6.out _) | with_reducible exact Calls.up _ (Up.below _).size (D7.out _) | with_reducible exact Calls.up _ (Up.below _).size (D8.out _) | with_reducible exact Calls.up _ (Up.below _).size (wakes_any _)))
    refine wpQuiet_nil ?_
    rintro Y ⟨⟨_, hy⟩, rfl⟩
    have hBY : Below w.heap.size w Y := hBV.trans (hy.mono hBV.size)
    clear a0 a1 b0 b1 hy
    go_wp2_with fail
    go_ret
    exact ⟨rfl, hBY⟩

theorem tells_walk (t n sf st of_ ot : Int) (w : World) :
    Calls Try.prog 9 #[.int .i64 t, .int .i64 n, .agg #[.int .i64 sf, .int .i64 st], .agg #[.int .i64 of_, .int .i64 ot]] w fun e w' => e = .returned (.bool true) ∧ Below w.heap.size w w' := by
  by_cases hA : wrongN n [t] = 0
  · by_cases hB : wrongN n [sf, st] = 0
    · exact tells_00 t n sf st of_ ot w hA hB
    · exact tells_01 t n sf st of_ ot w hA hB
  · by_cases hB : wrongN n [sf, st] = 0
    · exact tells_10 t n sf st of_ ot w hA hB
    · exact tells_11 t n sf st of_ ot w hA hB

end Go.Proofs.Ytjnhkfjhkhbneaa
