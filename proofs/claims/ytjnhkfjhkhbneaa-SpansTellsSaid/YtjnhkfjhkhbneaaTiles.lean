/- The walk of SpanTiles: it returns true and changes nothing that was there. No condition. -/
import Derived.Test.YtjnhkfjhkhbneaaBuckets
import Derived.Test.YtjnhkfjhkhbneaaPlain3
namespace Go.Proofs.Ytjnhkfjhkhbneaa
open Go.RowKit Go.BigFrame SpanP

theorem floor_as (t n F : Int) (h : wrongN n [t] = 0) (hF : fl t n = F) (w : World) : Calls Try.prog 35 #[.int .i64 t, .int .i64 n] w fun e w' => e = .returned (.tuple #[.int .i64 F, .int .i64 0]) ∧ Below w.heap.size w w' := hF ▸ floor_ok t n w h
theorem ceil_as (t n F : Int) (h : wrongN n [t] = 0) (hF : ce t n = F) (w : World) : Calls Try.prog 36 #[.int .i64 t, .int .i64 n] w fun e w' => e = .returned (.tuple #[.int .i64 F, .int .i64 0]) ∧ Below w.heap.size w w' := hF ▸ ceil_ok t n w h
theorem fl_add (t n : Int) : fl (t + n) n = fl t n + n := by unfold fl; rw [Int.add_emod_right]; omega

set_option maxRecDepth 100000 in
set_option maxHeartbeats 1600000 in
theorem tiles_bad (t n : Int) (w : World) (h : ¬ (timeB t = true ∧ timeB (wrap64 (t + n)) = true ∧ widthB n = true)) :
    Calls Try.prog 8 #[.int .i64 t, .int .i64 n] w fun e w' => e = .returned (.bool true) ∧ Below w.heap.size w w' := by
  have T1 := Lib.hid (time_as t _ rfl)
  have T2 := Lib.hid (time_as (wrap64 (t + n)) _ rfl)
  have T3 := Lib.hid (width_as n _ rfl)
  cases h1 : timeB t
  · rw [h1] at T1
    clear h h1
    go_enter Try.func8, Try.ntmps8
    go_wp2_with (first | ((with_reducible refine (T1.out _).mono ?_); rintro e w' ⟨rfl, rfl⟩))
    refine (wakes_any _).mono ?_
    rintro e w' ⟨rfl, hb⟩
    go_wp2_with fail
    go_ret
    exact ⟨rfl, hb⟩
  · rw [h1] at T1
    cases h2 : timeB (wrap64 (t + n))
    · rw [h2] at T2
      clear h h1 h2
      go_enter Try.func8, Try.ntmps8
      go_wp2_with (first | ((with_reducible refine (T1.out _).mono ?_); rintro e w' ⟨rfl, rfl⟩) | ((with_reducible refine (T2.out _).mono ?_); rintro e w' ⟨rfl, rfl⟩))
      refine (wakes_any _).mono ?_
      rintro e w' ⟨rfl, hb⟩
      go_wp2_with fail
      go_ret
      exact ⟨rfl, hb⟩
    · rw [h2] at T2
      cases h3 : widthB n
      · rw [h3] at T3
        clear h h1 h2 h3
        go_enter Try.func8, Try.ntmps8
        go_wp2_with (first | ((with_reducible refine (T1.out _).mono ?_); rintro e w' ⟨rfl, rfl⟩) | ((with_reducible refine (T2.out _).mono ?_); rintro e w' ⟨rfl, rfl⟩) | ((with_reducible refine (T3.out _).mono ?_); rintro e w' ⟨rfl, rfl⟩))
        refine (wakes_any _).mono ?_
        rintro e w' ⟨rfl, hb⟩
        go_wp2_with fail
        go_ret
        exact ⟨rfl, hb⟩
      · rw [h3] at T3
        exact absurd ⟨h1, h2, h3⟩ h

set_option maxRecDepth 100000 in
set_option maxHeartbeats 3200000 in
theorem tiles_walk (t n : Int) (w : World) :
    Calls Try.prog 8 #[.int .i64 t, .int .i64 n] w fun e w' => e = .returned (.bool true) ∧ Below w.heap.size w w' := by
  by_cases hg : timeB t = true ∧ timeB (wrap64 (t + n)) = true ∧ widthB n = true
  case neg => exact tiles_bad t n w hg
  obtain ⟨g1, g2, g3⟩ := hg
  obtain ⟨n1, n2, tl, th⟩ := prelude3 g1 g3
  have hwr : wrap64 (t + n) = t + n := IntWalk.wrap64_in _ (by omega)
  rw [hwr] at g2
  clear hwr
  obtain ⟨_, _, ul, uh⟩ := prelude3 g2 g3
  have T1 := Lib.hid (time_as t _ g1)
  have T2 := Lib.hid (time_as (t + n) _ g2)
  have T3 := Lib.hid (width_as n _ g3)
  have q1 := fl_le t n n1
  have q2 := lt_fl t n n1
  have wa : wrongN n [fl t n] = 0 := wrongN_of n1 n2 (fun y hy => by simp at hy; omega)
  have L1 := fl_add t n
  have L2 : fl (fl t n) n = fl t n := fl_of_dvd n1 (dvd_fl t n)
  have L3 : ce (fl t n) n = fl t n := ce_of_dvd n1 (dvd_fl t n)
  have L4 := ce_fl t n n1
  obtain ⟨aF, hA⟩ : ∃ y, fl t n = y := ⟨_, rfl⟩
  obtain ⟨aT, hT⟩ : ∃ y, fl t n + n = y := ⟨_, rfl⟩
  rw [hT] at L1
  rw [hA] at L2 L3 wa
  rw [hT, hA] at L4
  obtain ⟨bT, hbT⟩ : ∃ y, fl (t + n) n + n = y := ⟨_, rfl⟩
  have C1 := Lib.hid (bucket_as t n aF aT (time_wrong g1 g3) hA hT)
  have C2 := Lib.hid (bucket_as (t + n) n aT bT (time_wrong g2 g3) L1 hbT)
  have C3 := Lib.hid (floor_as aF n aF wa L2)
  have C5 := Lib.hid (ceil_as aF n aF wa L3)
  obtain ⟨cc, hcc⟩ : ∃ y, ce t n = y := ⟨_, rfl⟩
  have C4 := Lib.hid (ceil_as t n cc (time_wrong g1 g3) hcc)
  rw [hcc] at L4
  have LC := Lib.hid L4
  clear L1 L2 L3 L4 wa hA hT hbT hcc q1 q2 g1 g2 g3
  go_enter Try.func8, Try.ntmps8
  go_wp2_with (first | ((with_reducible refine (T1.out _).mono ?_); rintro e w' ⟨rfl, rfl⟩) | ((with_reducible refine (T2.out _).mono ?_); rintro e w' ⟨rfl, rfl⟩) | ((with_reducible refine (T3.out _).mono ?_); rintro e w' ⟨rfl, rfl⟩))
  refine (C1.out _).mono ?_
  rintro e w1 ⟨rfl, hb1⟩
  go_wp2_with fail
  refine (C2.out _).mono ?_
  rintro e w2 ⟨rfl, hb2⟩
  have hB2 : Below w.heap.size w w2 := (hb1.alloc hb1.size _).trans (hb2.mono (by have := hb1.size; simp; omega))
  have kA2 : w2.heap[w1.heap.size]? = some (.cells #[.int .i64 aF, .int .i64 aT] 23) := heap_keep hb2 (heap_alloc_new _ _)
  have a0 : (w2.alloc (.cells #[.int .i64 aT, .int .i64 bT] 23)).cell? ⟨w1.heap.size, 0, none⟩ = some (.int .i64 aF) := by rw [cell_of_row _ _ _ _ _ _ (heap_keep_alloc _ kA2)]; rfl
  have lt2 := heap_lt kA2
  clear hb1 hb2
  go_wp2_with fail
  refine (C3.out _).mono ?_
  rintro e w3 ⟨rfl, hb3⟩
  have hB3 : Below w.heap.size w w3 := (hB2.alloc hB2.size _).trans (hb3.mono (by have := hB2.size; simp; omega))
  have kA3 := heap_keep hb3 (heap_keep_alloc _ kA2)
  have kB3 : w3.heap[w2.heap.size]? = some (.cells #[.int .i64 aT, .int .i64 bT] 23) := heap_keep hb3 (heap_alloc_new _ _)
  clear hb3 hB2 kA2 a0 lt2
  go_wp2_with fail
  refine (C4.out _).mono ?_
  rintro e w4 ⟨rfl, hb4⟩
  have hB4 : Below w.heap.size w w4 := hB3.trans (hb4.mono hB3.size)
  have kA4 := heap_keep hb4 kA3
  have kB4 := heap_keep hb4 kB3
  have a0 : w4.cell? ⟨w1.heap.size, 0, none⟩ = some (.int .i64 aF) := by rw [cell_of_row _ _ _ _ _ _ kA4]; rfl
  clear hb4 hB3 kA3 kB3
  go_wp2_with fail
  refine (C5.out _).mono ?_
  rintro e w5 ⟨rfl, hb5⟩
  have hB5 : Below w.heap.size w w5 := hB4.trans (hb5.mono hB4.size)
  have kA5 := heap_keep hb5 kA4
  have kB5 := heap_keep hb5 kB4
  clear a0
  have a0 : w5.cell? ⟨w1.heap.size, 0, none⟩ = some (.int .i64 aF) := by rw [cell_of_row _ _ _ _ _ _ kA5]; rfl
  have a1 : w5.cell? ⟨w1.heap.size, 1, none⟩ = some (.int .i64 aT) := by rw [cell_of_row _ _ _ _ _ _ kA5]; rfl
  have b0 : w5.cell? ⟨w2.heap.size, 0, none⟩ = some (.int .i64 aT) := by rw [cell_of_row _ _ _ _ _ _ kB5]; rfl
  clear hb5 hB4 kA4 kB4 kA5 kB5
  by_cases ht : t = aF
  · have hc : cc = t := by rw [LC.out, if_pos ht]
    obtain rfl : t = cc := hc.symm
    subst ht
    clear LC
    go_wp2_with fail
    refine (wakes_any _).mono ?_
    rintro e w6 ⟨rfl, hb6⟩
    have hB6 : Below w.heap.size w w6 := hB5.trans (hb6.mono hB5.size)
    go_wp2_with fail
    go_ret
    exact ⟨rfl, hB6⟩
  · have hc : cc = aT := by rw [LC.out, if_neg ht]
    obtain rfl : aT = cc := hc.symm
    clear LC
    have hte : (t == aF) = false := by simp [ht]
    go_wp2_with fail
    refine (wakes_any _).mono ?_
    rintro e w6 ⟨rfl, hb6⟩
    have hB6 : Below w.heap.size w w6 := hB5.trans (hb6.mono hB5.size)
    go_wp2_with fail
    go_ret
    exact ⟨rfl, hB6⟩

end Go.Proofs.Ytjnhkfjhkhbneaa
