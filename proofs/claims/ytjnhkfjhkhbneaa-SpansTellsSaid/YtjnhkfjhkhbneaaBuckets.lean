/- The walk of SpanBuckets: it returns true and changes nothing that was there. No condition. -/
import Derived.Test.YtjnhkfjhkhbneaaUp
import Derived.Test.YtjnhkfjhkhbneaaPlain2
namespace Go.Proofs.Ytjnhkfjhkhbneaa
open Go.RowKit Go.BigFrame SpanP

theorem time_as (t : Int) (b : Bool) (h : timeB t = b) (w : World) : Calls Try.prog 28 #[.int .i64 t] w fun e w' => e = .returned (.bool b) ∧ w = w' := h ▸ time_any t w
theorem width_as (t : Int) (b : Bool) (h : widthB t = b) (w : World) : Calls Try.prog 29 #[.int .i64 t] w fun e w' => e = .returned (.bool b) ∧ w = w' := h ▸ width_any t w
theorem bucket_as (t n F T : Int) (h : wrongN n [t] = 0) (hF : fl t n = F) (hT : fl t n + n = T) (w : World) :
    Calls Try.prog 30 #[.int .i64 t, .int .i64 n] w fun e w' => e = .returned (.tuple #[.agg #[.int .i64 F, .int .i64 T], .int .i64 0]) ∧ Below w.heap.size w w' := by
  rw [← hT, ← hF]; exact bucket_ok t n w h
theorem out_as (f t n F T : Int) (h : wrongN n [f, t] = 0) (hF : outF f t n = F) (hT : outT f t n = T) (w : World) :
    Calls Try.prog 31 #[.agg #[.int .i64 f, .int .i64 t], .int .i64 n] w fun e w' => e = .returned (.tuple #[.agg #[.int .i64 F, .int .i64 T], .int .i64 0]) ∧ Below w.heap.size w w' := by
  rw [← hT, ← hF]; exact out_ok f t n w h
theorem in_as (f t n F T : Int) (h : wrongN n [f, t] = 0) (hF : inF f t n = F) (hT : inT f t n = T) (w : World) :
    Calls Try.prog 32 #[.agg #[.int .i64 f, .int .i64 t], .int .i64 n] w fun e w' => e = .returned (.tuple #[.agg #[.int .i64 F, .int .i64 T], .int .i64 0]) ∧ Below w.heap.size w w' := by
  rw [← hT, ← hF]; exact in_ok f t n w h
theorem time_wrong {t n : Int} (h : timeB t = true) (hw : widthB n = true) : wrongN n [t] = 0 := by
  rw [timeB_iff] at h; rw [widthB_iff] at hw
  exact wrongN_of hw.1 hw.2 (fun x hx => by simp at hx; omega)

set_option maxRecDepth 100000 in
set_option maxHeartbeats 800000 in
theorem buckets_bad (t u n k : Int) (w : World) (h : ¬ (timeB t = true ∧ timeB u = true ∧ widthB n = true)) :
    Calls Try.prog 5 #[.int .i64 t, .int .i64 u, .int .i64 n, .int .i64 k] w fun e w' => e = .returned (.bool true) ∧ Below w.heap.size w w' := by
  have T1 := Lib.hid (time_as t _ rfl)
  have T2 := Lib.hid (time_as u _ rfl)
  have T3 := Lib.hid (width_as n _ rfl)
  cases h1 : timeB t
  · rw [h1] at T1
    clear h h1
    go_enter Try.func5, Try.ntmps5
    go_wp2_with ((with_reducible refine (T1.out _).mono ?_); rintro e w' ⟨rfl, rfl⟩)
    refine (wakes_any _).mono ?_
    rintro e w' ⟨rfl, hb⟩
    go_wp2_with fail
    go_ret
    exact ⟨rfl, hb⟩
  · rw [h1] at T1
    cases h2 : timeB u
    · rw [h2] at T2
      clear h h1 h2
      go_enter Try.func5, Try.ntmps5
      go_wp2_with (first | ((with_reducible refine (T1.out _).mono ?_); rintro e w' ⟨rfl, rfl⟩) | ((with_reducible refine (T2.out _).mono ?_); rintro e w' ⟨rfl, rfl⟩))
      refine (wakes_any _).mono ?_
      rintro e w' ⟨rfl, hb⟩
      go_wp2_with fail
      go_ret
      exact ⟨rfl, hb⟩
    · rw [h2] at T2
      cases h3 : widthB n
      · rw [h3] at T3
        clear h h1 h2 h3
        go_enter Try.func5, Try.ntmps5
        go_wp2_with (first | ((with_reducible refine (T1.out _).mono ?_); rintro e w' ⟨rfl, rfl⟩) | ((with_reducible refine (T2.out _).mono ?_); rintro e w' ⟨rfl, rfl⟩) | ((with_reducible refine (T3.out _).mono ?_); rintro e w' ⟨rfl, rfl⟩))
        refine (wakes_any _).mono ?_
        rintro e w' ⟨rfl, hb⟩
        go_wp2_with fail
        go_ret
        exact ⟨rfl, hb⟩
      · exact absurd ⟨h1, h2, h3⟩ h


theorem prelude3 {t n : Int} (h : timeB t = true) (hw : widthB n = true) : 1 ≤ n ∧ n ≤ 1099511627776 ∧ -4611686018427387904 ≤ t ∧ t ≤ 4611686018427387903 := by
  rw [timeB_iff] at h; rw [widthB_iff] at hw; exact ⟨hw.1, hw.2, h.1, h.2⟩

set_option maxRecDepth 100000 in
set_option maxHeartbeats 1600000 in
theorem buckets_walk (t u n k : Int) (w : World) (wk : (Lit.int .i64 k).wf = true) :
    Calls Try.prog 5 #[.int .i64 t, .int .i64 u, .int .i64 n, .int .i64 k] w fun e w' => e = .returned (.bool true) ∧ Below w.heap.size w w' := by
  by_cases hg : timeB t = true ∧ timeB u = true ∧ widthB n = true
  case neg => exact buckets_bad t u n k w hg
  obtain ⟨g1, g2, g3⟩ := hg
  obtain ⟨n1, n2, tl, th⟩ := prelude3 g1 g3
  obtain ⟨_, _, ul, uh⟩ := prelude3 g2 g3
  have T1 := Lib.hid (time_as t _ g1)
  have T2 := Lib.hid (time_as u _ g2)
  have T3 := Lib.hid (width_as n _ g3)
  obtain ⟨aF, hA⟩ : ∃ x, fl t n = x := ⟨_, rfl⟩
  obtain ⟨aT, hA'⟩ : ∃ x, aF + n = x := ⟨_, rfl⟩
  obtain ⟨bF, hB⟩ : ∃ x, fl u n = x := ⟨_, rfl⟩
  obtain ⟨bT, hB'⟩ : ∃ x, bF + n = x := ⟨_, rfl⟩
  have B1 := Lib.hid (bucket_as t n aF aT (time_wrong g1 g3) hA (by rw [hA]; exact hA'))
  have B2 := Lib.hid (bucket_as u n bF bT (time_wrong g2 g3) hB (by rw [hB]; exact hB'))
  have D := Lib.hid (hA ▸ dvd_fl t n : n ∣ aF)
  have HA := Lib.hid hA
  have HA' := Lib.hid hA'
  have HB := Lib.hid hB
  have HB' := Lib.hid hB'
  have al := fl_le t n n1
  have ah := lt_fl t n n1
  rw [hA] at al ah
  have hn0 : ¬ n = 0 := by omega
  have hsub : IntKind.i64.wrap (aT - aF) = n := by rw [show aT - aF = n by omega]; exact IntWalk.i64_in _ (by omega)
  have hmod : aF.tmod n = 0 := tmod_dvd D.out
  clear hA hA' hB hB' g1 g2 g3
  go_enter Try.func5, Try.ntmps5
  go_wp2_with (first | ((with_reducible refine (T1.out _).mono ?_); rintro e w' ⟨rfl, rfl⟩) | ((with_reducible refine (T2.out _).mono ?_); rintro e w' ⟨rfl, rfl⟩) | ((with_reducible refine (T3.out _).mono ?_); rintro e w' ⟨rfl, rfl⟩))
  refine (B1.out _).mono ?_
  rintro e w1 ⟨rfl, hb1⟩
  go_wp2_with fail
  refine (B2.out _).mono ?_
  rintro e w2 ⟨rfl, hb2⟩
  have hB2 : Below w.heap.size w w2 := (hb1.alloc hb1.size _).trans (hb2.mono (by have := hb1.size; simp; omega))
  have hr2 : w2.heap[w1.heap.size]? = some (.cells #[.int .i64 aF, .int .i64 aT] 23) := heap_keep hb2 (heap_alloc_new _ _)
  clear hb1 hb2
  go_wp2_with fail
  have hs2 : (w2.alloc (.cells #[.int .i64 bF, .int .i64 bT] 23)).heap[w2.heap.size]? = some (.cells #[.int .i64 bF, .int .i64 bT] 23) := heap_alloc_new _ _
  replace hr2 := heap_keep_alloc (.cells #[.int .i64 bF, .int .i64 bT] 23) hr2
  have hBW : Below w.heap.size w (w2.alloc (.cells #[.int .i64 bF, .int .i64 bT] 23)) := hB2.alloc hB2.size _
  clear hB2
  obtain ⟨W, hW⟩ : ∃ W, W = w2.alloc (.cells #[.int .i64 bF, .int .i64 bT] 23) := ⟨_, rfl⟩
  rw [← hW] at hs2 hr2 hBW ⊢
  clear hW
  obtain ⟨ga, hga⟩ : ∃ g, g = w1.heap.size := ⟨_, rfl⟩
  obtain ⟨gb, hgb⟩ : ∃ g, g = w2.heap.size := ⟨_, rfl⟩
  rw [← hga] at hr2 ⊢
  rw [← hgb] at hs2 ⊢
  clear hga hgb
  have H1 := Lib.hid (has_as aF aT t true (by rw [← HA'.out, ← HA.out]; exact bk_has t n n1))
  have KA := Lib.hid hr2
  have a0 := Up.cell0 hr2
  have a1 := Up.cell1 hr2
  have b0 := Up.cell0 hs2
  have b1 := Up.cell1 hs2
  clear hr2 hs2
  by_cases hab : aF = bF
  · have H2 := Lib.hid (has_as aF aT u true (by rw [← HA'.out, ← HA.out]; exact bk_eq n1 (by rw [HA.out, HB.out]; exact hab.symm)))
    obtain rfl : aT = bT := by rw [← HA'.out, ← HB'.out, hab]
    subst hab
    refine wp_region_up W.heap.size W (by kernel_rfl) (by kernel_rfl) (Below.refl _ _) ?_
    repeat (go_big_quiet_step (first | with_reducible exact Calls.up _ (Up.below _).size (H1.out _) | with_reducible exact Calls.up _ (Up.below _).size (H2.out _)))
    refine wpQuiet_nil ?_
    rintro wu ⟨⟨_, hu⟩, rfl⟩
    have hBu : Below w.heap.size w wu := hBW.trans (hu.mono hBW.size)
    have kA := heap_keep hu KA.out
    clear a0 a1 b0 b1 hu KA
    by_cases hk1 : k < 1
    · go_wp2_with fail
      refine (wakes_any _).mono ?_
      rintro e w' ⟨rfl, hb⟩
      have hBe : Below w.heap.size w w' := hBu.trans (hb.mono hBu.size)
      go_wp2_with fail
      go_ret
      exact ⟨rfl, hBe⟩
    · by_cases hk2 : 1099511627776 / n < k
      · go_wp2_with fail
        refine (wakes_any _).mono ?_
        rintro e w' ⟨rfl, hb⟩
        have hBe : Below w.heap.size w w' := hBu.trans (hb.mono hBu.size)
        go_wp2_with fail
        go_ret
        exact ⟨rfl, hBe⟩
      · have hm2 : n * k ≤ 1099511627776 := mul_le_of_le_div n1 (by omega)
        have hm1 : 1 ≤ n * k := by have := Int.mul_le_mul n1 (show 1 ≤ k by omega) (by omega) (by omega); omega
        have hdv : Hid (n ∣ n * k) := Lib.hid (Int.dvd_mul_right n k)
        obtain ⟨cF, hC⟩ : ∃ x, fl t (n * k) = x := ⟨_, rfl⟩
        obtain ⟨cT, hC'⟩ : ∃ x, fl t (n * k) + n * k = x := ⟨_, rfl⟩
        have hlo := fl_le t (n * k) hm1
        have hhi := lt_fl t (n * k) hm1
        rw [hC] at hlo hhi
        have hd1 : n ∣ cF := by rw [← hC]; exact Int.dvd_trans hdv.out (dvd_fl t (n * k))
        have hd2 : n ∣ cT := by rw [← hC', hC]; exact Int.dvd_add hd1 hdv.out
        have hlt : cF < cT := by rw [← hC', hC]; omega
        have hw1 : wrongN (n * k) [t] = 0 := wrongN_of hm1 hm2 (fun x hx => by simp at hx; omega)
        have hw2 : wrongN n [cF, cT] = 0 := wrongN_of n1 n2 (fun x hx => by simp at hx; rw [hC] at hC'; omega)
        have C1 := Lib.hid (bucket_as t (n * k) cF cT hw1 hC hC')
        have C2 := Lib.hid (out_as cF cT n cF cT hw2 (out_wholeF n1 hd1 hd2 hlt) (out_wholeT n1 hd1 hd2 hlt))
        have C3 := Lib.hid (in_as cF cT n cF cT hw2 (in_wholeF n1 hd1 hd2 hlt) (in_wholeT n1 hd1 hd2 hlt))
        have C4 := Lib.hid (and_as aF aT cF cT aF aT (by rw [← HA'.out, ← HA.out, ← hC', ← hC]; exact bk_inF n1 hm1 hdv.out) (by rw [← HA'.out, ← HA.out, ← hC', ← hC]; exact bk_inT n1 hm1 hdv.out))
        clear hd1 hd2 hlt hw1 hw2 hC hC' hlo hhi hsub hmod
        go_wp2_with fail
        refine (C1.out _).mono ?_
        rintro e w3 ⟨rfl, hb3⟩
        have hB3 : Below w.heap.size w w3 := hBu.trans (hb3.mono hBu.size)
        have kA3 := heap_keep hb3 kA
        clear hb3 hBu kA
        go_wp2_with fail
        refine (C2.out _).mono ?_
        rintro e w4 ⟨rfl, hb4⟩
        have hB4 : Below w.heap.size w w4 := (hB3.alloc hB3.size _).trans (hb4.mono (by have := hB3.size; simp; omega))
        have kA4 := heap_keep hb4 (heap_keep_alloc _ kA3)
        have kC4 : w4.heap[w3.heap.size]? = some (.cells #[.int .i64 cF, .int .i64 cT] 23) := heap_keep hb4 (heap_alloc_new _ _)
        have c0 : (w4.alloc (.cells #[.int .i64 cF, .int .i64 cT] 23)).cell? ⟨w3.heap.size, 0, none⟩ = some (.int .i64 cF) := by rw [cell_of_row _ _ _ _ _ _ (heap_keep_alloc _ kC4)]; rfl
        have c1 : (w4.alloc (.cells #[.int .i64 cF, .int .i64 cT] 23)).cell? ⟨w3.heap.size, 1, none⟩ = some (.int .i64 cT) := by rw [cell_of_row _ _ _ _ _ _ (heap_keep_alloc _ kC4)]; rfl
        have lt4 := heap_lt kC4
        clear hb4 hB3 kA3
        go_wp2_with fail
        refine (C3.out _).mono ?_
        rintro e w5 ⟨rfl, hb5⟩
        have hB5 : Below w.heap.size w w5 := (hB4.alloc hB4.size _).trans (hb5.mono (by have := hB4.size; simp; omega))
        have kA5 := heap_keep hb5 (heap_keep_alloc _ kA4)
        have kC5 := heap_keep hb5 (heap_keep_alloc _ kC4)
        have kX5 : w5.heap[w4.heap.size]? = some (.cells #[.int .i64 cF, .int .i64 cT] 23) := heap_keep hb5 (heap_alloc_new _ _)
        clear hb5 hB4 kA4 kC4 c0 c1 lt4
        go_wp2_with fail
        have kA6 := heap_keep_alloc (.cells #[.int .i64 cF, .int .i64 cT] 23) kA5
        have kC6 := heap_keep_alloc (.cells #[.int .i64 cF, .int .i64 cT] 23) kC5
        have kX6 := heap_keep_alloc (.cells #[.int .i64 cF, .int .i64 cT] 23) kX5
        have kY6 : (w5.alloc (.cells #[.int .i64 cF, .int .i64 cT] 23)).heap[w5.heap.size]? = some (.cells #[.int .i64 cF, .int .i64 cT] 23) := heap_alloc_new _ _
        have hB6 : Below w.heap.size w (w5.alloc (.cells #[.int .i64 cF, .int .i64 cT] 23)) := hB5.alloc hB5.size _
        obtain ⟨V, hV⟩ : ∃ V, V = w5.alloc (.cells #[.int .i64 cF, .int .i64 cT] 23) := ⟨_, rfl⟩
        rw [← hV] at kA6 kC6 kX6 kY6 hB6 ⊢
        clear hV kA5 kC5 kX5 hB5
        have a0 := Up.cell0 kA6
        have a1 := Up.cell1 kA6
        have c0 := Up.cell0 kC6
        have c1 := Up.cell1 kC6
        have x0 := Up.cell0 kX6
        have x1 := Up.cell1 kX6
        have y0 := Up.cell0 kY6
        have y1 := Up.cell1 kY6
        clear kA6 kC6 kX6 kY6
        refine wp_region_up V.heap.size V (by kernel_rfl) (by kernel_rfl) (Below.refl _ _) ?_
        repeat (go_big_quiet_step (first | with_reducible exact Calls.up _ (Up.below _).size (C4.out _) | with_reducible exact Calls.up _ (Up.below _).size (wakes_any _)))
        refine wpQuiet_nil ?_
        rintro wv ⟨⟨_, hv⟩, rfl⟩
        have hBv : Below w.heap.size w wv := hB6.trans (hv.mono hB6.size)
        clear a0 a1 c0 c1 x0 x1 y0 y1 hv
        go_wp2_with fail
        go_ret
        exact ⟨rfl, hBv⟩
  · have hne : ¬ fl u n = fl t n := by rw [HA.out, HB.out]; omega
    have H2 := Lib.hid (has_as aF aT u false (by rw [← HA'.out, ← HA.out]; exact bk_ne n1 hne))
    have H3 := Lib.hid (and_as aF aT bF bT 0 0 (by rw [← HA'.out, ← HB'.out, ← HA.out, ← HB.out]; exact bk_andF n1 hne) (by rw [← HA'.out, ← HB'.out, ← HA.out, ← HB.out]; exact bk_andT n1 hne))
    have H4 := Lib.hid (empty_as 0 0 true rfl)
    clear hne
    refine wp_region_up W.heap.size W (by kernel_rfl) (by kernel_rfl) (Below.refl _ _) ?_
    repeat (go_big_quiet_step (first | with_reducible exact Calls.up _ (Up.below _).size (H1.out _) | with_reducible exact Calls.up _ (Up.below _).size (H2.out _) | with_reducible exact Calls.up _ (Up.below _).size (H3.out _) | with_reducible exact Calls.up _ (Up.below _).size (H4.out _)))
    refine wpQuiet_nil ?_
    rintro wu ⟨⟨_, hu⟩, rfl⟩
    have hBu : Below w.heap.size w wu := hBW.trans (hu.mono hBW.size)
    have kA := heap_keep hu KA.out
    clear a0 a1 b0 b1 hu KA
    by_cases hk1 : k < 1
    · go_wp2_with fail
      refine (wakes_any _).mono ?_
      rintro e w' ⟨rfl, hb⟩
      have hBe : Below w.heap.size w w' := hBu.trans (hb.mono hBu.size)
      go_wp2_with fail
      go_ret
      exact ⟨rfl, hBe⟩
    · by_cases hk2 : 1099511627776 / n < k
      · go_wp2_with fail
        refine (wakes_any _).mono ?_
        rintro e w' ⟨rfl, hb⟩
        have hBe : Below w.heap.size w w' := hBu.trans (hb.mono hBu.size)
        go_wp2_with fail
        go_ret
        exact ⟨rfl, hBe⟩
      · have hm2 : n * k ≤ 1099511627776 := mul_le_of_le_div n1 (by omega)
        have hm1 : 1 ≤ n * k := by have := Int.mul_le_mul n1 (show 1 ≤ k by omega) (by omega) (by omega); omega
        have hdv : Hid (n ∣ n * k) := Lib.hid (Int.dvd_mul_right n k)
        obtain ⟨cF, hC⟩ : ∃ x, fl t (n * k) = x := ⟨_, rfl⟩
        obtain ⟨cT, hC'⟩ : ∃ x, fl t (n * k) + n * k = x := ⟨_, rfl⟩
        have hlo := fl_le t (n * k) hm1
        have hhi := lt_fl t (n * k) hm1
        rw [hC] at hlo hhi
        have hd1 : n ∣ cF := by rw [← hC]; exact Int.dvd_trans hdv.out (dvd_fl t (n * k))
        have hd2 : n ∣ cT := by rw [← hC', hC]; exact Int.dvd_add hd1 hdv.out
        have hlt : cF < cT := by rw [← hC', hC]; omega
        have hw1 : wrongN (n * k) [t] = 0 := wrongN_of hm1 hm2 (fun x hx => by simp at hx; omega)
        have hw2 : wrongN n [cF, cT] = 0 := wrongN_of n1 n2 (fun x hx => by simp at hx; rw [hC] at hC'; omega)
        have C1 := Lib.hid (bucket_as t (n * k) cF cT hw1 hC hC')
        have C2 := Lib.hid (out_as cF cT n cF cT hw2 (out_wholeF n1 hd1 hd2 hlt) (out_wholeT n1 hd1 hd2 hlt))
        have C3 := Lib.hid (in_as cF cT n cF cT hw2 (in_wholeF n1 hd1 hd2 hlt) (in_wholeT n1 hd1 hd2 hlt))
        have C4 := Lib.hid (and_as aF aT cF cT aF aT (by rw [← HA'.out, ← HA.out, ← hC', ← hC]; exact bk_inF n1 hm1 hdv.out) (by rw [← HA'.out, ← HA.out, ← hC', ← hC]; exact bk_inT n1 hm1 hdv.out))
        clear hd1 hd2 hlt hw1 hw2 hC hC' hlo hhi hsub hmod
        go_wp2_with fail
        refine (C1.out _).mono ?_
        rintro e w3 ⟨rfl, hb3⟩
        have hB3 : Below w.heap.size w w3 := hBu.trans (hb3.mono hBu.size)
        have kA3 := heap_keep hb3 kA
        clear hb3 hBu kA
        go_wp2_with fail
        refine (C2.out _).mono ?_
        rintro e w4 ⟨rfl, hb4⟩
        have hB4 : Below w.heap.size w w4 := (hB3.alloc hB3.size _).trans (hb4.mono (by have := hB3.size; simp; omega))
        have kA4 := heap_keep hb4 (heap_keep_alloc _ kA3)
        have kC4 : w4.heap[w3.heap.size]? = some (.cells #[.int .i64 cF, .int .i64 cT] 23) := heap_keep hb4 (heap_alloc_new _ _)
        have c0 : (w4.alloc (.cells #[.int .i64 cF, .int .i64 cT] 23)).cell? ⟨w3.heap.size, 0, none⟩ = some (.int .i64 cF) := by rw [cell_of_row _ _ _ _ _ _ (heap_keep_alloc _ kC4)]; rfl
        have c1 : (w4.alloc (.cells #[.int .i64 cF, .int .i64 cT] 23)).cell? ⟨w3.heap.size, 1, none⟩ = some (.int .i64 cT) := by rw [cell_of_row _ _ _ _ _ _ (heap_keep_alloc _ kC4)]; rfl
        have lt4 := heap_lt kC4
        clear hb4 hB3 kA3
        go_wp2_with fail
        refine (C3.out _).mono ?_
        rintro e w5 ⟨rfl, hb5⟩
        have hB5 : Below w.heap.size w w5 := (hB4.alloc hB4.size _).trans (hb5.mono (by have := hB4.size; simp; omega))
        have kA5 := heap_keep hb5 (heap_keep_alloc _ kA4)
        have kC5 := heap_keep hb5 (heap_keep_alloc _ kC4)
        have kX5 : w5.heap[w4.heap.size]? = some (.cells #[.int .i64 cF, .int .i64 cT] 23) := heap_keep hb5 (heap_alloc_new _ _)
        clear hb5 hB4 kA4 kC4 c0 c1 lt4
        go_wp2_with fail
        have kA6 := heap_keep_alloc (.cells #[.int .i64 cF, .int .i64 cT] 23) kA5
        have kC6 := heap_keep_alloc (.cells #[.int .i64 cF, .int .i64 cT] 23) kC5
        have kX6 := heap_keep_alloc (.cells #[.int .i64 cF, .int .i64 cT] 23) kX5
        have kY6 : (w5.alloc (.cells #[.int .i64 cF, .int .i64 cT] 23)).heap[w5.heap.size]? = some (.cells #[.int .i64 cF, .int .i64 cT] 23) := heap_alloc_new _ _
        have hB6 : Below w.heap.size w (w5.alloc (.cells #[.int .i64 cF, .int .i64 cT] 23)) := hB5.alloc hB5.size _
        obtain ⟨V, hV⟩ : ∃ V, V = w5.alloc (.cells #[.int .i64 cF, .int .i64 cT] 23) := ⟨_, rfl⟩
        rw [← hV] at kA6 kC6 kX6 kY6 hB6 ⊢
        clear hV kA5 kC5 kX5 hB5
        have a0 := Up.cell0 kA6
        have a1 := Up.cell1 kA6
        have c0 := Up.cell0 kC6
        have c1 := Up.cell1 kC6
        have x0 := Up.cell0 kX6
        have x1 := Up.cell1 kX6
        have y0 := Up.cell0 kY6
        have y1 := Up.cell1 kY6
        clear kA6 kC6 kX6 kY6
        refine wp_region_up V.heap.size V (by kernel_rfl) (by kernel_rfl) (Below.refl _ _) ?_
        repeat (go_big_quiet_step (first | with_reducible exact Calls.up _ (Up.below _).size (C4.out _) | with_reducible exact Calls.up _ (Up.below _).size (wakes_any _)))
        refine wpQuiet_nil ?_
        rintro wv ⟨⟨_, hv⟩, rfl⟩
        have hBv : Below w.heap.size w wv := hB6.trans (hv.mono hB6.size)
        clear a0 a1 c0 c1 x0 x1 y0 y1 hv
        go_wp2_with fail
        go_ret
        exact ⟨rfl, hBv⟩

end Go.Proofs.Ytjnhkfjhkhbneaa
