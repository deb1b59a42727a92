/- The walk of SpanWhole: it returns true and changes nothing that was there. No condition. -/
import Derived.Test.YtjnhkfjhkhbneaaBuckets
import Derived.Test.YtjnhkfjhkhbneaaPlain3
namespace Go.Proofs.Ytjnhkfjhkhbneaa
open Go.RowKit Go.BigFrame SpanP

set_option maxRecDepth 100000 in
set_option maxHeartbeats 1600000 in
theorem whole_bad (f t n x : Int) (w : World) (h : ¬ (timeB f = true ∧ timeB t = true ∧ widthB n = true ∧ timeB x = true)) :
    Calls Try.prog 6 #[.agg #[.int .i64 f, .int .i64 t], .int .i64 n, .int .i64 x] w fun e w' => e = .returned (.bool true) ∧ Below w.heap.size w w' := by
  have T1 := Lib.hid (time_as f _ rfl)
  have T2 := Lib.hid (time_as t _ rfl)
  have T3 := Lib.hid (width_as n _ rfl)
  have T4 := Lib.hid (time_as x _ rfl)
  cases h1 : timeB f
  · rw [h1] at T1
    clear h h1
    go_enter Try.func6, Try.ntmps6
    go_wp2_with (first | ((with_reducible refine (T1.out _).mono ?_); rintro e w' ⟨rfl, rfl⟩))
    refine (wakes_any _).mono ?_
    rintro e w' ⟨rfl, hb⟩
    have hbw : Below w.heap.size w w' := ((Below.refl _ w).alloc (Nat.le_refl _) _).trans (hb.mono (by simp))
    go_wp2_with fail
    go_ret
    exact ⟨rfl, hbw⟩
  · rw [h1] at T1
    cases h2 : timeB t
    · rw [h2] at T2
      clear h h1 h2
      go_enter Try.func6, Try.ntmps6
      go_wp2_with (first | ((with_reducible refine (T1.out _).mono ?_); rintro e w' ⟨rfl, rfl⟩) | ((with_reducible refine (T2.out _).mono ?_); rintro e w' ⟨rfl, rfl⟩))
      refine (wakes_any _).mono ?_
      rintro e w' ⟨rfl, hb⟩
      have hbw : Below w.heap.size w w' := ((Below.refl _ w).alloc (Nat.le_refl _) _).trans (hb.mono (by simp))
      go_wp2_with fail
      go_ret
      exact ⟨rfl, hbw⟩
    · rw [h2] at T2
      cases h3 : widthB n
      · rw [h3] at T3
        clear h h1 h2 h3
        go_enter Try.func6, Try.ntmps6
        go_wp2_with (first | ((with_reducible refine (T1.out _).mono ?_); rintro e w' ⟨rfl, rfl⟩) | ((with_reducible refine (T2.out _).mono ?_); rintro e w' ⟨rfl, rfl⟩) | ((with_reducible refine (T3.out _).mono ?_); rintro e w' ⟨rfl, rfl⟩))
        refine (wakes_any _).mono ?_
        rintro e w' ⟨rfl, hb⟩
        have hbw : Below w.heap.size w w' := ((Below.refl _ w).alloc (Nat.le_refl _) _).trans (hb.mono (by simp))
        go_wp2_with fail
        go_ret
        exact ⟨rfl, hbw⟩
      · rw [h3] at T3
        cases h4 : timeB x
        · rw [h4] at T4
          clear h h1 h2 h3 h4
          go_enter Try.func6, Try.ntmps6
          go_wp2_with (first | ((with_reducible refine (T1.out _).mono ?_); rintro e w' ⟨rfl, rfl⟩) | ((with_reducible refine (T2.out _).mono ?_); rintro e w' ⟨rfl, rfl⟩) | ((with_reducible refine (T3.out _).mono ?_); rintro e w' ⟨rfl, rfl⟩) | ((with_reducible refine (T4.out _).mono ?_); rintro e w' ⟨rfl, rfl⟩))
          refine (wakes_any _).mono ?_
          rintro e w' ⟨rfl, hb⟩
          have hbw : Below w.heap.size w w' := ((Below.refl _ w).alloc (Nat.le_refl _) _).trans (hb.mono (by simp))
          go_wp2_with fail
          go_ret
          exact ⟨rfl, hbw⟩
        · rw [h4] at T4
          exact absurd ⟨h1, h2, h3, h4⟩ h

set_option maxRecDepth 100000 in
set_option maxHeartbeats 6400000 in
theorem whole_walk (f t n x : Int) (w : World) :
    Calls Try.prog 6 #[.agg #[.int .i64 f, .int .i64 t], .int .i64 n, .int .i64 x] w fun e w' => e = .returned (.bool true) ∧ Below w.heap.size w w' := by
  by_cases hg : timeB f = true ∧ timeB t = true ∧ widthB n = true ∧ timeB x = true
  case neg => exact whole_bad f t n x w hg
  obtain ⟨g1, g2, g3, g4⟩ := hg
  obtain ⟨n1, n2, fl0, fh0⟩ := prelude3 g1 g3
  obtain ⟨_, _, tl0, th0⟩ := prelude3 g2 g3
  have T1 := Lib.hid (time_as f _ g1)
  have T2 := Lib.hid (time_as t _ g2)
  have T3 := Lib.hid (width_as n _ g3)
  have T4 := Lib.hid (time_as x _ g4)
  have ro := out_range (f := f) (t := t) n1 (-4611687117939015680) 4611687117939015679 (by omega) (by omega) (by omega) (by omega) (by omega) (by omega)
  have ri := in_range (f := f) (t := t) n1 (-4611687117939015680) 4611687117939015679 (by omega) (by omega) (by omega) (by omega) (by omega) (by omega)
  have ws : wrongN n [f, t] = 0 := wrongN_of n1 n2 (fun y hy => by simp at hy; omega)
  have wo : wrongN n [outF f t n, outT f t n] = 0 := wrongN_of n1 n2 (fun y hy => by simp at hy; omega)
  have wi : wrongN n [inF f t n, inT f t n] = 0 := wrongN_of n1 n2 (fun y hy => by simp at hy; omega)
  have L1 := out_outF (f := f) (t := t) n1
  have L2 := out_outT (f := f) (t := t) n1
  have L3 := in_inF (f := f) (t := t) n1
  have L4 := in_inT (f := f) (t := t) n1
  have L5 := out_empty (f := f) (t := t) n1
  have L6 := out_has (f := f) (t := t) (x := x) n1
  have L7 := in_has (f := f) (t := t) (x := x) n1
  have L8 := in_subF (f := f) (t := t) n1
  have L9 := in_subT (f := f) (t := t) n1
  have L10 := out_supF (f := f) (t := t) n1
  have L11 := out_supT (f := f) (t := t) n1
  obtain ⟨oF, hoF⟩ : ∃ y, outF f t n = y := ⟨_, rfl⟩
  obtain ⟨oT, hoT⟩ : ∃ y, outT f t n = y := ⟨_, rfl⟩
  obtain ⟨iF, hiF⟩ : ∃ y, inF f t n = y := ⟨_, rfl⟩
  obtain ⟨iT, hiT⟩ : ∃ y, inT f t n = y := ⟨_, rfl⟩
  obtain ⟨bF, hbF⟩ : ∃ y, fl x n = y := ⟨_, rfl⟩
  obtain ⟨bT, hbT⟩ : ∃ y, fl x n + n = y := ⟨_, rfl⟩
  rw [hoF, hoT] at wo L1 L2 L5 L6 L10 L11
  rw [hiF, hiT] at wi L3 L4 L7 L8 L9
  rw [hbT, hbF] at L6 L7
  obtain ⟨mF, hmF⟩ : ∃ y, andF bF bT f t = y := ⟨_, rfl⟩
  obtain ⟨mT, hmT⟩ : ∃ y, andT bF bT f t = y := ⟨_, rfl⟩
  obtain ⟨sF, hsF⟩ : ∃ y, andF f t f t = y := ⟨_, rfl⟩
  obtain ⟨sT, hsT⟩ : ∃ y, andT f t f t = y := ⟨_, rfl⟩
  rw [hmF, hmT] at L6 L7
  rw [hsF] at L10
  rw [hsT] at L11
  obtain ⟨p, hp⟩ : ∃ y, hasB oF oT x = y := ⟨_, rfl⟩
  obtain ⟨r, hr⟩ : ∃ y, hasB iF iT x = y := ⟨_, rfl⟩
  obtain ⟨ee, hee⟩ : ∃ y, emptyB f t = y := ⟨_, rfl⟩
  rw [hp] at L6
  rw [hr] at L7
  rw [hee] at L5
  have C1 := Lib.hid (out_as f t n oF oT ws hoF hoT)
  have C2 := Lib.hid (in_as f t n iF iT ws hiF hiT)
  have C3 := Lib.hid (bucket_as x n bF bT (time_wrong g4 g3) hbF hbT)
  have C4 := Lib.hid (out_as oF oT n oF oT wo L1 L2)
  have C5 := Lib.hid (in_as iF iT n iF iT wi L3 L4)
  have E1 := Lib.hid (empty_as oF oT ee L5)
  have E2 := Lib.hid (empty_as f t ee hee)
  have E3 := Lib.hid (empty_as mF mT (!p) L6)
  have A1 := Lib.hid (and_as bF bT f t mF mT hmF hmT)
  have A2 := Lib.hid (and_as iF iT f t iF iT L8 L9)
  have A3 := Lib.hid (and_as f t oF oT sF sT L10 L11)
  have A4 := Lib.hid (and_as f t f t sF sT hsF hsT)
  have H1 := Lib.hid (has_as oF oT x p hp)
  have H2 := Lib.hid (has_as iF iT x r hr)
  have hcase : Hid ((ee = true ∧ r = false) ∨ (ee = false ∧ r = true ∧ mF = bF ∧ mT = bT) ∨ (ee = false ∧ r = false ∧ ¬ mF = bF) ∨ (ee = false ∧ r = false ∧ mF = bF ∧ ¬ mT = bT)) := by
    refine Lib.hid ?_
    have e1 : ee = true ↔ t ≤ f := by rw [← hee]; exact emptyB_iff
    cases hE : ee <;> cases hR : r <;> rw [hE] at e1 <;> rw [hR] at L7 <;> simp at e1 L7 ⊢ <;> omega
  clear L1 L2 L3 L4 L5 L6 L7 L8 L9 L10 L11 wo wi ws ro ri hoF hoT hiF hiT hbF hbT hmF hmT hsF hsT hp hr hee g1 g2 g3 g4 fl0 fh0 tl0 th0 n1 n2
  go_enter Try.func6, Try.ntmps6
  go_wp2_with (first | ((with_reducible refine (T1.out _).mono ?_); rintro e w' ⟨rfl, rfl⟩) | ((with_reducible refine (T2.out _).mono ?_); rintro e w' ⟨rfl, rfl⟩) | ((with_reducible refine (T3.out _).mono ?_); rintro e w' ⟨rfl, rfl⟩) | ((with_reducible refine (T4.out _).mono ?_); rintro e w' ⟨rfl, rfl⟩))
  refine (C1.out _).mono ?_
  rintro e w1 ⟨rfl, hb1⟩
  have hB1 : Below w.heap.size w w1 := ((Below.refl _ w).alloc (Nat.le_refl _) _).trans (hb1.mono (by simp))
  have kS1 : w1.heap[w.heap.size]? = some (.cells #[.int .i64 f, .int .i64 t] 23) := heap_keep hb1 (heap_alloc_new _ _)
  clear hb1
  have cS0 : (w1.alloc (.cells #[.int .i64 oF, .int .i64 oT] 23)).cell? ⟨w.heap.size, 0, none⟩ = some (.int .i64 f) := by rw [cell_of_row _ _ _ _ _ _ (heap_keep_alloc _ kS1)]; rfl
  have cS1 : (w1.alloc (.cells #[.int .i64 oF, .int .i64 oT] 23)).cell? ⟨w.heap.size, 1, none⟩ = some (.int .i64 t) := by rw [cell_of_row _ _ _ _ _ _ (heap_keep_alloc _ kS1)]; rfl
  have ltcS := heap_lt kS1
  go_wp2_with fail
  refine (C2.out _).mono ?_
  rintro e w2 ⟨rfl, hb2⟩
  have hB2 : Below w.heap.size w w2 := (hB1.alloc hB1.size _).trans (hb2.mono (by have := hB1.size; simp; omega))
  have kS2 := heap_keep hb2 (heap_keep_alloc _ kS1)
  have kO2 : w2.heap[w1.heap.size]? = some (.cells #[.int .i64 oF, .int .i64 oT] 23) := heap_keep hb2 (heap_alloc_new _ _)
  clear hb2 hB1 kS1 cS0 cS1 ltcS
  go_wp2_with fail
  refine (C3.out _).mono ?_
  rintro e w3 ⟨rfl, hb3⟩
  have hB3 : Below w.heap.size w w3 := (hB2.alloc hB2.size _).trans (hb3.mono (by have := hB2.size; simp; omega))
  have kS3 := heap_keep hb3 (heap_keep_alloc _ kS2)
  have kO3 := heap_keep hb3 (heap_keep_alloc _ kO2)
  have kI3 : w3.heap[w2.heap.size]? = some (.cells #[.int .i64 iF, .int .i64 iT] 23) := heap_keep hb3 (heap_alloc_new _ _)
  clear hb3 hB2 kS2 kO2
  have cO0 : (w3.alloc (.cells #[.int .i64 bF, .int .i64 bT] 23)).cell? ⟨w1.heap.size, 0, none⟩ = some (.int .i64 oF) := by rw [cell_of_row _ _ _ _ _ _ (heap_keep_alloc _ kO3)]; rfl
  have cO1 : (w3.alloc (.cells #[.int .i64 bF, .int .i64 bT] 23)).cell? ⟨w1.heap.size, 1, none⟩ = some (.int .i64 oT) := by rw [cell_of_row _ _ _ _ _ _ (heap_keep_alloc _ kO3)]; rfl
  have ltcO := heap_lt kO3
  go_wp2_with fail
  refine (C4.out _).mono ?_
  rintro e w4 ⟨rfl, hb4⟩
  have hB4 : Below w.heap.size w w4 := (hB3.alloc hB3.size _).trans (hb4.mono (by have := hB3.size; simp; omega))
  have kS4 := heap_keep hb4 (heap_keep_alloc _ kS3)
  have kO4 := heap_keep hb4 (heap_keep_alloc _ kO3)
  have kI4 := heap_keep hb4 (heap_keep_alloc _ kI3)
  have kB4 : w4.heap[w3.heap.size]? = some (.cells #[.int .i64 bF, .int .i64 bT] 23) := heap_keep hb4 (heap_alloc_new _ _)
  clear hb4 hB3 kS3 kO3 kI3 cO0 cO1 ltcO
  have cI0 : (w4.alloc (.cells #[.int .i64 oF, .int .i64 oT] 23)).cell? ⟨w2.heap.size, 0, none⟩ = some (.int .i64 iF) := by rw [cell_of_row _ _ _ _ _ _ (heap_keep_alloc _ kI4)]; rfl
  have cI1 : (w4.alloc (.cells #[.int .i64 oF, .int .i64 oT] 23)).cell? ⟨w2.heap.size, 1, none⟩ = some (.int .i64 iT) := by rw [cell_of_row _ _ _ _ _ _ (heap_keep_alloc _ kI4)]; rfl
  have ltcI := heap_lt kI4
  go_wp2_with fail
  refine (C5.out _).mono ?_
  rintro e w5 ⟨rfl, hb5⟩
  have hB5 : Below w.heap.size w w5 := (hB4.alloc hB4.size _).trans (hb5.mono (by have := hB4.size; simp; omega))
  have kS5 := heap_keep hb5 (heap_keep_alloc _ kS4)
  have kO5 := heap_keep hb5 (heap_keep_alloc _ kO4)
  have kI5 := heap_keep hb5 (heap_keep_alloc _ kI4)
  have kB5 := heap_keep hb5 (heap_keep_alloc _ kB4)
  have kPp5 : w5.heap[w4.heap.size]? = some (.cells #[.int .i64 oF, .int .i64 oT] 23) := heap_keep hb5 (heap_alloc_new _ _)
  clear hb5 hB4 kS4 kO4 kI4 kB4 cI0 cI1 ltcI
  go_wp2_with fail
  have kS := heap_keep_alloc (.cells #[.int .i64 iF, .int .i64 iT] 23) kS5
  have kO := heap_keep_alloc (.cells #[.int .i64 iF, .int .i64 iT] 23) kO5
  have kI := heap_keep_alloc (.cells #[.int .i64 iF, .int .i64 iT] 23) kI5
  have kB := heap_keep_alloc (.cells #[.int .i64 iF, .int .i64 iT] 23) kB5
  have kPp := heap_keep_alloc (.cells #[.int .i64 iF, .int .i64 iT] 23) kPp5
  have kQ : (w5.alloc (.cells #[.int .i64 iF, .int .i64 iT] 23)).heap[w5.heap.size]? = some (.cells #[.int .i64 iF, .int .i64 iT] 23) := heap_alloc_new _ _
  have hBV : Below w.heap.size w (w5.alloc (.cells #[.int .i64 iF, .int .i64 iT] 23)) := hB5.alloc hB5.size _
  obtain ⟨V, hV⟩ : ∃ V, V = w5.alloc (.cells #[.int .i64 iF, .int .i64 iT] 23) := ⟨_, rfl⟩
  rw [← hV] at kS kO kI kB kPp kQ hBV ⊢
  clear hV hB5 kS5 kO5 kI5 kB5 kPp5
  obtain ⟨gO, hgO⟩ : ∃ g, g = w1.heap.size := ⟨_, rfl⟩
  rw [← hgO] at kO ⊢
  obtain ⟨gI, hgI⟩ : ∃ g, g = w2.heap.size := ⟨_, rfl⟩
  rw [← hgI] at kI ⊢
  obtain ⟨gB, hgB⟩ : ∃ g, g = w3.heap.size := ⟨_, rfl⟩
  rw [← hgB] at kB ⊢
  obtain ⟨gPp, hgPp⟩ : ∃ g, g = w4.heap.size := ⟨_, rfl⟩
  rw [← hgPp] at kPp ⊢
  obtain ⟨gQ, hgQ⟩ : ∃ g, g = w5.heap.size := ⟨_, rfl⟩
  rw [← hgQ] at kQ ⊢
  clear hgO hgI hgB hgPp hgQ
  rcases hcase.out with ⟨rfl, rfl⟩ | ⟨rfl, rfl, h1, h2⟩ | ⟨rfl, rfl, h1⟩ | ⟨rfl, rfl, h1, h2⟩
  · have tok : True := trivial
    clear hcase tok
    have aS0 := Up.cell0 kS
    have aS1 := Up.cell1 kS
    have aO0 := Up.cell0 kO
    have aO1 := Up.cell1 kO
    have aI0 := Up.cell0 kI
    have aI1 := Up.cell1 kI
    have aB0 := Up.cell0 kB
    have aB1 := Up.cell1 kB
    have aPp0 := Up.cell0 kPp
    have aPp1 := Up.cell1 kPp
    have aQ0 := Up.cell0 kQ
    have aQ1 := Up.cell1 kQ
    have KS := Lib.hid kS
    have KO := Lib.hid kO
    have KI := Lib.hid kI
    have KB := Lib.hid kB
    have KPp := Lib.hid kPp
    have KQ := Lib.hid kQ
    clear kS kO kI kB kPp kQ
    refine wp_region_up V.heap.size V (by kernel_rfl) (by kernel_rfl) (Below.refl _ _) ?_
    repeat (go_big_quiet_step (first | with_reducible exact Calls.up _ (Up.below _).size (E1.out _) | with_reducible exact Calls.up _ (Up.below _).size (E2.out _)))
    refine wpQuiet_nil ?_
    rintro U ⟨⟨_, hu⟩, rfl⟩
    have hBU : Below w.heap.size w U := hBV.trans (hu.mono hBV.size)
    have uS := heap_keep hu KS.out
    have uO := heap_keep hu KO.out
    have uI := heap_keep hu KI.out
    have uB := heap_keep hu KB.out
    have uPp := heap_keep hu KPp.out
    have uQ := heap_keep hu KQ.out
    clear aS0 aS1 aO0 aO1 aI0 aI1 aB0 aB1 aPp0 aPp1 aQ0 aQ1
    clear hu KS KO KI KB KPp KQ
    have aS0 := Up.cell0 uS
    have aS1 := Up.cell1 uS
    have aO0 := Up.cell0 uO
    have aO1 := Up.cell1 uO
    have aI0 := Up.cell0 uI
    have aI1 := Up.cell1 uI
    have aB0 := Up.cell0 uB
    have aB1 := Up.cell1 uB
    have aPp0 := Up.cell0 uPp
    have aPp1 := Up.cell1 uPp
    have aQ0 := Up.cell0 uQ
    have aQ1 := Up.cell1 uQ
    have KS := Lib.hid uS
    have KO := Lib.hid uO
    have KI := Lib.hid uI
    have KB := Lib.hid uB
    have KPp := Lib.hid uPp
    have KQ := Lib.hid uQ
    clear uS uO uI uB uPp uQ
    go_wp2_with fail
    refine wp_region_up U.heap.size U (by kernel_rfl) (by kernel_rfl) (Below.refl _ _) ?_
    repeat (go_big_quiet_step (first | with_reducible exact Calls.up _ (Up.below _).size (H1.out _) | with_reducible exact Calls.up _ (Up.below _).size (A1.out _) | with_reducible exact Calls.up _ (Up.below _).size (E3.out _)))
    refine wpQuiet_nil ?_
    rintro X ⟨⟨_, hx⟩, rfl⟩
    have hBX : Below w.heap.size w X := hBU.trans (hx.mono hBU.size)
    have uS := heap_keep hx KS.out
    have uO := heap_keep hx KO.out
    have uI := heap_keep hx KI.out
    have uB := heap_keep hx KB.out
    have uPp := heap_keep hx KPp.out
    have uQ := heap_keep hx KQ.out
    clear aS0 aS1 aO0 aO1 aI0 aI1 aB0 aB1 aPp0 aPp1 aQ0 aQ1
    clear hx KS KO KI KB KPp KQ
    have aS0 := Up.cell0 uS
    have aS1 := Up.cell1 uS
    have aO0 := Up.cell0 uO
    have aO1 := Up.cell1 uO
    have aI0 := Up.cell0 uI
    have aI1 := Up.cell1 uI
    have aB0 := Up.cell0 uB
    have aB1 := Up.cell1 uB
    have aPp0 := Up.cell0 uPp
    have aPp1 := Up.cell1 uPp
    have aQ0 := Up.cell0 uQ
    have aQ1 := Up.cell1 uQ
    clear uS uO uI uB uPp uQ
    go_wp2_with fail
    refine wp_region_up X.heap.size X (by kernel_rfl) (by kernel_rfl) (Below.refl _ _) ?_
    repeat (go_big_quiet_step (first | with_reducible exact Calls.up _ (Up.below _).size (H2.out _) | with_reducible exact Calls.up _ (Up.below _).size (E2.out _) | with_reducible exact Calls.up _ (Up.below _).size (A1.out _) | with_reducible exact Calls.up _ (Up.below _).size (A2.out _) | with_reducible exact Calls.up _ (Up.below _).size (A3.out _) | with_reducible exact Calls.up _ (Up.below _).size (A4.out _) | with_reducible exact Calls.up _ (Up.below _).size (wakes_any _)))
    refine wpQuiet_nil ?_
    rintro Y ⟨⟨_, hy⟩, rfl⟩
    have hBY : Below w.heap.size w Y := hBX.trans (hy.mono hBX.size)
    clear aS0 aS1 aO0 aO1 aI0 aI1 aB0 aB1 aPp0 aPp1 aQ0 aQ1
    clear hy
    go_wp2_with fail
    go_ret
    exact ⟨rfl, hBY⟩
  · have tok : True := trivial
    obtain rfl : bF = mF := h1.symm
    obtain rfl : bT = mT := h2.symm
    clear hcase tok
    have aS0 := Up.cell0 kS
    have aS1 := Up.cell1 kS
    have aO0 := Up.cell0 kO
    have aO1 := Up.cell1 kO
    have aI0 := Up.cell0 kI
    have aI1 := Up.cell1 kI
    have aB0 := Up.cell0 kB
    have aB1 := Up.cell1 kB
    have aPp0 := Up.cell0 kPp
    have aPp1 := Up.cell1 kPp
    have aQ0 := Up.cell0 kQ
    have aQ1 := Up.cell1 kQ
    have KS := Lib.hid kS
    have KO := Lib.hid kO
    have KI := Lib.hid kI
    have KB := Lib.hid kB
    have KPp := Lib.hid kPp
    have KQ := Lib.hid kQ
    clear kS kO kI kB kPp kQ
    refine wp_region_up V.heap.size V (by kernel_rfl) (by kernel_rfl) (Below.refl _ _) ?_
    repeat (go_big_quiet_step (first | with_reducible exact Calls.up _ (Up.below _).size (E1.out _) | with_reducible exact Calls.up _ (Up.below _).size (E2.out _)))
    refine wpQuiet_nil ?_
    rintro U ⟨⟨_, hu⟩, rfl⟩
    have hBU : Below w.heap.size w U := hBV.trans (hu.mono hBV.size)
    have uS := heap_keep hu KS.out
    have uO := heap_keep hu KO.out
    have uI := heap_keep hu KI.out
    have uB := heap_keep hu KB.out
    have uPp := heap_keep hu KPp.out
    have uQ := heap_keep hu KQ.out
    clear aS0 aS1 aO0 aO1 aI0 aI1 aB0 aB1 aPp0 aPp1 aQ0 aQ1
    clear hu KS KO KI KB KPp KQ
    have aS0 := Up.cell0 uS
    have aS1 := Up.cell1 uS
    have aO0 := Up.cell0 uO
    have aO1 := Up.cell1 uO
    have aI0 := Up.cell0 uI
    have aI1 := Up.cell1 uI
    have aB0 := Up.cell0 uB
    have aB1 := Up.cell1 uB
    have aPp0 := Up.cell0 uPp
    have aPp1 := Up.cell1 uPp
    have aQ0 := Up.cell0 uQ
    have aQ1 := Up.cell1 uQ
    have KS := Lib.hid uS
    have KO := Lib.hid uO
    have KI := Lib.hid uI
    have KB := Lib.hid uB
    have KPp := Lib.hid uPp
    have KQ := Lib.hid uQ
    clear uS uO uI uB uPp uQ
    go_wp2_with fail
    refine wp_region_up U.heap.size U (by kernel_rfl) (by kernel_rfl) (Below.refl _ _) ?_
    repeat (go_big_quiet_step (first | with_reducible exact Calls.up _ (Up.below _).size (H1.out _) | with_reducible exact Calls.up _ (Up.below _).size (A1.out _) | with_reducible exact Calls.up _ (Up.below _).size (E3.out _)))
    refine wpQuiet_nil ?_
    rintro X ⟨⟨_, hx⟩, rfl⟩
    have hBX : Below w.heap.size w X := hBU.trans (hx.mono hBU.size)
    have uS := heap_keep hx KS.out
    have uO := heap_keep hx KO.out
    have uI := heap_keep hx KI.out
    have uB := heap_keep hx KB.out
    have uPp := heap_keep hx KPp.out
    have uQ := heap_keep hx KQ.out
    clear aS0 aS1 aO0 aO1 aI0 aI1 aB0 aB1 aPp0 aPp1 aQ0 aQ1
    clear hx KS KO KI KB KPp KQ
    have aS0 := Up.cell0 uS
    have aS1 := Up.cell1 uS
    have aO0 := Up.cell0 uO
    have aO1 := Up.cell1 uO
    have aI0 := Up.cell0 uI
    have aI1 := Up.cell1 uI
    have aB0 := Up.cell0 uB
    have aB1 := Up.cell1 uB
    have aPp0 := Up.cell0 uPp
    have aPp1 := Up.cell1 uPp
    have aQ0 := Up.cell0 uQ
    have aQ1 := Up.cell1 uQ
    clear uS uO uI uB uPp uQ
    go_wp2_with fail
    refine wp_region_up X.heap.size X (by kernel_rfl) (by kernel_rfl) (Below.refl _ _) ?_
    repeat (go_big_quiet_step (first | with_reducible exact Calls.up _ (Up.below _).size (H2.out _) | with_reducible exact Calls.up _ (Up.below _).size (E2.out _) | with_reducible exact Calls.up _ (Up.below _).size (A1.out _) | with_reducible exact Calls.up _ (Up.below _).size (A2.out _) | with_reducible exact Calls.up _ (Up.below _).size (A3.out _) | with_reducible exact Calls.up _ (Up.below _).size (A4.out _) | with_reducible exact Calls.up _ (Up.below _).size (wakes_any _)))
    refine wpQuiet_nil ?_
    rintro Y ⟨⟨_, hy⟩, rfl⟩
    have hBY : Below w.heap.size w Y := hBX.trans (hy.mono hBX.size)
    clear aS0 aS1 aO0 aO1 aI0 aI1 aB0 aB1 aPp0 aPp1 aQ0 aQ1
    clear hy
    go_wp2_with fail
    go_ret
    exact ⟨rfl, hBY⟩
  · have tok : True := trivial
    clear hcase tok
    have aS0 := Up.cell0 kS
    have aS1 := Up.cell1 kS
    have aO0 := Up.cell0 kO
    have aO1 := Up.cell1 kO
    have aI0 := Up.cell0 kI
    have aI1 := Up.cell1 kI
    have aB0 := Up.cell0 kB
    have aB1 := Up.cell1 kB
    have aPp0 := Up.cell0 kPp
    have aPp1 := Up.cell1 kPp
    have aQ0 := Up.cell0 kQ
    have aQ1 := Up.cell1 kQ
    have KS := Lib.hid kS
    have KO := Lib.hid kO
    have KI := Lib.hid kI
    have KB := Lib.hid kB
    have KPp := Lib.hid kPp
    have KQ := Lib.hid kQ
    clear kS kO kI kB kPp kQ
    refine wp_region_up V.heap.size V (by kernel_rfl) (by kernel_rfl) (Below.refl _ _) ?_
    repeat (go_big_quiet_step (first | with_reducible exact Calls.up _ (Up.below _).size (E1.out _) | with_reducible exact Calls.up _ (Up.below _).size (E2.out _)))
    refine wpQuiet_nil ?_
    rintro U ⟨⟨_, hu⟩, rfl⟩
    have hBU : Below w.heap.size w U := hBV.trans (hu.mono hBV.size)
    have uS := heap_keep hu KS.out
    have uO := heap_keep hu KO.out
    have uI := heap_keep hu KI.out
    have uB := heap_keep hu KB.out
    have uPp := heap_keep hu KPp.out
    have uQ := heap_keep hu KQ.out
    clear aS0 aS1 aO0 aO1 aI0 aI1 aB0 aB1 aPp0 aPp1 aQ0 aQ1
    clear hu KS KO KI KB KPp KQ
    have aS0 := Up.cell0 uS
    have aS1 := Up.cell1 uS
    have aO0 := Up.cell0 uO
    have aO1 := Up.cell1 uO
    have aI0 := Up.cell0 uI
    have aI1 := Up.cell1 uI
    have aB0 := Up.cell0 uB
    have aB1 := Up.cell1 uB
    have aPp0 := Up.cell0 uPp
    have aPp1 := Up.cell1 uPp
    have aQ0 := Up.cell0 uQ
    have aQ1 := Up.cell1 uQ
    have KS := Lib.hid uS
    have KO := Lib.hid uO
    have KI := Lib.hid uI
    have KB := Lib.hid uB
    have KPp := Lib.hid uPp
    have KQ := Lib.hid uQ
    clear uS uO uI uB uPp uQ
    go_wp2_with fail
    refine wp_region_up U.heap.size U (by kernel_rfl) (by kernel_rfl) (Below.refl _ _) ?_
    repeat (go_big_quiet_step (first | with_reducible exact Calls.up _ (Up.below _).size (H1.out _) | with_reducible exact Calls.up _ (Up.below _).size (A1.out _) | with_reducible exact Calls.up _ (Up.below _).size (E3.out _)))
    refine wpQuiet_nil ?_
    rintro X ⟨⟨_, hx⟩, rfl⟩
    have hBX : Below w.heap.size w X := hBU.trans (hx.mono hBU.size)
    have uS := heap_keep hx KS.out
    have uO := heap_keep hx KO.out
    have uI := heap_keep hx KI.out
    have uB := heap_keep hx KB.out
    have uPp := heap_keep hx KPp.out
    have uQ := heap_keep hx KQ.out
    clear aS0 aS1 aO0 aO1 aI0 aI1 aB0 aB1 aPp0 aPp1 aQ0 aQ1
    clear hx KS KO KI KB KPp KQ
    have aS0 := Up.cell0 uS
    have aS1 := Up.cell1 uS
    have aO0 := Up.cell0 uO
    have aO1 := Up.cell1 uO
    have aI0 := Up.cell0 uI
    have aI1 := Up.cell1 uI
    have aB0 := Up.cell0 uB
    have aB1 := Up.cell1 uB
    have aPp0 := Up.cell0 uPp
    have aPp1 := Up.cell1 uPp
    have aQ0 := Up.cell0 uQ
    have aQ1 := Up.cell1 uQ
    clear uS uO uI uB uPp uQ
    go_wp2_with fail
    refine wp_region_up X.heap.size X (by kernel_rfl) (by kernel_rfl) (Below.refl _ _) ?_
    repeat (go_big_quiet_step (first | with_reducible exact Calls.up _ (Up.below _).size (H2.out _) | with_reducible exact Calls.up _ (Up.below _).size (E2.out _) | with_reducible exact Calls.up _ (Up.below _).size (A1.out _) | with_reducible exact Calls.up _ (Up.below _).size (A2.out _) | with_reducible exact Calls.up _ (Up.below _).size (A3.out _) | with_reducible exact Calls.up _ (Up.below _).size (A4.out _) | with_reducible exact Calls.up _ (Up.below _).size (wakes_any _)))
    refine wpQuiet_nil ?_
    rintro Y ⟨⟨_, hy⟩, rfl⟩
    have hBY : Below w.heap.size w Y := hBX.trans (hy.mono hBX.size)
    clear aS0 aS1 aO0 aO1 aI0 aI1 aB0 aB1 aPp0 aPp1 aQ0 aQ1
    clear hy
    go_wp2_with fail
    go_ret
    exact ⟨rfl, hBY⟩
  · have tok : True := trivial
    obtain rfl : bF = mF := h1.symm
    clear hcase tok
    have aS0 := Up.cell0 kS
    have aS1 := Up.cell1 kS
    have aO0 := Up.cell0 kO
    have aO1 := Up.cell1 kO
    have aI0 := Up.cell0 kI
    have aI1 := Up.cell1 kI
    have aB0 := Up.cell0 kB
    have aB1 := Up.cell1 kB
    have aPp0 := Up.cell0 kPp
    have aPp1 := Up.cell1 kPp
    have aQ0 := Up.cell0 kQ
    have aQ1 := Up.cell1 kQ
    have KS := Lib.hid kS
    have KO := Lib.hid kO
    have KI := Lib.hid kI
    have KB := Lib.hid kB
    have KPp := Lib.hid kPp
    have KQ := Lib.hid kQ
    clear kS kO kI kB kPp kQ
    refine wp_region_up V.heap.size V (by kernel_rfl) (by kernel_rfl) (Below.refl _ _) ?_
    repeat (go_big_quiet_step (first | with_reducible exact Calls.up _ (Up.below _).size (E1.out _) | with_reducible exact Calls.up _ (Up.below _).size (E2.out _)))
    refine wpQuiet_nil ?_
    rintro U ⟨⟨_, hu⟩, rfl⟩
    have hBU : Below w.heap.size w U := hBV.trans (hu.mono hBV.size)
    have uS := heap_keep hu KS.out
    have uO := heap_keep hu KO.out
    have uI := heap_keep hu KI.out
    have uB := heap_keep hu KB.out
    have uPp := heap_keep hu KPp.out
    have uQ := heap_keep hu KQ.out
    clear aS0 aS1 aO0 aO1 aI0 aI1 aB0 aB1 aPp0 aPp1 aQ0 aQ1
    clear hu KS KO KI KB KPp KQ
    have aS0 := Up.cell0 uS
    have aS1 := Up.cell1 uS
    have aO0 := Up.cell0 uO
    have aO1 := Up.cell1 uO
    have aI0 := Up.cell0 uI
    have aI1 := Up.cell1 uI
    have aB0 := Up.cell0 uB
    have aB1 := Up.cell1 uB
    have aPp0 := Up.cell0 uPp
    have aPp1 := Up.cell1 uPp
    have aQ0 := Up.cell0 uQ
    have aQ1 := Up.cell1 uQ
    have KS := Lib.hid uS
    have KO := Lib.hid uO
    have KI := Lib.hid uI
    have KB := Lib.hid uB
    have KPp := Lib.hid uPp
    have KQ := Lib.hid uQ
    clear uS uO uI uB uPp uQ
    go_wp2_with fail
    refine wp_region_up U.heap.size U (by kernel_rfl) (by kernel_rfl) (Below.refl _ _) ?_
    repeat (go_big_quiet_step (first | with_reducible exact Calls.up _ (Up.below _).size (H1.out _) | with_reducible exact Calls.up _ (Up.below _).size (A1.out _) | with_reducible exact Calls.up _ (Up.below _).size (E3.out _)))
    refine wpQuiet_nil ?_
    rintro X ⟨⟨_, hx⟩, rfl⟩
    have hBX : Below w.heap.size w X := hBU.trans (hx.mono hBU.size)
    have uS := heap_keep hx KS.out
    have uO := heap_keep hx KO.out
    have uI := heap_keep hx KI.out
    have uB := heap_keep hx KB.out
    have uPp := heap_keep hx KPp.out
    have uQ := heap_keep hx KQ.out
    clear aS0 aS1 aO0 aO1 aI0 aI1 aB0 aB1 aPp0 aPp1 aQ0 aQ1
    clear hx KS KO KI KB KPp KQ
    have aS0 := Up.cell0 uS
    have aS1 := Up.cell1 uS
    have aO0 := Up.cell0 uO
    have aO1 := Up.cell1 uO
    have aI0 := Up.cell0 uI
    have aI1 := Up.cell1 uI
    have aB0 := Up.cell0 uB
    have aB1 := Up.cell1 uB
    have aPp0 := Up.cell0 uPp
    have aPp1 := Up.cell1 uPp
    have aQ0 := Up.cell0 uQ
    have aQ1 := Up.cell1 uQ
    clear uS uO uI uB uPp uQ
    go_wp2_with fail
    refine wp_region_up X.heap.size X (by kernel_rfl) (by kernel_rfl) (Below.refl _ _) ?_
    repeat (go_big_quiet_step (first | with_reducible exact Calls.up _ (Up.below _).size (H2.out _) | with_reducible exact Calls.up _ (Up.below _).size (E2.out _) | with_reducible exact Calls.up _ (Up.below _).size (A1.out _) | with_reducible exact Calls.up _ (Up.below _).size (A2.out _) | with_reducible exact Calls.up _ (Up.below _).size (A3.out _) | with_reducible exact Calls.up _ (Up.below _).size (A4.out _) | with_reducible exact Calls.up _ (Up.below _).size (wakes_any _)))
    refine wpQuiet_nil ?_
    rintro Y ⟨⟨_, hy⟩, rfl⟩
    have hBY : Below w.heap.size w Y := hBX.trans (hy.mono hBX.size)
    clear aS0 aS1 aO0 aO1 aI0 aI1 aB0 aB1 aPp0 aPp1 aQ0 aQ1
    clear hy
    go_wp2_with fail
    go_ret
    exact ⟨rfl, hBY⟩

end Go.Proofs.Ytjnhkfjhkhbneaa
