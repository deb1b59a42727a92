/- Two lists, span by span: three functions that compare them. -/
import Derived.Test.YtjnhkfjhkhbneaaSets7
namespace Go.Proofs.Ytjnhkfjhkhbneaa
open Go.RowKit SpanP

theorem take_step {a b : List Sp} {k : Nat} (h : a.take k = b.take k) (ha : k < a.length) (hb : k < b.length) (e : a[k] = b[k]) : a.take (k + 1) = b.take (k + 1) := by
  rw [List.take_succ_eq_append_getElem ha, List.take_succ_eq_append_getElem hb, h, e]
theorem ne_at {a b : List Sp} {k : Nat} (ha : k < a.length) (hb : k < b.length) (e : a[k] ≠ b[k]) : a ≠ b := fun h => e (by subst h; rfl)
theorem Rd.up0 {w : World} {b off n cap : Nat} {l : List Sp} (h : Rd w (.slice (some ⟨b, off, none⟩) n cap) l) (i : Nat) (hi : i < l.length) (u : Up w.heap.size w) : u.w.cell? ⟨b, off + i * 2, none⟩ = some (.int .i64 l[i].1) := (h.below u.below).cell0 i hi
theorem Rd.up1 {w : World} {b off n cap : Nat} {l : List Sp} (h : Rd w (.slice (some ⟨b, off, none⟩) n cap) l) (i : Nat) (hi : i < l.length) (u : Up w.heap.size w) : u.w.cell? ⟨b, off + i * 2 + 1, none⟩ = some (.int .i64 l[i].2) := (h.below u.below).cell1 i hi

set_option maxRecDepth 100000 in
set_option maxHeartbeats 2000000 in
theorem equal_any (va vb : Value) (a b : List Sp) (r : Bool) (hr : decide (a = b) = r) (w : World) (hra : Rd w va a) (hrb : Rd w vb b) :
    Calls Try.prog 26 #[va, vb] w fun e w' => e = .returned (.bool r) ∧ Below w.heap.size w w' := by
  have RA := Lib.hid hra
  have RB := Lib.hid hrb
  have R := Lib.hid hr
  obtain ⟨aa, ca, rfl, ha1, ha2, hfa⟩ := hra.shape
  obtain ⟨ab, cb, rfl, hb1, hb2, hfb⟩ := hrb.shape
  have FA := Lib.hid hfa
  have FB := Lib.hid hfb
  unfold maxLen at ha2 hb2
  obtain ⟨n, hn⟩ : ∃ n, n = a.length := ⟨_, rfl⟩
  obtain ⟨m, hm⟩ : ∃ m, m = b.length := ⟨_, rfl⟩
  have N := Lib.hid hn
  have M := Lib.hid hm
  rw [← hn] at RA ha1
  rw [← hm] at RB hb1
  rw [← hn, ← hm]
  clear hn hm hra hrb hfa hfb hr
  by_cases hnm : n = m
  · subst hnm
    go_enter Try.func26, Try.ntmps26
    go_wp2_with fail
    go_loopg [5] n (fun gg s5 wr => ∃ k : Nat, s5 = .int .i64 k ∧ k ≤ n ∧ n - k ≤ gg ∧ Hid (a.take k = b.take k) ∧ Hid (Below w.heap.size w wr))
    case atStart => exact ⟨0, rfl, by omega, by omega, Lib.hid (by simp), Lib.hid (Below.refl _ _)⟩
    case round =>
      obtain ⟨k, rfl, hk, hgg, hT, hB⟩ := hrel
      by_cases hkn : k < n
      · have hka : k < a.length := by rw [← N.out]; exact hkn
        have hkb : k < b.length := by rw [← M.out]; exact hkn
        obtain ⟨ba, oa, rfl⟩ := FA.out (by intro h; rw [h] at hka; simp at hka)
        obtain ⟨bb, ob, rfl⟩ := FB.out (by intro h; rw [h] at hkb; simp at hkb)
        have c0 := (RA.out.below hB.out).up0 k hka
        have c1 := (RA.out.below hB.out).up1 k hka
        have d0 := (RB.out.below hB.out).up0 k hkb
        have d1 := (RB.out.below hB.out).up1 k hkb
        obtain ⟨x, hx⟩ : ∃ x, a[k] = x := ⟨_, rfl⟩
        obtain ⟨y, hy⟩ : ∃ y, b[k] = y := ⟨_, rfl⟩
        rw [hx] at c0 c1
        rw [hy] at d0 d1
        have X := Lib.hid (show ∃ (h : k < a.length) (h' : k < b.length), a[k] = x ∧ b[k] = y from ⟨hka, hkb, hx, hy⟩)
        clear hx hy hka hkb
        obtain ⟨x1, x2⟩ := x
        obtain ⟨y1, y2⟩ := y
        dsimp only at c0 c1 d0 d1
        have hkz : (k : Int) < (n : Int) := by omega
        go_wp2_with fail
        by_cases e1 : x1 = y1
        · by_cases e2 : x2 = y2
          · subst e1 e2
            refine wp_region_up wr.heap.size wr (by kernel_rfl) (by kernel_rfl) (Below.refl _ _) ?_
            repeat (go_big_quiet_step (fail))
            refine wpQuiet_nil ?_
            rintro wu ⟨⟨_, hu⟩, rfl⟩
            have B' := Lib.hid (hB.out.trans (hu.mono hB.out.size))
            clear hu hB c0 c1 d0 d1
            go_wp2_with fail
            go_roundg (n - (k + 1))
            case measure => omega
            case rel =>
              obtain ⟨h1, h2, h3, h4⟩ := X.out
              exact ⟨k + 1, by go_num, by omega, Nat.le_refl _, Lib.hid (take_step hT.out h1 h2 (by rw [h3, h4])), B'⟩
          · have hf : r = false := by
              obtain ⟨h1, h2, h3, h4⟩ := X.out
              rw [← R.out]
              exact decide_eq_false (ne_at h1 h2 (by rw [h3, h4]; intro h; exact e2 (Prod.mk.inj h).2))
            subst e1 hf
            refine wp_region_up wr.heap.size wr (by kernel_rfl) (by kernel_rfl) (Below.refl _ _) ?_
            repeat (go_big_quiet_step (fail))
            refine wpQuiet_nil ?_
            rintro wu ⟨⟨_, hu⟩, rfl⟩
            have B' := Lib.hid (hB.out.trans (hu.mono hB.out.size))
            clear hu hB c0 c1 d0 d1
            go_wp2_with fail
            go_ret
            exact ⟨rfl, B'.out⟩
        · have hf : r = false := by
            obtain ⟨h1, h2, h3, h4⟩ := X.out
            rw [← R.out]
            exact decide_eq_false (ne_at h1 h2 (by rw [h3, h4]; intro h; exact e1 (Prod.mk.inj h).1))
          subst hf
          refine wp_region_up wr.heap.size wr (by kernel_rfl) (by kernel_rfl) (Below.refl _ _) ?_
          repeat (go_big_quiet_step (fail))
          refine wpQuiet_nil ?_
          rintro wu ⟨⟨_, hu⟩, rfl⟩
          have B' := Lib.hid (hB.out.trans (hu.mono hB.out.size))
          clear hu hB c0 c1 d0 d1
          go_wp2_with fail
          go_ret
          exact ⟨rfl, B'.out⟩
      · obtain rfl : k = n := by omega
        have hkz : ¬ (k : Int) < (k : Int) := by omega
        have hf : r = true := by
          rw [← R.out]
          have := hT.out
          rw [List.take_of_length_le (by rw [← N.out]; exact Nat.le_refl _), List.take_of_length_le (by rw [← M.out]; exact Nat.le_refl _)] at this
          exact decide_eq_true this
        subst hf
        go_wp2_with fail
        go_ret
        exact ⟨rfl, hB.out⟩
  · have hne : ((n : Int) == (m : Int)) = false := beq_eq_false_iff_ne.2 (by omega)
    have hf : r = false := by
      rw [← R.out]
      exact decide_eq_false (fun h => hnm (by rw [N.out, M.out, h]))
    subst hf
    go_enter Try.func26, Try.ntmps26
    go_wp2_with fail
    go_ret
    exact ⟨rfl, Below.refl _ _⟩
set_option maxRecDepth 100000 in
set_option maxHeartbeats 2000000 in
theorem rsame_any (va vb : Value) (a b : List Sp) (r : Bool) (hr : decide (a = b) = r) (w : World) (hra : Rd w va a) (hrb : Rd w vb b) :
    Calls Try.prog 47 #[va, vb] w fun e w' => e = .returned (.bool r) ∧ Below w.heap.size w w' := by
  have RA := Lib.hid hra
  have RB := Lib.hid hrb
  have R := Lib.hid hr
  obtain ⟨aa, ca, rfl, ha1, ha2, hfa⟩ := hra.shape
  obtain ⟨ab, cb, rfl, hb1, hb2, hfb⟩ := hrb.shape
  have FA := Lib.hid hfa
  have FB := Lib.hid hfb
  unfold maxLen at ha2 hb2
  obtain ⟨n, hn⟩ : ∃ n, n = a.length := ⟨_, rfl⟩
  obtain ⟨m, hm⟩ : ∃ m, m = b.length := ⟨_, rfl⟩
  have N := Lib.hid hn
  have M := Lib.hid hm
  rw [← hn] at RA ha1
  rw [← hm] at RB hb1
  rw [← hn, ← hm]
  clear hn hm hra hrb hfa hfb hr
  by_cases hnm : n = m
  · subst hnm
    go_enter Try.func47, Try.ntmps47
    go_wp2_with fail
    go_loopg [5] n (fun gg s5 wr => ∃ k : Nat, s5 = .int .i64 k ∧ k ≤ n ∧ n - k ≤ gg ∧ Hid (a.take k = b.take k) ∧ Hid (Below w.heap.size w wr))
    case atStart => exact ⟨0, rfl, by omega, by omega, Lib.hid (by simp), Lib.hid (Below.refl _ _)⟩
    case round =>
      obtain ⟨k, rfl, hk, hgg, hT, hB⟩ := hrel
      by_cases hkn : k < n
      · have hka : k < a.length := by rw [← N.out]; exact hkn
        have hkb : k < b.length := by rw [← M.out]; exact hkn
        obtain ⟨ba, oa, rfl⟩ := FA.out (by intro h; rw [h] at hka; simp at hka)
        obtain ⟨bb, ob, rfl⟩ := FB.out (by intro h; rw [h] at hkb; simp at hkb)
        have c0 := (RA.out.below hB.out).up0 k hka
        have c1 := (RA.out.below hB.out).up1 k hka
        have d0 := (RB.out.below hB.out).up0 k hkb
        have d1 := (RB.out.below hB.out).up1 k hkb
        obtain ⟨x, hx⟩ : ∃ x, a[k] = x := ⟨_, rfl⟩
        obtain ⟨y, hy⟩ : ∃ y, b[k] = y := ⟨_, rfl⟩
        rw [hx] at c0 c1
        rw [hy] at d0 d1
        have X := Lib.hid (show ∃ (h : k < a.length) (h' : k < b.length), a[k] = x ∧ b[k] = y from ⟨hka, hkb, hx, hy⟩)
        clear hx hy hka hkb
        obtain ⟨x1, x2⟩ := x
        obtain ⟨y1, y2⟩ := y
        dsimp only at c0 c1 d0 d1
        have hkz : (k : Int) < (n : Int) := by omega
        go_wp2_with fail
        by_cases e1 : x1 = y1
        · by_cases e2 : x2 = y2
          · subst e1 e2
            refine wp_region_up wr.heap.size wr (by kernel_rfl) (by kernel_rfl) (Below.refl _ _) ?_
            repeat (go_big_quiet_step (fail))
            refine wpQuiet_nil ?_
            rintro wu ⟨⟨_, hu⟩, rfl⟩
            have B' := Lib.hid (hB.out.trans (hu.mono hB.out.size))
            clear hu hB c0 c1 d0 d1
            go_wp2_with fail
            go_roundg (n - (k + 1))
            case measure => omega
            case rel =>
              obtain ⟨h1, h2, h3, h4⟩ := X.out
              exact ⟨k + 1, by go_num, by omega, Nat.le_refl _, Lib.hid (take_step hT.out h1 h2 (by rw [h3, h4])), B'⟩
          · have hf : r = false := by
              obtain ⟨h1, h2, h3, h4⟩ := X.out
              rw [← R.out]
              exact decide_eq_false (ne_at h1 h2 (by rw [h3, h4]; intro h; exact e2 (Prod.mk.inj h).2))
            subst e1 hf
            refine wp_region_up wr.heap.size wr (by kernel_rfl) (by kernel_rfl) (Below.refl _ _) ?_
            repeat (go_big_quiet_step (fail))
            refine wpQuiet_nil ?_
            rintro wu ⟨⟨_, hu⟩, rfl⟩
            have B' := Lib.hid (hB.out.trans (hu.mono hB.out.size))
            clear hu hB c0 c1 d0 d1
            go_wp2_with fail
            go_ret
            exact ⟨rfl, B'.out⟩
        · have hf : r = false := by
            obtain ⟨h1, h2, h3, h4⟩ := X.out
            rw [← R.out]
            exact decide_eq_false (ne_at h1 h2 (by rw [h3, h4]; intro h; exact e1 (Prod.mk.inj h).1))
          subst hf
          refine wp_region_up wr.heap.size wr (by kernel_rfl) (by kernel_rfl) (Below.refl _ _) ?_
          repeat (go_big_quiet_step (fail))
          refine wpQuiet_nil ?_
          rintro wu ⟨⟨_, hu⟩, rfl⟩
          have B' := Lib.hid (hB.out.trans (hu.mono hB.out.size))
          clear hu hB c0 c1 d0 d1
          go_wp2_with fail
          go_ret
          exact ⟨rfl, B'.out⟩
      · obtain rfl : k = n := by omega
        have hkz : ¬ (k : Int) < (k : Int) := by omega
        have hf : r = true := by
          rw [← R.out]
          have := hT.out
          rw [List.take_of_length_le (by rw [← N.out]; exact Nat.le_refl _), List.take_of_length_le (by rw [← M.out]; exact Nat.le_refl _)] at this
          exact decide_eq_true this
        subst hf
        go_wp2_with fail
        go_ret
        exact ⟨rfl, hB.out⟩
  · have hne : ((n : Int) == (m : Int)) = false := beq_eq_false_iff_ne.2 (by omega)
    have hf : r = false := by
      rw [← R.out]
      exact decide_eq_false (fun h => hnm (by rw [N.out, M.out, h]))
    subst hf
    go_enter Try.func47, Try.ntmps47
    go_wp2_with fail
    go_ret
    exact ⟨rfl, Below.refl _ _⟩
set_option maxRecDepth 100000 in
set_option maxHeartbeats 2000000 in
theorem slEqual_any (va vb : Value) (a b : List Sp) (r : Bool) (hr : decide (a = b) = r) (w : World) (hra : Rd w va a) (hrb : Rd w vb b) :
    Calls Try.prog 64 #[va, vb] w fun e w' => e = .returned (.bool r) ∧ Below w.heap.size w w' := by
  have RA := Lib.hid hra
  have RB := Lib.hid hrb
  have R := Lib.hid hr
  obtain ⟨aa, ca, rfl, ha1, ha2, hfa⟩ := hra.shape
  obtain ⟨ab, cb, rfl, hb1, hb2, hfb⟩ := hrb.shape
  have FA := Lib.hid hfa
  have FB := Lib.hid hfb
  unfold maxLen at ha2 hb2
  obtain ⟨n, hn⟩ : ∃ n, n = a.length := ⟨_, rfl⟩
  obtain ⟨m, hm⟩ : ∃ m, m = b.length := ⟨_, rfl⟩
  have N := Lib.hid hn
  have M := Lib.hid hm
  rw [← hn] at RA ha1
  rw [← hm] at RB hb1
  rw [← hn, ← hm]
  clear hn hm hra hrb hfa hfb hr
  by_cases hnm : n = m
  · subst hnm
    go_enter Try.func64, Try.ntmps64
    go_wp2_with fail
    go_loopg [5, 13] n (fun gg _ s5 wr => ∃ k : Nat, s5 = .int .i64 k ∧ k ≤ n ∧ n - k ≤ gg ∧ Hid (a.take k = b.take k) ∧ Hid (Below w.heap.size w wr))
    case atStart => exact ⟨0, rfl, by omega, by omega, Lib.hid (by simp), Lib.hid (Below.refl _ _)⟩
    case round =>
      obtain ⟨k, rfl, hk, hgg, hT, hB⟩ := hrel
      by_cases hkn : k < n
      · have hka : k < a.length := by rw [← N.out]; exact hkn
        have hkb : k < b.length := by rw [← M.out]; exact hkn
        obtain ⟨ba, oa, rfl⟩ := FA.out (by intro h; rw [h] at hka; simp at hka)
        obtain ⟨bb, ob, rfl⟩ := FB.out (by intro h; rw [h] at hkb; simp at hkb)
        have c0 := (RA.out.below hB.out).up0 k hka
        have c1 := (RA.out.below hB.out).up1 k hka
        have d0 := (RB.out.below hB.out).up0 k hkb
        have d1 := (RB.out.below hB.out).up1 k hkb
        obtain ⟨x, hx⟩ : ∃ x, a[k] = x := ⟨_, rfl⟩
        obtain ⟨y, hy⟩ : ∃ y, b[k] = y := ⟨_, rfl⟩
        rw [hx] at c0 c1
        rw [hy] at d0 d1
        have X := Lib.hid (show ∃ (h : k < a.length) (h' : k < b.length), a[k] = x ∧ b[k] = y from ⟨hka, hkb, hx, hy⟩)
        clear hx hy hka hkb
        obtain ⟨x1, x2⟩ := x
        obtain ⟨y1, y2⟩ := y
        dsimp only at c0 c1 d0 d1
        have hkz : (k : Int) < (n : Int) := by omega
        go_wp2_with fail
        by_cases e1 : x1 = y1
        · by_cases e2 : x2 = y2
          · subst e1 e2
            refine wp_region_up wr.heap.size wr (by kernel_rfl) (by kernel_rfl) (Below.refl _ _) ?_
            repeat (go_big_quiet_step (fail))
            refine wpQuiet_nil ?_
            rintro wu ⟨⟨_, hu⟩, rfl⟩
            have B' := Lib.hid (hB.out.trans (hu.mono hB.out.size))
            clear hu hB c0 c1 d0 d1
            go_wp2_with fail
            go_roundg (n - (k + 1))
            case measure => omega
            case rel =>
              obtain ⟨h1, h2, h3, h4⟩ := X.out
              exact ⟨k + 1, by go_num, by omega, Nat.le_refl _, Lib.hid (take_step hT.out h1 h2 (by rw [h3, h4])), B'⟩
          · have hf : r = false := by
              obtain ⟨h1, h2, h3, h4⟩ := X.out
              rw [← R.out]
              exact decide_eq_false (ne_at h1 h2 (by rw [h3, h4]; intro h; exact e2 (Prod.mk.inj h).2))
            subst e1 hf
            refine wp_region_up wr.heap.size wr (by kernel_rfl) (by kernel_rfl) (Below.refl _ _) ?_
            repeat (go_big_quiet_step (fail))
            refine wpQuiet_nil ?_
            rintro wu ⟨⟨_, hu⟩, rfl⟩
            have B' := Lib.hid (hB.out.trans (hu.mono hB.out.size))
            clear hu hB c0 c1 d0 d1
            go_wp2_with fail
            go_ret
            exact ⟨rfl, B'.out⟩
        · have hf : r = false := by
            obtain ⟨h1, h2, h3, h4⟩ := X.out
            rw [← R.out]
            exact decide_eq_false (ne_at h1 h2 (by rw [h3, h4]; intro h; exact e1 (Prod.mk.inj h).1))
          subst hf
          refine wp_region_up wr.heap.size wr (by kernel_rfl) (by kernel_rfl) (Below.refl _ _) ?_
          repeat (go_big_quiet_step (fail))
          refine wpQuiet_nil ?_
          rintro wu ⟨⟨_, hu⟩, rfl⟩
          have B' := Lib.hid (hB.out.trans (hu.mono hB.out.size))
          clear hu hB c0 c1 d0 d1
          go_wp2_with fail
          go_ret
          exact ⟨rfl, B'.out⟩
      · obtain rfl : k = n := by omega
        have hkz : ¬ (k : Int) < (k : Int) := by omega
        have hf : r = true := by
          rw [← R.out]
          have := hT.out
          rw [List.take_of_length_le (by rw [← N.out]; exact Nat.le_refl _), List.take_of_length_le (by rw [← M.out]; exact Nat.le_refl _)] at this
          exact decide_eq_true this
        subst hf
        go_wp2_with fail
        go_ret
        exact ⟨rfl, hB.out⟩
  · have hne : ((n : Int) == (m : Int)) = false := beq_eq_false_iff_ne.2 (by omega)
    have hf : r = false := by
      rw [← R.out]
      exact decide_eq_false (fun h => hnm (by rw [N.out, M.out, h]))
    subst hf
    go_enter Try.func64, Try.ntmps64
    go_wp2_with fail
    go_ret
    exact ⟨rfl, Below.refl _ _⟩
set_option maxRecDepth 100000 in
set_option maxHeartbeats 2000000 in
/-- are two lists one set? -/
theorem same_any (va vb : Value) (a b : List Sp) (r : Bool) (hr : decide (ofL a = ofL b) = r) (w : World) (hra : Rd w va a) (hrb : Rd w vb b) (hla : a.length ≤ 4398046511104) (hlb : b.length ≤ 4398046511104) :
    Calls Try.prog 27 #[va, vb] w fun e w' => e = .returned (.bool r) ∧ Below w.heap.size w w' := by
  have RA := Lib.hid hra
  have RB := Lib.hid hrb
  have R := Lib.hid hr
  clear hra hrb hr
  go_enter Try.func27, Try.ntmps27
  go_wp2_with fail
  refine (of_any va a w RA.out hla).mono ?_
  rintro e w1 ⟨v1, rfl, o1, b1⟩
  have O1 := Lib.hid o1
  have B1 := Lib.hid b1
  clear o1 b1
  go_wp2_with fail
  refine (of_any vb b w1 (RB.out.below B1.out) hlb).mono ?_
  rintro e w2 ⟨v2, rfl, o2, b2⟩
  have O2 := Lib.hid o2
  have B2 := Lib.hid b2
  clear o2 b2
  go_wp2_with fail
  refine (slEqual_any v1 v2 (ofL a) (ofL b) r R.out w2 (O1.out.rd.below B2.out) O2.out.rd).mono ?_
  rintro e w3 ⟨rfl, b3⟩
  have B3 := Lib.hid b3
  clear b3
  go_wp2_with fail
  go_ret
  exact ⟨rfl, B1.out.trans ((B2.out.mono B1.out.size).trans (B3.out.mono (Nat.le_trans B1.out.size B2.out.size)))⟩
end Go.Proofs.Ytjnhkfjhkhbneaa
