/- What the document's Has and wrong answer. -/
import Derived.Test.YtjnhkfjhkhbneaaEnds
import Derived.Test.YtjnhkfjhkhbneaaRef9b
import Derived.Deep.QuietTactic
namespace Go.Proofs.Ytjnhkfjhkhbneaa
open Go.RowKit SpanP

set_option maxRecDepth 100000 in
set_option maxHeartbeats 4000000 in
theorem rhas_any (v : Value) (l : List Sp) (t : Int) (b : Bool) (hb : hasL l t = b) (w : World) (hr : Rd w v l) (hlen : l.length ≤ 100000) :
    Calls Try.prog 52 #[v, .int .i64 t] w fun e w' => e = .returned (.bool b) ∧ w = w' := by
  have R := Lib.hid hr
  obtain ⟨a, cap, rfl, hn1, hn2, hf⟩ := hr.shape
  have F := Lib.hid hf
  have HB := Lib.hid hb
  unfold maxLen at hn2
  obtain ⟨n, hn⟩ : ∃ n, n = l.length := ⟨_, rfl⟩
  have N := Lib.hid hn
  have hn3 : n ≤ 100000 := by rw [hn]; exact hlen
  rw [← hn] at R hn1 ⊢
  clear hn hr hf hlen hb
  go_enter Try.func52, Try.ntmps52
  go_wp2_with fail
  go_loopg [5] n (fun gg s5 wr => ∃ k : Nat, s5 = .int .i64 k ∧ k ≤ n ∧ n - k ≤ gg ∧ Hid (hasL (l.take k) t = false) ∧ w = wr)
  case atStart => exact ⟨0, rfl, by omega, by omega, Lib.hid rfl, rfl⟩
  case round =>
    obtain ⟨k, rfl, hk, hgg, hP, rfl⟩ := hrel
    by_cases hkn : k < n
    · have hkl : k < l.length := by rw [← N.out]; exact hkn
      obtain ⟨bb, ob, rfl⟩ := F.out (by intro h; rw [h] at hkl; simp at hkl)
      have c0 := R.out.cell0 k hkl
      have c1 := R.out.cell1 k hkl
      obtain ⟨x, hx⟩ : ∃ x, l[k] = x := ⟨_, rfl⟩
      rw [hx] at c0 c1
      have X := Lib.hid (show hasL (l.take (k + 1)) t = (hasL (l.take k) t || hasB x.1 x.2 t) by rw [hasL_take hkl, hx])
      have Y := Lib.hid (show x ∈ l by rw [← hx]; exact List.getElem_mem hkl)
      clear hx hkl
      obtain ⟨f, u⟩ := x
      dsimp only at c0 c1 X
      have hkz : (k : Int) < (n : Int) := by omega
      by_cases h1 : f ≤ t
      · by_cases h2 : t < u
        · obtain rfl : b = true := by rw [← HB.out, hasL_iff.2 ⟨_, Y.out, h1, h2⟩]
          go_wp2_with fail
          go_ret
          exact ⟨rfl, rfl⟩
        · have X2 := Lib.hid (show hasL (l.take (k + 1)) t = false by rw [X.out, hP.out, Bool.false_or, ← Bool.not_eq_true, hasB_iff]; omega)
          go_wp2_with fail
          go_roundg (n - (k + 1))
          case measure => omega
          case rel => exact ⟨k + 1, by go_num, by omega, Nat.le_refl _, X2, rfl⟩
      · have X2 := Lib.hid (show hasL (l.take (k + 1)) t = false by rw [X.out, hP.out, Bool.false_or, ← Bool.not_eq_true, hasB_iff]; omega)
        go_wp2_with fail
        go_roundg (n - (k + 1))
        case measure => omega
        case rel => exact ⟨k + 1, by go_num, by omega, Nat.le_refl _, X2, rfl⟩
    · obtain rfl : k = n := by omega
      have hkz : ¬ (k : Int) < (k : Int) := by omega
      have hp := hP.out
      rw [List.take_of_length_le (by rw [← N.out]; exact Nat.le_refl _), HB.out] at hp
      subst hp
      go_wp2_with fail
      go_ret
      exact ⟨rfl, rfl⟩

theorem rbound_is (t : Int) (b : Bool) (h : boundB t = b) (w : World) : Calls Try.prog 71 #[.int .i64 t] w fun e w' => e = .returned (.bool b) ∧ w = w' := h ▸ rbound_any t w
theorem rwidth_is (t : Int) (b : Bool) (h : widthB t = b) (w : World) : Calls Try.prog 43 #[.int .i64 t] w fun e w' => e = .returned (.bool b) ∧ w = w' := h ▸ rwidth_any t w

set_option maxRecDepth 100000 in
set_option maxHeartbeats 4000000 in
theorem rwrong10_any (v : Value) (l : List Sp) (n x : Int) (hx : errW l n = x) (w : World) (hr : Rd w v l) (hlen : l.length ≤ 100000) :
    Calls Try.prog 73 #[v, .int .i64 n] w fun e w' => e = .returned (.int .i64 x) ∧ Below w.heap.size w w' := by
  have R := Lib.hid hr
  obtain ⟨a, cap, rfl, hn1, hn2, hf⟩ := hr.shape
  have F := Lib.hid hf
  have HX := Lib.hid hx
  unfold maxLen at hn2
  obtain ⟨m, hm⟩ : ∃ n, n = l.length := ⟨_, rfl⟩
  have N := Lib.hid hm
  have hn3 : m ≤ 100000 := by rw [hm]; exact hlen
  rw [← hm] at R hn1 ⊢
  obtain ⟨bw, hbw⟩ : ∃ b, widthB n = b := ⟨_, rfl⟩
  have BW := Lib.hid hbw
  clear hm hr hf hlen hx hbw
  cases bw with
  | false =>
    obtain rfl : x = 1 := by rw [← HX.out]; unfold errW; rw [if_neg (by rw [BW.out]; simp)]
    go_enter Try.func73, Try.ntmps73
    go_wp2_with fail
    refine (rwidth_is n _ BW.out _).mono ?_
    rintro e _ ⟨rfl, rfl⟩
    go_wp2_with fail
    go_ret
    exact ⟨rfl, Below.refl _ _⟩
  | true =>
    go_enter Try.func73, Try.ntmps73
    go_wp2_with fail
    refine (rwidth_is n _ BW.out _).mono ?_
    rintro e _ ⟨rfl, rfl⟩
    go_wp2_with fail
    go_loopg [5] m (fun gg s5 wr => ∃ k : Nat, s5 = .int .i64 k ∧ k ≤ m ∧ m - k ≤ gg ∧ Hid (badL (l.take k) = false) ∧ Hid (Below w.heap.size w wr))
    case atStart => exact ⟨0, rfl, by omega, by omega, Lib.hid rfl, Lib.hid (Below.refl _ _)⟩
    case round =>
      obtain ⟨k, rfl, hk, hgg, hP, hB⟩ := hrel
      by_cases hkn : k < m
      · have hkl : k < l.length := by rw [← N.out]; exact hkn
        obtain ⟨bb, ob, rfl⟩ := F.out (by intro h; rw [h] at hkl; simp at hkl)
        have rr := R.out.below hB.out
        have c0 := rr.up0 k hkl
        have c1 := rr.up1 k hkl
        obtain ⟨y, hy⟩ : ∃ x, l[k] = x := ⟨_, rfl⟩
        rw [hy] at c0 c1
        have Y1 := Lib.hid (show badS y = true → badL l = true from fun h => badL_at hkl (by rw [hy]; exact h))
        have Y2 := Lib.hid (show badS y = false → badL (l.take (k + 1)) = false from fun h => badL_step hkl hP.out (by rw [hy]; exact h))
        clear hy hkl rr
        obtain ⟨f, t⟩ := y
        dsimp only at c0 c1
        obtain ⟨bf, hbf⟩ : ∃ b, boundB f = b := ⟨_, rfl⟩
        obtain ⟨bt, hbt⟩ : ∃ b, boundB t = b := ⟨_, rfl⟩
        have BF := Lib.hid (rbound_is f _ hbf)
        have BT := Lib.hid (rbound_is t _ hbt)
        have hkz : (k : Int) < (m : Int) := by omega
        have hk0 : (0 : Int) ≤ (k : Int) := by omega
        by_cases hft : f < t
        · have hbad : badS (f, t) = !(bf && bt) := by simp [badS, neS_iff.2 (show ((f, t) : Sp).1 < (f, t).2 from hft), hbf, hbt]
          have HBad := Lib.hid hbad
          clear hbf hbt hbad
          cases bf with
          | false =>
            obtain rfl : x = 7 := by rw [← HX.out]; unfold errW; rw [if_pos BW.out, if_pos (Y1.out (by rw [HBad.out]; rfl))]
            go_wp2_with fail
            refine wp_region_up wr.heap.size wr (by kernel_rfl) (by kernel_rfl) (Below.refl _ _) ?_
            repeat (go_big_quiet_step (first | with_reducible exact Calls.same _ (BF.out _) | with_reducible exact Calls.same _ (BT.out _)))
            refine wpQuiet_nil ?_
            rintro wu ⟨⟨_, hu⟩, rfl⟩
            have B' := Lib.hid (hB.out.trans (hu.mono hB.out.size))
            clear hu hB c0 c1
            go_wp2_with fail
            go_ret
            exact ⟨rfl, B'.out⟩
          | true =>
            cases bt with
            | false =>
              obtain rfl : x = 7 := by rw [← HX.out]; unfold errW; rw [if_pos BW.out, if_pos (Y1.out (by rw [HBad.out]; rfl))]
              go_wp2_with fail
              refine wp_region_up wr.heap.size wr (by kernel_rfl) (by kernel_rfl) (Below.refl _ _) ?_
              repeat (go_big_quiet_step (first | with_reducible exact Calls.same _ (BF.out _) | with_reducible exact Calls.same _ (BT.out _)))
              refine wpQuiet_nil ?_
              rintro wu ⟨⟨_, hu⟩, rfl⟩
              have B' := Lib.hid (hB.out.trans (hu.mono hB.out.size))
              clear hu hB c0 c1
              go_wp2_with fail
              go_ret
              exact ⟨rfl, B'.out⟩
            | true =>
              have P' := Lib.hid (Y2.out (by rw [HBad.out]; rfl))
              go_wp2_with fail
              refine wp_region_up wr.heap.size wr (by kernel_rfl) (by kernel_rfl) (Below.refl _ _) ?_
              repeat (go_big_quiet_step (first | with_reducible exact Calls.same _ (BF.out _) | with_reducible exact Calls.same _ (BT.out _)))
              refine wpQuiet_nil ?_
              rintro wu ⟨⟨_, hu⟩, rfl⟩
              have B' := Lib.hid (hB.out.trans (hu.mono hB.out.size))
              clear hu hB c0 c1
              go_wp2_with fail
              go_roundg (m - (k + 1))
              case measure => omega
              case rel => exact ⟨k + 1, by go_num, by omega, Nat.le_refl _, P', B'⟩
        · have hd : decide (f < t) = false := decide_eq_false hft
          have hbad : badS (f, t) = false := by simp [badS, neS_not.2 (show ((f, t) : Sp).2 ≤ (f, t).1 by show t ≤ f; omega)]
          have HBad := Lib.hid hbad
          clear hbf hbt hbad hft
          have P' := Lib.hid (Y2.out HBad.out)
          go_wp2_with fail
          refine wp_region_up wr.heap.size wr (by kernel_rfl) (by kernel_rfl) (Below.refl _ _) ?_
          repeat (go_big_quiet_step (first | with_reducible exact Calls.same _ (BF.out _) | with_reducible exact Calls.same _ (BT.out _)))
          refine wpQuiet_nil ?_
          rintro wu ⟨⟨_, hu⟩, rfl⟩
          have B' := Lib.hid (hB.out.trans (hu.mono hB.out.size))
          clear hu hB c0 c1
          go_wp2_with fail
          go_roundg (m - (k + 1))
          case measure => omega
          case rel => exact ⟨k + 1, by go_num, by omega, Nat.le_refl _, P', B'⟩
      · obtain rfl : k = m := by omega
        have hkz : ¬ (k : Int) < (k : Int) := by omega
        have hp := hP.out
        rw [List.take_of_length_le (by rw [← N.out]; exact Nat.le_refl _)] at hp
        obtain rfl : x = 0 := by rw [← HX.out]; unfold errW; rw [if_pos BW.out, if_neg (by rw [hp]; simp)]
        clear hp
        go_wp2_with fail
        go_ret
        exact ⟨rfl, hB.out⟩
end Go.Proofs.Ytjnhkfjhkhbneaa
