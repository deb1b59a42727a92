/- What the functions of the document's answer for layer 9 answer. Conditions stand in each contract. -/
import Derived.Test.YtjnhkfjhkhbneaaTiles
import Derived.StillTailTactics
namespace Go.Proofs.Ytjnhkfjhkhbneaa
open Go.RowKit SpanP

set_option maxHeartbeats 400000 in
theorem rtime_any (t : Int) (w : World) : Calls Try.prog 42 #[.int .i64 t] w fun e w' => e = .returned (.bool (timeB t)) ∧ w = w' := by
  by_cases h : -4611686018427387904 ≤ t
  · go_enter Try.func42, Try.ntmps42
    go_wp2
    go_ret
    exact ⟨by simp [timeB, h], rfl⟩
  · go_enter Try.func42, Try.ntmps42
    go_wp2
    go_ret
    exact ⟨by rw [timeB, decide_eq_false (by omega)]; rfl, rfl⟩
set_option maxHeartbeats 400000 in
theorem rwidth_any (t : Int) (w : World) : Calls Try.prog 43 #[.int .i64 t] w fun e w' => e = .returned (.bool (widthB t)) ∧ w = w' := by
  by_cases h : 1 ≤ t
  · go_enter Try.func43, Try.ntmps43
    go_wp2
    go_ret
    exact ⟨by simp [widthB, h], rfl⟩
  · go_enter Try.func43, Try.ntmps43
    go_wp2
    go_ret
    exact ⟨by rw [widthB, decide_eq_false (by omega)]; rfl, rfl⟩
set_option maxHeartbeats 400000 in
theorem rbound_any (t : Int) (w : World) : Calls Try.prog 71 #[.int .i64 t] w fun e w' => e = .returned (.bool (boundB t)) ∧ w = w' := by
  by_cases h : -4611687117939015680 ≤ t
  · go_enter Try.func71, Try.ntmps71
    go_wp2
    go_ret
    exact ⟨by simp [boundB, h], rfl⟩
  · go_enter Try.func71, Try.ntmps71
    go_wp2
    go_ret
    exact ⟨by rw [boundB, decide_eq_false (by omega)]; rfl, rfl⟩

set_option maxHeartbeats 400000 in
theorem rwrong_any (n : Int) (l : List Int) (g cap : Nat) (w : World) (hl : l.length ≤ 100) (hc : IntsAt w g l) :
    Calls Try.prog 37 #[.int .i64 n, .slice (some ⟨g, 0, none⟩) l.length cap] w fun e w' => e = .returned (.int .i64 (wrongN n l)) ∧ w = w' := by
  have HC := Lib.hid hc
  clear hc
  by_cases hw : widthB n = true
  · go_enter Try.func37, Try.ntmps37
    go_wp2_with (go_at_call 43; refine (rwidth_any _ _).mono ?_; rintro e w' ⟨rfl, rfl⟩)
    go_loop [5] (fun i => ∃ k : Nat, k ≤ l.length ∧ i = .int .i64 k ∧ Hid ((l.take k).all boundB = true)) (fun i => l.length - (intOf i).toNat)
    case atStart => exact ⟨0, by omega, rfl, Lib.hid rfl⟩
    case round =>
      obtain ⟨k, hk, rfl, ha⟩ := hrel
      by_cases hlt : k < l.length
      · have hcell := HC.out k hlt
        obtain ⟨t, ht⟩ : ∃ t, t = l.getD k 0 := ⟨_, rfl⟩
        rw [← ht] at hcell
        have HT := Lib.hid ht
        clear ht
        cases hbt : boundB t
        · have hb : Hid (boundB (l.getD k 0) = false) := Lib.hid (by rw [← HT.out]; exact hbt)
          go_wp2_with (go_at_call 71; refine (rbound_any _ _).mono ?_; rintro e w' ⟨rfl, rfl⟩)
          go_ret
          exact ⟨by rw [wrongN_7 hw (all_false hlt hb.out)]; rfl, rfl⟩
        · have hb : Hid (boundB (l.getD k 0) = true) := Lib.hid (by rw [← HT.out]; exact hbt)
          go_wp2_with (go_at_call 71; refine (rbound_any _ _).mono ?_; rintro e w' ⟨rfl, rfl⟩)
          go_round
          case rel => exact ⟨k + 1, by omega, by go_num, Lib.hid (all_take_succ hlt ha.out hb.out)⟩
          case measure => simp [intOf]; omega
      · obtain rfl : k = l.length := by omega
        go_wp2
        go_ret
        exact ⟨by rw [wrongN_0 hw (by have := ha.out; rwa [List.take_length] at this)]; rfl, rfl⟩
  · have hw' : widthB n = false := by simpa using hw
    clear hw
    go_enter Try.func37, Try.ntmps37
    go_wp2_with (go_at_call 43; refine (rwidth_any _ _).mono ?_; rintro e w' ⟨rfl, rfl⟩)
    go_ret
    exact ⟨by rw [wrongN_1 hw']; rfl, rfl⟩

theorem tmod_lo (t n : Int) (hn : 1 ≤ n) (h : t.tmod n < 0) : t.tmod n + n = t % n := by
  rw [Int.tmod_eq_emod] at h ⊢
  have := Int.emod_nonneg t (show n ≠ 0 by omega)
  split at h <;> split <;> omega
theorem tmod_hi (t n : Int) (hn : 1 ≤ n) (h : ¬ t.tmod n < 0) : t.tmod n = t % n := by
  rw [Int.tmod_eq_emod] at h ⊢
  have := Int.emod_lt_of_pos t (show 0 < n by omega)
  split at h <;> split <;> omega

set_option maxHeartbeats 400000 in
theorem rfloor_any (t n : Int) (w : World) (h0 : 1 ≤ n) (h1 : n ≤ 1099511627776) (h2 : -4611687117939015680 ≤ t) (h3 : t ≤ 4611687117939015680) :
    Calls Try.prog 38 #[.int .i64 t, .int .i64 n] w fun e w' => e = .returned (.int .i64 (fl t n)) ∧ w' = w := by
  have b0 := Int.emod_nonneg t (show n ≠ 0 by omega)
  have b1 := Int.emod_lt_of_pos t (show 0 < n by omega)
  have hz : ¬ n = 0 := by omega
  have hf : fl t n = t - t % n := rfl
  rw [hf]
  clear hf
  obtain ⟨m, hm⟩ : ∃ m, t % n = m := ⟨_, rfl⟩
  rw [hm] at b0 b1 ⊢
  by_cases hlo : t.tmod n < 0
  · have hr : t.tmod n + n = m := by rw [tmod_lo t n h0 hlo]; exact hm
    obtain ⟨q, hq⟩ : ∃ q, t.tmod n = q := ⟨_, rfl⟩
    rw [hq] at hlo hr
    obtain rfl : q = m - n := by omega
    clear hr hm
    have hmm : IntKind.i64.wrap (m - n + n) = m := by rw [show m - n + n = m by omega]; exact IntWalk.i64_in _ (by omega)
    go_enter Try.func38, Try.ntmps38
    go_wp2
    go_ret
    exact ⟨by simp, rfl⟩
  · have hq : t.tmod n = m := by rw [tmod_hi t n h0 hlo]; exact hm
    have hn : ¬ m < 0 := by omega
    clear hlo hm
    go_enter Try.func38, Try.ntmps38
    go_wp2
    go_ret
    exact ⟨rfl, rfl⟩

set_option maxHeartbeats 400000 in
theorem rceil_any (t n : Int) (w : World) (h0 : 1 ≤ n) (h1 : n ≤ 1099511627776) (h2 : -4611687117939015680 ≤ t) (h3 : t ≤ 4611687117939015680) :
    Calls Try.prog 39 #[.int .i64 t, .int .i64 n] w fun e w' => e = .returned (.int .i64 (ce t n)) ∧ w' = w := by
  have L := ce_fl t n h0
  have q1 := fl_le t n h0
  have q2 := lt_fl t n h0
  have C := Lib.hid (fun w => rfloor_any t n w h0 h1 h2 h3)
  obtain ⟨f, hf⟩ : ∃ f, fl t n = f := ⟨_, rfl⟩
  rw [hf] at L q1 q2 C
  clear hf
  by_cases h : f < t
  · have hL : Hid (ce t n = f + n) := Lib.hid (by rw [L, if_neg (by omega)])
    clear L
    go_enter Try.func39, Try.ntmps39
    go_wp2_with ((with_reducible refine (C.out _).mono ?_); rintro e w' ⟨rfl, rfl⟩)
    go_ret
    exact ⟨by rw [hL.out]; rfl, rfl⟩
  · have hL : Hid (ce t n = f) := Lib.hid (by rw [L, if_pos (by omega)]; omega)
    clear L
    go_enter Try.func39, Try.ntmps39
    go_wp2_with ((with_reducible refine (C.out _).mono ?_); rintro e w' ⟨rfl, rfl⟩)
    go_ret
    exact ⟨by rw [hL.out]; rfl, rfl⟩

set_option maxHeartbeats 400000 in
theorem rgood_any (f t F T : Int) (hF : goodF f t = F) (hT : goodT f t = T) (w : World) : Calls Try.prog 72 #[.int .i64 f, .int .i64 t] w fun e w' => e = .returned (.agg #[.int .i64 F, .int .i64 T]) ∧ w' = w.alloc (.cells #[.int .i64 F, .int .i64 T] 23) := by
  by_cases h : t ≤ f
  · have e1 : F = 0 := by rw [← hF, goodF, if_pos h]
    have e2 : T = 0 := by rw [← hT, goodT, if_pos h]
    subst e1 e2
    clear hF hT
    go_enter Try.func72, Try.ntmps72
    go_wp2
    exact bodyPost_ret (v := .agg #[.int .i64 0, .int .i64 0]) (by simp [results, Try.results72, go_sem]) rfl ⟨rfl, rfl⟩
  · have e1 : f = F := by rw [← hF, goodF, if_neg h]
    have e2 : t = T := by rw [← hT, goodT, if_neg h]
    subst e1 e2
    clear hF hT
    go_enter Try.func72, Try.ntmps72
    go_wp2
    exact bodyPost_ret (v := .agg #[.int .i64 f, .int .i64 t]) (by simp [results, Try.results72, go_sem]) rfl ⟨rfl, rfl⟩

theorem and_good (f1 t1 f2 t2 : Int) : andF f1 t1 f2 t2 = goodF (max f1 f2) (min t1 t2) ∧ andT f1 t1 f2 t2 = goodT (max f1 f2) (min t1 t2) := ⟨rfl, rfl⟩

set_option maxHeartbeats 800000 in
theorem rand_any (f1 t1 f2 t2 F T : Int) (hF : andF f1 t1 f2 t2 = F) (hT : andT f1 t1 f2 t2 = T) (w : World) : Calls Try.prog 44 #[.agg #[.int .i64 f1, .int .i64 t1], .agg #[.int .i64 f2, .int .i64 t2]] w fun e w' => e = .returned (.agg #[.int .i64 F, .int .i64 T]) ∧ Below w.heap.size w w' := by
  rw [(and_good f1 t1 f2 t2).1] at hF
  rw [(and_good f1 t1 f2 t2).2] at hT
  by_cases hf : f1 < f2 <;> by_cases ht : t2 < t1
  · have e1 : max f1 f2 = f2 := by omega
    have e2 : min t1 t2 = t2 := by omega
    rw [e1, e2] at hF hT
    have G := Lib.hid (rgood_any f2 t2 F T hF hT)
    clear hF hT e1 e2
    go_enter Try.func44, Try.ntmps44
    go_wp2_with fail
    refine (G.out _).mono ?_
    rintro e w1 ⟨rfl, rfl⟩
    go_wp2_with fail
    exact bodyPost_ret (v := .agg #[.int .i64 F, .int .i64 T]) (by simp [results, Try.results44, go_sem]) rfl ⟨rfl, (((Below.refl _ _).alloc (Nat.le_refl _) _).alloc (by simp) _).alloc (by simp; omega) _ |>.alloc (by simp; omega) _⟩
  · have e1 : max f1 f2 = f2 := by omega
    have e2 : min t1 t2 = t1 := by omega
    rw [e1, e2] at hF hT
    have G := Lib.hid (rgood_any f2 t1 F T hF hT)
    clear hF hT e1 e2
    go_enter Try.func44, Try.ntmps44
    go_wp2_with fail
    refine (G.out _).mono ?_
    rintro e w1 ⟨rfl, rfl⟩
    go_wp2_with fail
    exact bodyPost_ret (v := .agg #[.int .i64 F, .int .i64 T]) (by simp [results, Try.results44, go_sem]) rfl ⟨rfl, (((Below.refl _ _).alloc (Nat.le_refl _) _).alloc (by simp) _).alloc (by simp; omega) _ |>.alloc (by simp; omega) _⟩
  · have e1 : max f1 f2 = f1 := by omega
    have e2 : min t1 t2 = t2 := by omega
    rw [e1, e2] at hF hT
    have G := Lib.hid (rgood_any f1 t2 F T hF hT)
    clear hF hT e1 e2
    go_enter Try.func44, Try.ntmps44
    go_wp2_with fail
    refine (G.out _).mono ?_
    rintro e w1 ⟨rfl, rfl⟩
    go_wp2_with fail
    exact bodyPost_ret (v := .agg #[.int .i64 F, .int .i64 T]) (by simp [results, Try.results44, go_sem]) rfl ⟨rfl, (((Below.refl _ _).alloc (Nat.le_refl _) _).alloc (by simp) _).alloc (by simp; omega) _ |>.alloc (by simp; omega) _⟩
  · have e1 : max f1 f2 = f1 := by omega
    have e2 : min t1 t2 = t1 := by omega
    rw [e1, e2] at hF hT
    have G := Lib.hid (rgood_any f1 t1 F T hF hT)
    clear hF hT e1 e2
    go_enter Try.func44, Try.ntmps44
    go_wp2_with fail
    refine (G.out _).mono ?_
    rintro e w1 ⟨rfl, rfl⟩
    go_wp2_with fail
    exact bodyPost_ret (v := .agg #[.int .i64 F, .int .i64 T]) (by simp [results, Try.results44, go_sem]) rfl ⟨rfl, (((Below.refl _ _).alloc (Nat.le_refl _) _).alloc (by simp) _).alloc (by simp; omega) _ |>.alloc (by simp; omega) _⟩

end Go.Proofs.Ytjnhkfjhkhbneaa
