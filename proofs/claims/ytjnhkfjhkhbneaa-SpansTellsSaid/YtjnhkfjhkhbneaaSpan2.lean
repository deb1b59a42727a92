/- What the functions of package span answer: wrong, Floor, Ceil, Bucket. -/
import Derived.Test.YtjnhkfjhkhbneaaSpan1
import Derived.LoopTactic
namespace Go.Proofs.Ytjnhkfjhkhbneaa
open Go.RowKit SpanP

/-- the cells of a row of numbers -/
def IntsAt (w : World) (g : Nat) (l : List Int) : Prop := ∀ i, i < l.length → w.cell? ⟨g, i, none⟩ = some (.int .i64 (l.getD i 0))

set_option maxHeartbeats 400000 in
theorem wrong_any (n : Int) (l : List Int) (g cap : Nat) (w : World) (hl : l.length ≤ 100) (hc : IntsAt w g l) :
    Calls Try.prog 70 #[.int .i64 n, .slice (some ⟨g, 0, none⟩) l.length cap] w fun e w' => e = .returned (.int .i64 (wrongN n l)) ∧ w = w' := by
  have HC := Lib.hid hc
  clear hc
  by_cases hw : widthB n = true
  · go_enter Try.func70, Try.ntmps70
    go_wp2_with (go_at_call 29; refine (width_any _ _).mono ?_; rintro e w' ⟨rfl, rfl⟩)
    go_loop [12] (fun i => ∃ k : Nat, k ≤ l.length ∧ i = .int .i64 k ∧ Hid ((l.take k).all boundB = true)) (fun i => l.length - (intOf i).toNat)
    case atStart => exact ⟨0, by omega, rfl, Lib.hid rfl⟩
    case round =>
      obtain ⟨k, hk, rfl, ha⟩ := hrel
      by_cases hlt : k < l.length
      · have hcell := HC.out k hlt
        obtain ⟨t, ht⟩ : ∃ t, t = l.getD k 0 := ⟨_, rfl⟩
        rw [← ht] at hcell
        have HT := Lib.hid ht
        clear ht
        by_cases h1 : t < -4611687117939015680
        · have hb : Hid (boundB (l.getD k 0) = false) := Lib.hid (by rw [← HT.out, boundB, decide_eq_false (by omega)]; rfl)
          go_wp2
          go_ret
          exact ⟨by rw [wrongN_7 hw (all_false hlt hb.out)]; rfl, rfl⟩
        · by_cases h2 : 4611687117939015679 < t
          · have hb : Hid (boundB (l.getD k 0) = false) := Lib.hid (by rw [← HT.out, boundB, decide_eq_false (p := t ≤ _) (by omega)]; simp)
            go_wp2
            go_ret
            exact ⟨by rw [wrongN_7 hw (all_false hlt hb.out)]; rfl, rfl⟩
          · have hb : Hid (boundB (l.getD k 0) = true) := Lib.hid (by rw [← HT.out, boundB_iff]; omega)
            go_wp2
            go_round
            case rel => exact ⟨k + 1, by omega, by go_num, Lib.hid (all_take_succ hlt ha.out hb.out)⟩
            case measure => simp [intOf]; omega
      · obtain rfl : k = l.length := by omega
        go_wp2
        go_ret
        exact ⟨by rw [wrongN_0 hw (by have := ha.out; rwa [List.take_length] at this)]; rfl, rfl⟩
  · have hw' : widthB n = false := by simpa using hw
    clear hw
    go_enter Try.func70, Try.ntmps70
    go_wp2_with (go_at_call 29; refine (width_any _ _).mono ?_; rintro e w' ⟨rfl, rfl⟩)
    go_ret
    exact ⟨by rw [wrongN_1 hw']; rfl, rfl⟩

end Go.Proofs.Ytjnhkfjhkhbneaa
