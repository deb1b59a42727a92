/- The walk of CrcRows: it returns true and changes nothing that was there. Condition: the slice reads as bytes. -/
import Derived.Test.YtelecohcidgjpaaUp
namespace Go.Proofs.Ytelecohcidgjpaa
open Go.RowKit Go.BigFrame

theorem rb_take {w : World} {a : Option Addr} {n c : Nat} {l : List UInt8} (h : RB w (.slice a n c) l) (k : Nat) (hk : k ≤ l.length) : RB w (.slice a k c) (l.take k) := by
  rcases h with ⟨h1, rfl⟩ | ⟨ad, cap, h1, hc⟩
  · cases h1
    have : k = 0 := by simpa using hk
    subst this
    exact .inl ⟨rfl, rfl⟩
  · cases h1
    refine .inr ⟨ad, _, by rw [List.length_take, Nat.min_eq_left hk], fun i hi => ?_⟩
    have hi' : i < l.length := by rw [List.length_take] at hi; omega
    rw [hc i hi']
    simp

theorem ref_named (s : Int) (l : List UInt8) (hs : s = ((CrcP.sum l).toNat : Int)) (w : World) (v : Value) (hl : l.length ≤ 140737488351232) (h : RB w v l) :
    Calls Try.prog 10 #[v] w fun e w' => e = .returned (.int .u32 s) ∧ Below w.heap.size w w' :=
  (ref_rb w v l hl h).mono fun e w' ⟨he, hw⟩ => ⟨by rw [hs]; exact he, by rw [hw]; exact Below.refl _ _⟩

set_option maxHeartbeats 400000 in
theorem rows_walk (a0 : Option Addr) (n0 c0 : Nat) (l0 : List UInt8) (e0 : l0.length = n0) (w : World)
    (h0 : RB w (.slice a0 n0 c0) l0) (b0 : n0 ≤ 140737488351232) (hle : n0 ≤ c0) :
    Calls Try.prog 3 #[.slice a0 n0 c0] w fun e w' => e = .returned (.bool true) ∧ Below w.heap.size w w' := by
  have H0 := Lib.hid h0
  have E0 := Lib.hid e0
  clear h0 e0
  by_cases t : n0 ≤ 300
  · have htx := text_rb w (.slice a0 n0 c0) l0 H0.out
    obtain ⟨txt, htt⟩ : ∃ s : ByteArray, s = ⟨l0.toArray⟩ := ⟨_, rfl⟩
    rw [← htt] at htx
    have HTT := Lib.hid htt
    clear htt
    go_enter Try.func3, Try.ntmps3
    go_wp2
    clear htx
    go_loopw [4] (fun i wr => ∃ k : Nat, k ≤ 400 ∧ i = .int .i64 k ∧ Below w.heap.size w wr) (fun i _ => 400 - (intOf i).toNat)
    case atStart => exact ⟨0, by omega, rfl, Below.refl _ _⟩
    case round =>
      obtain ⟨k, hk, rfl, hb⟩ := hrel
      by_cases hlt : k ≤ n0
      · obtain ⟨s, hs⟩ : ∃ s : Int, s = ((CrcP.sum (l0.take k)).toNat : Int) := ⟨_, rfl⟩
        have HS := Lib.hid hs
        clear hs
        have htx : ∀ u : Up wr.heap.size wr, Sem.run Try.prog (convert 22 9 (.slice a0 n0 c0)) u.w = .ok (.string txt) u.w := fun u => by
          rw [HTT.out]; exact text_rb _ _ _ ((H0.out.up hb).up u.below)
        have hkc : (k : Int) ≤ (c0 : Int) := by omega
        have hkl : (l0.take k).length ≤ 140737488351232 := by rw [List.length_take]; omega
        have HR : ∀ u : Up wr.heap.size wr, RB u.w (.slice a0 k c0) (l0.take k) := fun u => rb_take ((H0.out.up hb).up u.below) k (by rw [E0.out]; exact hlt)
        have HRH := Lib.hid HR
        clear HR
        go_wp2
        refine wp_region_up wr.heap.size wr (by kernel_rfl) (by kernel_rfl) (Below.refl _ _) ?_
        repeat (go_big_quiet_step (first | (go_at_call 9; exact Calls.up _ (Up.below _).size (sum_named s _ HS.out _ _ hkl (HRH.out _))) | (go_at_call 10; exact Calls.up _ (Up.below _).size (ref_named s _ HS.out _ _ hkl (HRH.out _)))))
        refine wpQuiet_nil ?_
        rintro wu ⟨⟨_, hu⟩, rfl⟩
        have hbu : Below w.heap.size w wu := hb.trans (hu.mono hb.size)
        clear htx HRH
        go_wp2
        go_roundw
        case rel => exact ⟨k + 1 + k / 8, by omega, by go_num, hbu⟩
        case measure => simp [intOf]; omega
      · obtain ⟨s, hs⟩ : ∃ s : Int, s = ((CrcP.sum l0).toNat : Int) := ⟨_, rfl⟩
        have HS := Lib.hid hs
        clear hs
        have hkl : l0.length ≤ 140737488351232 := by rw [E0.out]; exact b0
        go_wp2_with fail
        refine (sum_named s l0 HS.out _ _ hkl (H0.out.up hb)).mono ?_
        rintro e w5 ⟨rfl, hc5⟩
        have hb5 : Below w.heap.size w w5 := hb.trans (hc5.mono hb.size)
        go_wp2_with fail
        refine (ref_named s l0 HS.out _ _ hkl (H0.out.up hb5)).mono ?_
        rintro e w6 ⟨rfl, hc6⟩
        have hb6 : Below w.heap.size w w6 := hb5.trans (hc6.mono hb5.size)
        go_wp2_with fail
        refine (told_any _).mono ?_
        rintro e w7 ⟨rfl, hc7⟩
        have hb7 : Below w.heap.size w w7 := hb6.trans (hc7.mono hb6.size)
        go_wp2_with fail
        go_ret
        exact ⟨rfl, hb7⟩
  · go_enter Try.func3, Try.ntmps3
    go_wp2_with fail
    refine (told_any _).mono ?_
    rintro e w1 ⟨rfl, hb⟩
    go_wp2_with fail
    go_ret
    exact ⟨rfl, hb⟩

end Go.Proofs.Ytelecohcidgjpaa
