/- What spans.Has and spans.Same answer. -/
import Derived.Test.YtjnhkfjhkhbneaaSets6
namespace Go.Proofs.Ytjnhkfjhkhbneaa
open Go.RowKit SpanP

set_option maxHeartbeats 1000000 in
theorem hasC_any (x : Sp) (t : Int) (B : Nat) (W : World) (hc : W.cell? ⟨B, 0, none⟩ = some (.int .i64 t)) :
    Calls Try.prog 63 #[.agg #[.int .i64 x.1, .int .i64 x.2], .pointer (some ⟨B, 0, none⟩)] W fun e w' => e = .returned (.bool (hasB x.1 x.2 t)) ∧ Below W.heap.size W w' := by
  have hBW : B < W.heap.size := World.block_lt_of_cell? W ⟨B, 0, none⟩ hc
  have hne : B ≠ W.heap.size := by omega
  obtain ⟨b, hb⟩ : ∃ b, hasB x.1 x.2 t = b := ⟨_, rfl⟩
  have H := Lib.hid hb
  rw [hb]
  clear hb
  obtain ⟨f, u⟩ := x
  dsimp only at H ⊢
  go_enter Try.func63, Try.ntmps63
  go_wp2_with fail
  refine (has_as f u t b H.out _).mono ?_
  rintro e w1 ⟨rfl, hb1⟩
  have B1 := Lib.hid (((Below.refl _ W).alloc (Nat.le_refl _) _).trans (hb1.mono (by simp)))
  clear hb1
  go_wp2_with fail
  go_ret
  exact ⟨rfl, B1.out⟩

theorem predHas (t : Int) (B : Nat) (w : World) (hB : B < w.heap.size) (hc : w.cell? ⟨B, 0, none⟩ = some (.int .i64 t)) :
    PredBelow Try.prog 63 #[.pointer (some ⟨B, 0, none⟩)] (fun x : Sp => .agg (encS x).toArray) (fun x => hasB x.1 x.2 t) w := fun W x hb =>
  (hasC_any x t B W ((hb.cell (p := ⟨B, 0, none⟩) hB).trans hc)).mono fun _ _ ⟨he, h⟩ => ⟨he, hb.trans (h.mono hb.size)⟩

set_option maxHeartbeats 1000000 in
theorem indexF_nil (fv : Value) (w : World) : Calls Try.prog 77 #[.slice none 0 0, fv] w fun e w' => e = .returned (.int .i64 (-1)) ∧ Below w.heap.size w w' := by
  go_enter Try.func77, Try.ntmps77
  go_wp2
  go_loopg [5, 8] 0 (fun _ _ s8 wr => s8 = .int .i64 0 ∧ wr = w)
  case atStart => exact ⟨rfl, rfl⟩
  case round =>
    obtain ⟨rfl, rfl⟩ := hrel
    go_wp2
    go_ret
    exact ⟨rfl, Below.refl _ _⟩
set_option maxHeartbeats 1000000 in
theorem contains_nil (fv : Value) (w : World) : Calls Try.prog 62 #[.slice none 0 0, fv] w fun e w' => e = .returned (.bool false) ∧ Below w.heap.size w w' := by
  go_enter Try.func62, Try.ntmps62
  go_wp2_with (go_at_call 77; refine (indexF_nil _ _).mono ?_; rintro e w' ⟨rfl, hb⟩)
  go_ret
  exact ⟨rfl, hb⟩

theorem containsF_any (v : Value) (l : List Sp) (t : Int) (B : Nat) (w : World) (hr : Rd w v l) (hlen : l.length ≤ 4398046511104) (hB : B < w.heap.size) (hc : w.cell? ⟨B, 0, none⟩ = some (.int .i64 t)) :
    Calls Try.prog 62 #[v, .func (.func 63) #[] #[.pointer (some ⟨B, 0, none⟩)]] w fun e w' => e = .returned (.bool (hasL l t)) ∧ Below w.heap.size w w' := by
  rcases hr.parts with ⟨rfl, rfl⟩ | ⟨b, off, cap, rfl, hlt, h1, h2⟩
  · exact contains_nil _ w
  · have eg : ∀ args w, (callFunc 63 args).run Try.prog w = .ok (.enter 63 args) w := enters_of Try.func63 (by kernel_rfl) rfl
    have h := AnyQ.slices_ContainsFunc containsFSp 2 Try.isAgg23 Try.sizeOf23 encS (fun _ => rfl) (fun x => hasB x.1 x.2 t) 63 #[.pointer (some ⟨B, 0, none⟩)] eg b off l.length cap l w (predHas t B w hB hc) (Nat.le_refl _) (by omega) hlt (fun j hj i v hi => by
      rw [getElem!_pos l j hj] at hi
      exact encS_get l[j] w b (off + j * 2) (hr.cell0 j hj) (hr.cell1 j hj) i v hi)
    rw [List.take_length] at h
    exact h

set_option maxHeartbeats 1000000 in
/-- does a set have a time? -/
theorem hasl_any (v : Value) (l : List Sp) (t : Int) (b : Bool) (hb : hasL l t = b) (w : World) (hr : Rd w v l) (hlen : l.length ≤ 4398046511104) :
    Calls Try.prog 25 #[v, .int .i64 t] w fun e w' => e = .returned (.bool b) ∧ Below w.heap.size w w' := by
  have R := Lib.hid hr
  have H := Lib.hid hb
  clear hr hb
  go_enter Try.func25, Try.ntmps25
  go_wp2_with fail
  have hb0 := (Below.refl _ w).alloc (Nat.le_refl _) (.cells #[.int .i64 t] 2)
  have K := containsF_any v l t w.heap.size _ (R.out.below hb0) hlen (by simp) (by simp)
  rw [H.out] at K
  refine K.mono ?_
  rintro e w1 ⟨rfl, hb1⟩
  have B1 := Lib.hid (hb0.trans (hb1.mono (by simp)))
  clear hb1 hb0 K
  go_wp2_with fail
  go_ret
  exact ⟨rfl, B1.out⟩
end Go.Proofs.Ytjnhkfjhkhbneaa
