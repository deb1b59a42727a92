/- What spans.Out and spans.In answer. -/
import Derived.Test.YtjnhkfjhkhbneaaSets10
namespace Go.Proofs.Ytjnhkfjhkhbneaa
open Go.RowKit SpanP

set_option maxHeartbeats 1000000 in
theorem whole_w (fv : Value) (n : Int) (v : Value) (w : World) (hw : widthB n = false) :
    Calls Try.prog 69 #[v, .int .i64 n, fv] w fun e w' => e = .returned (.tuple #[.slice none 0 0, .int .i64 1]) ∧ Below w.heap.size w w' := by
  have wd := width_any n
  rw [hw] at wd
  clear hw
  go_enter Try.func69, Try.ntmps69
  go_wp2_with (go_at_call 29; refine (wd _).mono ?_; rintro e w' ⟨rfl, rfl⟩)
  refine bodyPost_ret (v := .tuple #[.slice none 0 0, .int .i64 1]) (by simp [results, Try.results69, go_sem]) rfl ?_
  exact ⟨rfl, Below.refl _ _⟩

theorem whole_O (v : Value) (l : List Sp) (n : Int) (w : World) (hw : widthB n = true) (hr : Rd w v l) (hlen : l.length ≤ 4398046511104) :
    Calls Try.prog 69 #[v, .int .i64 n, .func (.func 31) #[] #[]] w fun e w' =>
      (badL l = false ∧ ∃ v', e = .returned (.tuple #[v', .int .i64 0]) ∧ Ow w' w.heap.size v' (ofL (turnL (outS n) l)) ∧ Below w.heap.size w w') ∨
      (badL l = true ∧ e = .returned (.tuple #[.slice none 0 0, .int .i64 7]) ∧ Below w.heap.size w w') :=
  whole_any 31 (outS n) n (enters_of Try.func31 (by kernel_rfl) rfl) (fun f t w h => out_ok f t n w h) (fun f t w h => out_bad f t n 7 w h rfl) v l w hw hr hlen
theorem whole_I (v : Value) (l : List Sp) (n : Int) (w : World) (hw : widthB n = true) (hr : Rd w v l) (hlen : l.length ≤ 4398046511104) :
    Calls Try.prog 69 #[v, .int .i64 n, .func (.func 32) #[] #[]] w fun e w' =>
      (badL l = false ∧ ∃ v', e = .returned (.tuple #[v', .int .i64 0]) ∧ Ow w' w.heap.size v' (ofL (turnL (inS n) l)) ∧ Below w.heap.size w w') ∨
      (badL l = true ∧ e = .returned (.tuple #[.slice none 0 0, .int .i64 7]) ∧ Below w.heap.size w w') :=
  whole_any 32 (inS n) n (enters_of Try.func32 (by kernel_rfl) rfl) (fun f t w h => in_ok f t n w h) (fun f t w h => in_bad f t n 7 w h rfl) v l w hw hr hlen

theorem errW_ok {l : List Sp} {n : Int} (h : errW l n = 0) : widthB n = true ∧ badL l = false := by
  unfold errW at h
  by_cases hw : widthB n = true
  · rw [if_pos hw] at h
    by_cases hb : badL l = true
    · rw [if_pos hb] at h; omega
    · exact ⟨hw, by simpa using hb⟩
  · rw [if_neg hw] at h; omega
theorem errW_bad {l : List Sp} {n x : Int} (h : errW l n = x) (hx : (x != 0) = true) : (widthB n = false ∧ x = 1) ∨ (widthB n = true ∧ badL l = true ∧ x = 7) := by
  unfold errW at h
  by_cases hw : widthB n = true
  · rw [if_pos hw] at h
    by_cases hb : badL l = true
    · rw [if_pos hb] at h; exact .inr ⟨hw, hb, h.symm⟩
    · rw [if_neg hb] at h; subst h; simp at hx
  · rw [if_neg hw] at h; exact .inl ⟨by simpa using hw, h.symm⟩

set_option maxHeartbeats 1000000 in
theorem outs_ok (v : Value) (l : List Sp) (n : Int) (w : World) (he : errW l n = 0) (hr : Rd w v l) (hlen : l.length ≤ 4398046511104) :
    Calls Try.prog 33 #[v, .int .i64 n] w fun e w' => ∃ v', e = .returned (.tuple #[v', .int .i64 0]) ∧ Ow w' w.heap.size v' (wOutL l n) ∧ Below w.heap.size w w' := by
  obtain ⟨hw, hb⟩ := errW_ok he
  have K := whole_O v l n w hw hr hlen
  have B := Lib.hid hb
  clear hw hb he hr
  go_enter Try.func33, Try.ntmps33
  go_wp2_with fail
  refine K.mono ?_
  rintro e w1 (⟨_, v1, rfl, o1, b1⟩ | ⟨h, _⟩)
  · have O1 := Lib.hid o1
    have B1 := Lib.hid b1
    clear o1 b1 K
    go_wp2_with fail
    refine bodyPost_ret (v := .tuple #[v1, .int .i64 0]) (by simp [results, Try.results33, go_sem]) rfl ?_
    exact ⟨_, rfl, O1.out, B1.out⟩
  · rw [B.out] at h; cases h

set_option maxHeartbeats 1000000 in
theorem outs_bad (v : Value) (l : List Sp) (n x : Int) (w : World) (he : errW l n = x) (hx : (x != 0) = true) (hr : Rd w v l) (hlen : l.length ≤ 4398046511104) :
    Calls Try.prog 33 #[v, .int .i64 n] w fun e w' => e = .returned (.tuple #[.slice none 0 0, .int .i64 x]) ∧ Below w.heap.size w w' := by
  have K : Calls Try.prog 69 #[v, .int .i64 n, .func (.func 31) #[] #[]] w fun e w' => e = .returned (.tuple #[.slice none 0 0, .int .i64 x]) ∧ Below w.heap.size w w' := by
    rcases errW_bad he hx with ⟨hw, rfl⟩ | ⟨hw, hb, rfl⟩
    · exact whole_w _ n v w hw
    · refine (whole_O v l n w hw hr hlen).mono ?_
      rintro e w1 (⟨h, _⟩ | ⟨_, h⟩)
      · rw [hb] at h; cases h
      · exact h
  clear he hr hx
  go_enter Try.func33, Try.ntmps33
  go_wp2_with fail
  refine K.mono ?_
  rintro e w1 ⟨rfl, b1⟩
  have B1 := Lib.hid b1
  clear b1 K
  go_wp2_with fail
  refine bodyPost_ret (v := .tuple #[.slice none 0 0, .int .i64 x]) (by simp [results, Try.results33, go_sem]) rfl ?_
  exact ⟨rfl, B1.out⟩

set_option maxHeartbeats 1000000 in
theorem ins_ok (v : Value) (l : List Sp) (n : Int) (w : World) (he : errW l n = 0) (hr : Rd w v l) (hlen : l.length ≤ 4398046511104) :
    Calls Try.prog 34 #[v, .int .i64 n] w fun e w' => ∃ v', e = .returned (.tuple #[v', .int .i64 0]) ∧ Ow w' w.heap.size v' (wInL l n) ∧ Below w.heap.size w w' := by
  have E := Lib.hid he
  have R := Lib.hid hr
  clear he hr
  go_enter Try.func34, Try.ntmps34
  go_wp2_with fail
  refine (outs_ok v l n w E.out R.out hlen).mono ?_
  rintro e w1 ⟨v1, rfl, _, b1⟩
  have B1 := Lib.hid b1
  clear b1
  go_wp2_with fail
  refine (of_any v l w1 (R.out.below B1.out) hlen).mono ?_
  rintro e w2 ⟨v2, rfl, o2, b2⟩
  have O2 := Lib.hid o2
  have B2 := Lib.hid (B1.out.trans (b2.mono B1.out.size))
  clear o2 b2
  go_wp2_with fail
  refine (whole_I v2 (ofL l) n w2 (errW_ok E.out).1 O2.out.rd (Nat.le_trans (ofL_length l) hlen)).mono ?_
  rintro e w3 (⟨_, v3, rfl, o3, b3⟩ | ⟨h, _⟩)
  · have O3 := Lib.hid (o3.mono B2.out.size)
    have B3 := Lib.hid (B2.out.trans (b3.mono B2.out.size))
    clear o3 b3
    go_wp2_with fail
    refine bodyPost_ret (v := .tuple #[v3, .int .i64 0]) (by simp [results, Try.results34, go_sem]) rfl ?_
    exact ⟨_, rfl, O3.out, B3.out⟩
  · rw [badL_ofL (errW_ok E.out).2] at h; cases h

set_option maxHeartbeats 1000000 in
theorem ins_bad (v : Value) (l : List Sp) (n x : Int) (w : World) (he : errW l n = x) (hx : (x != 0) = true) (hr : Rd w v l) (hlen : l.length ≤ 4398046511104) :
    Calls Try.prog 34 #[v, .int .i64 n] w fun e w' => e = .returned (.tuple #[.slice none 0 0, .int .i64 x]) ∧ Below w.heap.size w w' := by
  have K := outs_bad v l n x w he hx hr hlen
  clear he hr
  go_enter Try.func34, Try.ntmps34
  go_wp2_with fail
  refine K.mono ?_
  rintro e w1 ⟨rfl, b1⟩
  have B1 := Lib.hid b1
  clear b1 K
  go_wp2_with fail
  refine bodyPost_ret (v := .tuple #[.slice none 0 0, .int .i64 x]) (by simp [results, Try.results34, go_sem]) rfl ?_
  exact ⟨rfl, B1.out⟩
end Go.Proofs.Ytjnhkfjhkhbneaa
