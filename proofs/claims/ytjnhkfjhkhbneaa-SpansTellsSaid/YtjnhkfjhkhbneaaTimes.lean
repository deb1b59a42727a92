/- Contracts of times and widths whose answers bear names; lists of times, one span more. -/
import Derived.Test.YtjnhkfjhkhbneaaGreat
namespace Go.Proofs.Ytjnhkfjhkhbneaa
open Go.RowKit SpanP

theorem time_is (t : Int) (b : Bool) (h : timeB t = b) (w : World) : Calls Try.prog 28 #[.int .i64 t] w fun e w' => e = .returned (.bool b) ∧ w = w' := h ▸ time_any t w
theorem width_is (t : Int) (b : Bool) (h : widthB t = b) (w : World) : Calls Try.prog 29 #[.int .i64 t] w fun e w' => e = .returned (.bool b) ∧ w = w' := h ▸ width_any t w
theorem bucket_is (t n F T : Int) (h : wrongN n [t] = 0) (hF : fl t n = F) (hT : fl t n + n = T) (w : World) :
    Calls Try.prog 30 #[.int .i64 t, .int .i64 n] w fun e w' => e = .returned (.tuple #[.agg #[.int .i64 F, .int .i64 T], .int .i64 0]) ∧ Below w.heap.size w w' := by
  rw [← hT, ← hF]; exact bucket_ok t n w h
theorem floor_is (t n F : Int) (h : wrongN n [t] = 0) (hF : fl t n = F) (w : World) :
    Calls Try.prog 35 #[.int .i64 t, .int .i64 n] w fun e w' => e = .returned (.tuple #[.int .i64 F, .int .i64 0]) ∧ Below w.heap.size w w' := by
  rw [← hF]; exact floor_ok t n w h
theorem ceil_is (t n F : Int) (h : wrongN n [t] = 0) (hF : ce t n = F) (w : World) :
    Calls Try.prog 36 #[.int .i64 t, .int .i64 n] w fun e w' => e = .returned (.tuple #[.int .i64 F, .int .i64 0]) ∧ Below w.heap.size w w' := by
  rw [← hF]; exact ceil_ok t n w h
theorem time_w {t n : Int} (h : timeB t = true) (hw : widthB n = true) : wrongN n [t] = 0 := by
  rw [timeB_iff] at h; rw [widthB_iff] at hw
  exact wrongN_of hw.1 hw.2 fun x hx => by simp at hx; omega
theorem times_step {l : List Sp} {k : Nat} (hk : k < l.length) (h : timesL (l.take k)) (h0 : timeB l[k].1 = true) (h1 : timeB l[k].2 = true) : timesL (l.take (k + 1)) := by
  intro s hs
  rw [List.take_succ_eq_append_getElem hk] at hs
  rcases List.mem_append.1 hs with hs | hs
  · exact h s hs
  · rw [List.mem_singleton.1 hs]; exact ⟨h0, h1⟩
end Go.Proofs.Ytjnhkfjhkhbneaa
