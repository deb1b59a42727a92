/- The law's helper great, at one, two and three lists. -/
import Derived.Test.YtjnhkfjhkhbneaaSets16
namespace Go.Proofs.Ytjnhkfjhkhbneaa
open Go.RowKit SpanP

/-- 'more than 40 spans?' of 1 lists -/
theorem great1 (va : Value) (a : List Sp) (r : Bool) (hr : greatB [a.length] = r) (w : World) (hra : Rd w va a) :
    Calls Try.prog 17 #[.slice (some ⟨w.heap.size, 0, none⟩) 1 1] (w.alloc (.cells #[va] 29)) fun e w' => e = .returned (.bool r) ∧ Below (w.alloc (.cells #[va] 29)).heap.size (w.alloc (.cells #[va] 29)) w' := by
  obtain ⟨aa, ca, rfl, ha1, ha2, _⟩ := hra.shape
  unfold maxLen at ha2
  refine great_any w.heap.size [a.length] r hr _ (by simp) (fun n hn => ?_) (fun i hi => ?_)
  · simp at hn; omega
  · rw [cell_of_row _ _ _ _ _ _ (heap_alloc_new w _)]
    match i, hi with
    | 0, _ => exact ⟨_, _, rfl⟩
/-- 'more than 40 spans?' of 2 lists -/
theorem great2 (va vb : Value) (a b : List Sp) (r : Bool) (hr : greatB [a.length, b.length] = r) (w : World) (hra : Rd w va a) (hrb : Rd w vb b) :
    Calls Try.prog 17 #[.slice (some ⟨w.heap.size, 0, none⟩) 2 2] (w.alloc (.cells #[va, vb] 29)) fun e w' => e = .returned (.bool r) ∧ Below (w.alloc (.cells #[va, vb] 29)).heap.size (w.alloc (.cells #[va, vb] 29)) w' := by
  obtain ⟨aa, ca, rfl, ha1, ha2, _⟩ := hra.shape
  obtain ⟨ab, cb, rfl, hb1, hb2, _⟩ := hrb.shape
  unfold maxLen at ha2 hb2
  refine great_any w.heap.size [a.length, b.length] r hr _ (by simp) (fun n hn => ?_) (fun i hi => ?_)
  · simp at hn; omega
  · rw [cell_of_row _ _ _ _ _ _ (heap_alloc_new w _)]
    match i, hi with
    | 0, _ => exact ⟨_, _, rfl⟩
    | 1, _ => exact ⟨_, _, rfl⟩
/-- 'more than 40 spans?' of 3 lists -/
theorem great3 (va vb vc : Value) (a b c : List Sp) (r : Bool) (hr : greatB [a.length, b.length, c.length] = r) (w : World) (hra : Rd w va a) (hrb : Rd w vb b) (hrc : Rd w vc c) :
    Calls Try.prog 17 #[.slice (some ⟨w.heap.size, 0, none⟩) 3 3] (w.alloc (.cells #[va, vb, vc] 29)) fun e w' => e = .returned (.bool r) ∧ Below (w.alloc (.cells #[va, vb, vc] 29)).heap.size (w.alloc (.cells #[va, vb, vc] 29)) w' := by
  obtain ⟨aa, ca, rfl, ha1, ha2, _⟩ := hra.shape
  obtain ⟨ab, cb, rfl, hb1, hb2, _⟩ := hrb.shape
  obtain ⟨ac, cc, rfl, hc1, hc2, _⟩ := hrc.shape
  unfold maxLen at ha2 hb2 hc2
  refine great_any w.heap.size [a.length, b.length, c.length] r hr _ (by simp) (fun n hn => ?_) (fun i hi => ?_)
  · simp at hn; omega
  · rw [cell_of_row _ _ _ _ _ _ (heap_alloc_new w _)]
    match i, hi with
    | 0, _ => exact ⟨_, _, rfl⟩
    | 1, _ => exact ⟨_, _, rfl⟩
    | 2, _ => exact ⟨_, _, rfl⟩
theorem great_le {lens : List Nat} (h : greatB lens = false) : ∀ n ∈ lens, n ≤ 40 := by
  intro n hn
  have := List.any_eq_false.1 h n hn
  simp at this; omega

theorem hasL_take {l : List Sp} {k : Nat} (hk : k < l.length) (t : Int) : hasL (l.take (k + 1)) t = (hasL (l.take k) t || hasB l[k].1 l[k].2 t) := by
  rw [List.take_succ_eq_append_getElem hk, hasL_append, hasL_cons, hasL_nil, Bool.or_false]

end Go.Proofs.Ytjnhkfjhkhbneaa
