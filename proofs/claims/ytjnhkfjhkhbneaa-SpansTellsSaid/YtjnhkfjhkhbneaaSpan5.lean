/- What the functions of package span answer: whole, Out, In. -/
import Derived.Test.YtjnhkfjhkhbneaaSpan4
namespace Go.Proofs.Ytjnhkfjhkhbneaa
open Go.RowKit SpanP

theorem wrong_2g (n s t : Int) (ty : TypeId) (g : Nat) (w : World) (x : Int) (hx : wrongN n [s, t] = x) (hg : w.heap[g]? = some (.cells #[.int .i64 s, .int .i64 t] ty)) :
    Calls Try.prog 70 #[.int .i64 n, .slice (some ⟨g, 0, none⟩) 2 2] w fun e w' => e = .returned (.int .i64 x) ∧ w = w' :=
  hx ▸ wrong_any n [s, t] g 2 w (by simp) (fun i hi => by
    match i, hi with
    | 0, _ => rw [cell_of_row _ _ _ _ _ _ hg]; rfl
    | 1, _ => rw [cell_of_row _ _ _ _ _ _ hg]; rfl)
theorem heap3_new (w : World) (a b c : Obj) : (((w.alloc a).alloc b).alloc c).heap[w.heap.size + 1 + 1]? = some c := by
  have := heap_alloc_new ((w.alloc a).alloc b) c
  simpa using this

set_option maxRecDepth 100000 in
set_option maxHeartbeats 800000 in
theorem whole_out (f t n : Int) (bn : Nat) (w : World) (hn : w.cell? ⟨bn, 0, none⟩ = some (.int .i64 n)) (h : wrongN n [f, t] = 0) :
    Calls Try.prog 65 #[.agg #[.int .i64 f, .int .i64 t], .int .i64 n, .func (.func 66) #[] #[.pointer (some ⟨bn, 0, none⟩)]] w fun e w' => e = .returned (.tuple #[.agg #[.int .i64 (outF f t n), .int .i64 (outT f t n)], .int .i64 0]) ∧ Below w.heap.size w w' := by
  obtain ⟨h1, h2, h3⟩ := wrongN_ok h
  have h4 := h3 f (by simp)
  have h5 := h3 t (by simp)
  clear h3
  have H := Lib.hid h
  have hlt : bn < w.heap.size := block_lt_of_cell hn
  have HN := Lib.hid hn
  clear h hn
  by_cases he : t ≤ f
  · have hE : emptyB f t = true := by simp [emptyB, he]
    have HF : Hid (outF f t n = 0 ∧ outT f t n = 0) := Lib.hid (by unfold outF outT; rw [if_pos he, if_pos he]; exact ⟨rfl, rfl⟩)
    clear h4 h5 he
    go_enter Try.func65, Try.ntmps65
    go_wp2_with (first | (go_at_call 70; refine (wrong_2g _ _ _ 2 _ _ 0 H.out (heap3_new _ _ _ _)).mono ?_; rintro e w' ⟨rfl, rfl⟩) | (go_at_call 15; refine (empty_ex _ _ _).mono ?_; rintro e w' ⟨rfl, rfl⟩))
    refine bodyPost_ret (v := .tuple #[.agg #[.int .i64 0, .int .i64 0], .int .i64 0]) (by simp [results, Try.results65, go_sem]) rfl ⟨by rw [HF.out.1, HF.out.2], ?_⟩
    exact ((((Below.refl _ _).alloc (Nat.le_refl _) _).alloc (by simp) _).alloc (by simp; omega) _).alloc (by simp; omega) _
  · have hE : emptyB f t = false := by rw [emptyB, decide_eq_false he]
    have HF : Hid (outF f t n = andF (fl f n) (ce t n) (fl f n) (ce t n) ∧ outT f t n = andT (fl f n) (ce t n) (fl f n) (ce t n)) := Lib.hid (by unfold outF outT; rw [if_neg he, if_neg he, andF_self, andT_self]; exact ⟨rfl, rfl⟩)
    have K := Lib.hid (fun (w : World) (hn : w.cell? ⟨bn, 0, none⟩ = some (.int .i64 n)) => turn_out f t n bn w hn h1 h2 h4 h5)
    clear h4 h5 he
    obtain ⟨x, hx⟩ : ∃ x, x = fl f n := ⟨_, rfl⟩
    obtain ⟨y, hy⟩ : ∃ y, y = ce t n := ⟨_, rfl⟩
    rw [← hx, ← hy] at HF K
    clear hx hy
    go_enter Try.func65, Try.ntmps65
    go_wp2_with (first | (go_at_call 70; refine (wrong_2g _ _ _ 2 _ _ 0 H.out (heap3_new _ _ _ _)).mono ?_; rintro e w' ⟨rfl, rfl⟩) | (go_at_call 15; refine (empty_ex _ _ _).mono ?_; rintro e w' ⟨rfl, rfl⟩))
    have hb0 := ((((Below.refl _ w).alloc (Nat.le_refl _) (.cells #[.int .i64 f, .int .i64 t] 23)).alloc (by simp) (.cells #[.int .i64 0, .int .i64 0] 23)).alloc (by simp; omega) (.cells #[.int .i64 f, .int .i64 t] 2)).alloc (by simp; omega) (.cells #[.int .i64 f, .int .i64 t] 23)
    have hr : (((((w.alloc (.cells #[.int .i64 f, .int .i64 t] 23)).alloc (.cells #[.int .i64 0, .int .i64 0] 23)).alloc (.cells #[.int .i64 f, .int .i64 t] 2)).alloc (.cells #[.int .i64 f, .int .i64 t] 23)).heap[w.heap.size + 1]? = some (.cells #[.int .i64 0, .int .i64 0] 23)) := by
      rw [heap_alloc_old _ _ (by simp), heap_alloc_old _ _ (by simp)]
      exact heap_alloc2_new _ _ _
    have hs : w.heap.size + 4 = ((((w.alloc (.cells #[.int .i64 f, .int .i64 t] 23)).alloc (.cells #[.int .i64 0, .int .i64 0] 23)).alloc (.cells #[.int .i64 f, .int .i64 t] 2)).alloc (.cells #[.int .i64 f, .int .i64 t] 23)).heap.size := by simp
    obtain ⟨W, hW⟩ : ∃ W, W = ((((w.alloc (.cells #[.int .i64 f, .int .i64 t] 23)).alloc (.cells #[.int .i64 0, .int .i64 0] 23)).alloc (.cells #[.int .i64 f, .int .i64 t] 2)).alloc (.cells #[.int .i64 f, .int .i64 t] 23)) := ⟨_, rfl⟩
    rw [← hW] at hb0 hr hs ⊢
    clear hW
    refine (K.out _ ((hb0.cell (p := ⟨bn, 0, none⟩) hlt).trans HN.out)).mono ?_
    rintro e w1 ⟨rfl, hb1⟩
    have hr1 : w1.heap[w.heap.size + 1]? = some (.cells #[.int .i64 0, .int .i64 0] 23) := by rw [hb1.block _ (by omega)]; exact hr
    have hb2 : Below w.heap.size w w1 := hb0.trans (hb1.mono (by omega))
    have hs1 : w.heap.size + 1 < w1.heap.size := by have := hb1.size; omega
    clear hb1 hb0 hr hs
    go_wp2_with fail
    refine (and_any x y x y _).mono ?_
    rintro e w2 ⟨rfl, hb3⟩
    obtain ⟨F, hF⟩ : ∃ F, F = andF x y x y := ⟨_, rfl⟩
    obtain ⟨T, hT⟩ : ∃ T, T = andT x y x y := ⟨_, rfl⟩
    rw [← hF, ← hT] at HF ⊢
    clear hF hT
    have hr2 : w2.heap[w.heap.size + 1]? = some (.cells #[.int .i64 0, .int .i64 0] 23) := by
      rw [hb3.block _ (by simp; omega), heap_alloc_old _ _ hs1]; exact hr1
    have hb4 : Below w.heap.size w w2 := (hb2.alloc (by omega) _).trans (hb3.mono (by simp; omega))
    have hc0 : w2.cell? ⟨w.heap.size + 1, 0, none⟩ = some (.int .i64 0) := by rw [cell_of_row _ _ _ _ _ _ hr2]; rfl
    have hc1 : w2.cell? ⟨w.heap.size + 1, 1, none⟩ = some (.int .i64 0) := by rw [cell_of_row _ _ _ _ _ _ hr2]; rfl
    have hf0 : w2.frozen? ⟨w.heap.size + 1, 0, none⟩ = false := frozen_of_row _ _ _ _ _ hr2
    have hf1 : w2.frozen? ⟨w.heap.size + 1, 1, none⟩ = false := frozen_of_row _ _ _ _ _ hr2
    clear hb3 hr1 hr2
    go_wp2_with fail
    refine bodyPost_ret (v := .tuple #[.agg #[.int .i64 F, .int .i64 T], .int .i64 0]) (by simp [results, Try.results65, go_sem, hc0, hc1]) rfl ⟨by rw [HF.out.1, HF.out.2], ?_⟩
    exact (hb4.setCell (by simp) _).setCell (by simp) _

set_option maxRecDepth 100000 in
set_option maxHeartbeats 800000 in
theorem whole_out_bad (f t n x : Int) (v : Value) (w : World) (h : wrongN n [f, t] = x) (hx : (x != 0) = true) :
    Calls Try.prog 65 #[.agg #[.int .i64 f, .int .i64 t], .int .i64 n, v] w fun e w' => e = .returned (.tuple #[.agg #[.int .i64 0, .int .i64 0], .int .i64 x]) ∧ Below w.heap.size w w' := by
  have H := Lib.hid h
  clear h
  go_enter Try.func65, Try.ntmps65
  go_wp2_with (go_at_call 70; refine (wrong_2g _ _ _ 2 _ _ x H.out (heap3_new _ _ _ _)).mono ?_; rintro e w' ⟨rfl, rfl⟩)
  refine bodyPost_ret (v := .tuple #[.agg #[.int .i64 0, .int .i64 0], .int .i64 x]) (by simp [results, Try.results65, go_sem]) rfl ⟨rfl, ?_⟩
  exact ((((Below.refl _ _).alloc (Nat.le_refl _) _).alloc (by simp) _).alloc (by simp; omega) _)

set_option maxRecDepth 100000 in
set_option maxHeartbeats 800000 in
theorem whole_in (f t n : Int) (bn : Nat) (w : World) (hn : w.cell? ⟨bn, 0, none⟩ = some (.int .i64 n)) (h : wrongN n [f, t] = 0) :
    Calls Try.prog 65 #[.agg #[.int .i64 f, .int .i64 t], .int .i64 n, .func (.func 68) #[] #[.pointer (some ⟨bn, 0, none⟩)]] w fun e w' => e = .returned (.tuple #[.agg #[.int .i64 (inF f t n), .int .i64 (inT f t n)], .int .i64 0]) ∧ Below w.heap.size w w' := by
  obtain ⟨h1, h2, h3⟩ := wrongN_ok h
  have h4 := h3 f (by simp)
  have h5 := h3 t (by simp)
  clear h3
  have H := Lib.hid h
  have hlt : bn < w.heap.size := block_lt_of_cell hn
  have HN := Lib.hid hn
  clear h hn
  by_cases he : t ≤ f
  · have hE : emptyB f t = true := by simp [emptyB, he]
    have HF : Hid (inF f t n = 0 ∧ inT f t n = 0) := Lib.hid (by unfold inF inT; rw [if_pos he, if_pos he]; exact ⟨rfl, rfl⟩)
    clear h4 h5 he
    go_enter Try.func65, Try.ntmps65
    go_wp2_with (first | (go_at_call 70; refine (wrong_2g _ _ _ 2 _ _ 0 H.out (heap3_new _ _ _ _)).mono ?_; rintro e w' ⟨rfl, rfl⟩) | (go_at_call 15; refine (empty_ex _ _ _).mono ?_; rintro e w' ⟨rfl, rfl⟩))
    refine bodyPost_ret (v := .tuple #[.agg #[.int .i64 0, .int .i64 0], .int .i64 0]) (by simp [results, Try.results65, go_sem]) rfl ⟨by rw [HF.out.1, HF.out.2], ?_⟩
    exact ((((Below.refl _ _).alloc (Nat.le_refl _) _).alloc (by simp) _).alloc (by simp; omega) _).alloc (by simp; omega) _
  · have hE : emptyB f t = false := by rw [emptyB, decide_eq_false he]
    have HF : Hid (inF f t n = andF (ce f n) (fl t n) (ce f n) (fl t n) ∧ inT f t n = andT (ce f n) (fl t n) (ce f n) (fl t n)) := Lib.hid (by unfold inF inT; rw [if_neg he, if_neg he, andF_self, andT_self]; exact ⟨rfl, rfl⟩)
    have K := Lib.hid (fun (w : World) (hn : w.cell? ⟨bn, 0, none⟩ = some (.int .i64 n)) => turn_in f t n bn w hn h1 h2 h4 h5)
    clear h4 h5 he
    obtain ⟨x, hx⟩ : ∃ x, x = ce f n := ⟨_, rfl⟩
    obtain ⟨y, hy⟩ : ∃ y, y = fl t n := ⟨_, rfl⟩
    rw [← hx, ← hy] at HF K
    clear hx hy
    go_enter Try.func65, Try.ntmps65
    go_wp2_with (first | (go_at_call 70; refine (wrong_2g _ _ _ 2 _ _ 0 H.out (heap3_new _ _ _ _)).mono ?_; rintro e w' ⟨rfl, rfl⟩) | (go_at_call 15; refine (empty_ex _ _ _).mono ?_; rintro e w' ⟨rfl, rfl⟩))
    have hb0 := ((((Below.refl _ w).alloc (Nat.le_refl _) (.cells #[.int .i64 f, .int .i64 t] 23)).alloc (by simp) (.cells #[.int .i64 0, .int .i64 0] 23)).alloc (by simp; omega) (.cells #[.int .i64 f, .int .i64 t] 2)).alloc (by simp; omega) (.cells #[.int .i64 f, .int .i64 t] 23)
    have hr : (((((w.alloc (.cells #[.int .i64 f, .int .i64 t] 23)).alloc (.cells #[.int .i64 0, .int .i64 0] 23)).alloc (.cells #[.int .i64 f, .int .i64 t] 2)).alloc (.cells #[.int .i64 f, .int .i64 t] 23)).heap[w.heap.size + 1]? = some (.cells #[.int .i64 0, .int .i64 0] 23)) := by
      rw [heap_alloc_old _ _ (by simp), heap_alloc_old _ _ (by simp)]
      exact heap_alloc2_new _ _ _
    have hs : w.heap.size + 4 = ((((w.alloc (.cells #[.int .i64 f, .int .i64 t] 23)).alloc (.cells #[.int .i64 0, .int .i64 0] 23)).alloc (.cells #[.int .i64 f, .int .i64 t] 2)).alloc (.cells #[.int .i64 f, .int .i64 t] 23)).heap.size := by simp
    obtain ⟨W, hW⟩ : ∃ W, W = ((((w.alloc (.cells #[.int .i64 f, .int .i64 t] 23)).alloc (.cells #[.int .i64 0, .int .i64 0] 23)).alloc (.cells #[.int .i64 f, .int .i64 t] 2)).alloc (.cells #[.int .i64 f, .int .i64 t] 23)) := ⟨_, rfl⟩
    rw [← hW] at hb0 hr hs ⊢
    clear hW
    refine (K.out _ ((hb0.cell (p := ⟨bn, 0, none⟩) hlt).trans HN.out)).mono ?_
    rintro e w1 ⟨rfl, hb1⟩
    have hr1 : w1.heap[w.heap.size + 1]? = some (.cells #[.int .i64 0, .int .i64 0] 23) := by rw [hb1.block _ (by omega)]; exact hr
    have hb2 : Below w.heap.size w w1 := hb0.trans (hb1.mono (by omega))
    have hs1 : w.heap.size + 1 < w1.heap.size := by have := hb1.size; omega
    clear hb1 hb0 hr hs
    go_wp2_with fail
    refine (and_any x y x y _).mono ?_
    rintro e w2 ⟨rfl, hb3⟩
    obtain ⟨F, hF⟩ : ∃ F, F = andF x y x y := ⟨_, rfl⟩
    obtain ⟨T, hT⟩ : ∃ T, T = andT x y x y := ⟨_, rfl⟩
    rw [← hF, ← hT] at HF ⊢
    clear hF hT
    have hr2 : w2.heap[w.heap.size + 1]? = some (.cells #[.int .i64 0, .int .i64 0] 23) := by
      rw [hb3.block _ (by simp; omega), heap_alloc_old _ _ hs1]; exact hr1
    have hb4 : Below w.heap.size w w2 := (hb2.alloc (by omega) _).trans (hb3.mono (by simp; omega))
    have hc0 : w2.cell? ⟨w.heap.size + 1, 0, none⟩ = some (.int .i64 0) := by rw [cell_of_row _ _ _ _ _ _ hr2]; rfl
    have hc1 : w2.cell? ⟨w.heap.size + 1, 1, none⟩ = some (.int .i64 0) := by rw [cell_of_row _ _ _ _ _ _ hr2]; rfl
    have hf0 : w2.frozen? ⟨w.heap.size + 1, 0, none⟩ = false := frozen_of_row _ _ _ _ _ hr2
    have hf1 : w2.frozen? ⟨w.heap.size + 1, 1, none⟩ = false := frozen_of_row _ _ _ _ _ hr2
    clear hb3 hr1 hr2
    go_wp2_with fail
    refine bodyPost_ret (v := .tuple #[.agg #[.int .i64 F, .int .i64 T], .int .i64 0]) (by simp [results, Try.results65, go_sem, hc0, hc1]) rfl ⟨by rw [HF.out.1, HF.out.2], ?_⟩
    exact (hb4.setCell (by simp) _).setCell (by simp) _

set_option maxRecDepth 100000 in
set_option maxHeartbeats 800000 in
theorem whole_in_bad (f t n x : Int) (v : Value) (w : World) (h : wrongN n [f, t] = x) (hx : (x != 0) = true) :
    Calls Try.prog 65 #[.agg #[.int .i64 f, .int .i64 t], .int .i64 n, v] w fun e w' => e = .returned (.tuple #[.agg #[.int .i64 0, .int .i64 0], .int .i64 x]) ∧ Below w.heap.size w w' := by
  have H := Lib.hid h
  clear h
  go_enter Try.func65, Try.ntmps65
  go_wp2_with (go_at_call 70; refine (wrong_2g _ _ _ 2 _ _ x H.out (heap3_new _ _ _ _)).mono ?_; rintro e w' ⟨rfl, rfl⟩)
  refine bodyPost_ret (v := .tuple #[.agg #[.int .i64 0, .int .i64 0], .int .i64 x]) (by simp [results, Try.results65, go_sem]) rfl ⟨rfl, ?_⟩
  exact ((((Below.refl _ _).alloc (Nat.le_refl _) _).alloc (by simp) _).alloc (by simp; omega) _)

end Go.Proofs.Ytjnhkfjhkhbneaa
