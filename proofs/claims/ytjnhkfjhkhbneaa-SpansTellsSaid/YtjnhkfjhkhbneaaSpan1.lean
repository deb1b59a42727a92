/- What the functions of package span answer: Time, Width, Empty, Has, And, floor. -/
import Derived.Test.YtjnhkfjhkhbneaaRows
import Derived.Test.YtjnhkfjhkhbneaaPlain
import Derived.WalkKit
import Derived.WalkSpells
import Derived.WalkLawsBesides
import Derived.BigQuiet
import Derived.Lib.Hide
namespace Go.Proofs.Ytjnhkfjhkhbneaa
open Go.RowKit SpanP

theorem bcell {W w1 : World} (hb : Below W.heap.size W w1) : (∀ b o, b < W.heap.size → w1.cell? ⟨b, o, none⟩ = W.cell? ⟨b, o, none⟩) ∧ (∀ b o, b < W.heap.size → w1.frozen? ⟨b, o, none⟩ = W.frozen? ⟨b, o, none⟩) :=
  ⟨fun b o h => hb.cell (p := ⟨b, o, none⟩) h, fun b o h => hb.frozen (p := ⟨b, o, none⟩) h⟩

set_option maxHeartbeats 400000 in
theorem time_any (t : Int) (w : World) : Calls Try.prog 28 #[.int .i64 t] w fun e w' => e = .returned (.bool (timeB t)) ∧ w = w' := by
  by_cases h : -4611686018427387904 ≤ t
  · go_enter Try.func28, Try.ntmps28
    go_wp2
    go_ret
    exact ⟨by simp [timeB, h], rfl⟩
  · go_enter Try.func28, Try.ntmps28
    go_wp2
    go_ret
    exact ⟨by rw [timeB, decide_eq_false (by omega)]; rfl, rfl⟩

set_option maxHeartbeats 400000 in
theorem width_any (t : Int) (w : World) : Calls Try.prog 29 #[.int .i64 t] w fun e w' => e = .returned (.bool (widthB t)) ∧ w = w' := by
  by_cases h : 1 ≤ t
  · go_enter Try.func29, Try.ntmps29
    go_wp2
    go_ret
    exact ⟨by simp [widthB, h], rfl⟩
  · go_enter Try.func29, Try.ntmps29
    go_wp2
    go_ret
    exact ⟨by rw [widthB, decide_eq_false (by omega)]; rfl, rfl⟩

set_option maxHeartbeats 400000 in
theorem empty_ex (f t : Int) (w : World) : Calls Try.prog 15 #[.agg #[.int .i64 f, .int .i64 t]] w fun e w' => e = .returned (.bool (emptyB f t)) ∧ w' = w.alloc (.cells #[.int .i64 f, .int .i64 t] 23) := by
  go_enter Try.func15, Try.ntmps15
  go_wp2
  go_ret
  exact ⟨rfl, rfl⟩

set_option maxHeartbeats 400000 in
theorem has_any (f t x : Int) (w : World) : Calls Try.prog 14 #[.agg #[.int .i64 f, .int .i64 t], .int .i64 x] w fun e w' => e = .returned (.bool (hasB f t x)) ∧ Below w.heap.size w w' := by
  by_cases h : f ≤ x
  · go_enter Try.func14, Try.ntmps14
    go_wp2
    go_ret
    exact ⟨by simp [hasB, h], (Below.refl _ _).alloc (Nat.le_refl _) _⟩
  · go_enter Try.func14, Try.ntmps14
    go_wp2
    go_ret
    exact ⟨by rw [hasB, decide_eq_false (by omega)]; rfl, (Below.refl _ _).alloc (Nat.le_refl _) _⟩

set_option maxHeartbeats 400000 in
theorem floor_any (t n : Int) (w : World) (h0 : 1 ≤ n) (h1 : n ≤ 1099511627776) (h2 : -4611687117939015680 ≤ t) (h3 : t ≤ 4611687117939015680) :
    Calls Try.prog 67 #[.int .i64 t, .int .i64 n] w fun e w' => e = .returned (.int .i64 (fl t n)) ∧ w = w' := by
  have hr := tmod_fl t n h0
  have b0 := Int.emod_nonneg t (show n ≠ 0 by omega)
  have b1 := Int.emod_lt_of_pos t (show 0 < n by omega)
  have c0 : -n < t.tmod n := by have := Int.lt_tmod_of_pos t (show 0 < n by omega); omega
  have c1 := Int.tmod_lt_of_pos t (show 0 < n by omega)
  have hz : ¬ n = 0 := by omega
  go_enter Try.func67, Try.ntmps67
  go_wp2
  go_ret
  exact ⟨rfl, rfl⟩

theorem and_none {f1 t1 f2 t2 F T : Int} (hF : max f1 f2 = F) (hT : min t1 t2 = T) (h : T ≤ F) : Value.agg #[.int .i64 0, .int .i64 0] = .agg #[.int .i64 (andF f1 t1 f2 t2), .int .i64 (andT f1 t1 f2 t2)] := by
  subst hF; subst hT; simp only [andF, andT, if_pos h]
theorem and_some {f1 t1 f2 t2 F T : Int} (hF : max f1 f2 = F) (hT : min t1 t2 = T) (h : ¬ T ≤ F) : Value.agg #[.int .i64 F, .int .i64 T] = .agg #[.int .i64 (andF f1 t1 f2 t2), .int .i64 (andT f1 t1 f2 t2)] := by
  subst hF; subst hT; simp only [andF, andT, if_neg h]
theorem ret_eq {u v : Value} (h : u = v) : Ending.returned u = .returned v := by rw [h]
theorem below5 (w : World) (a b c d e : Obj) : Below w.heap.size w (((((w.alloc a).alloc b).alloc c).alloc d).alloc e) :=
  (((((Below.refl _ _).alloc (Nat.le_refl _) _).alloc (by simp) _).alloc (by simp; omega) _).alloc (by simp; omega) _).alloc (by simp; omega) _

set_option maxHeartbeats 800000 in
theorem and_any (f1 t1 f2 t2 : Int) (w : World) : Calls Try.prog 13 #[.agg #[.int .i64 f1, .int .i64 t1], .agg #[.int .i64 f2, .int .i64 t2]] w fun e w' => e = .returned (.agg #[.int .i64 (andF f1 t1 f2 t2), .int .i64 (andT f1 t1 f2 t2)]) ∧ Below w.heap.size w w' := by
  by_cases hf : f1 < f2 <;> by_cases ht : t2 < t1
  · have hF : max f1 f2 = f2 := by omega
    have hT : min t1 t2 = t2 := by omega
    have HF := Lib.hid hF
    have HT := Lib.hid hT
    clear hF hT
    by_cases h : t2 ≤ f2
    · have he : emptyB f2 t2 = true := by simp [emptyB, h]
      have HH := Lib.hid h
      clear h
      go_enter Try.func13, Try.ntmps13
      go_wp2_with fail
      refine (empty_ex _ _ _).mono ?_
      rintro e w1 ⟨rfl, rfl⟩
      go_wp2_with fail
      exact bodyPost_ret (v := .agg #[.int .i64 0, .int .i64 0]) (by simp [results, Try.results13, go_sem]) rfl ⟨ret_eq (and_none HF.out HT.out HH.out), below5 _ _ _ _ _ _⟩
    · have he : emptyB f2 t2 = false := by rw [emptyB, decide_eq_false h]
      have HH := Lib.hid h
      clear h
      go_enter Try.func13, Try.ntmps13
      go_wp2_with fail
      refine (empty_ex _ _ _).mono ?_
      rintro e w1 ⟨rfl, rfl⟩
      go_wp2_with fail
      exact bodyPost_ret (v := .agg #[.int .i64 f2, .int .i64 t2]) (by simp [results, Try.results13, go_sem]) rfl ⟨ret_eq (and_some HF.out HT.out (Int.not_le.2 HH.out)), below5 _ _ _ _ _ _⟩
  · have hF : max f1 f2 = f2 := by omega
    have hT : min t1 t2 = t1 := by omega
    have HF := Lib.hid hF
    have HT := Lib.hid hT
    clear hF hT
    by_cases h : t1 ≤ f2
    · have he : emptyB f2 t1 = true := by simp [emptyB, h]
      have HH := Lib.hid h
      clear h
      go_enter Try.func13, Try.ntmps13
      go_wp2_with fail
      refine (empty_ex _ _ _).mono ?_
      rintro e w1 ⟨rfl, rfl⟩
      go_wp2_with fail
      exact bodyPost_ret (v := .agg #[.int .i64 0, .int .i64 0]) (by simp [results, Try.results13, go_sem]) rfl ⟨ret_eq (and_none HF.out HT.out HH.out), below5 _ _ _ _ _ _⟩
    · have he : emptyB f2 t1 = false := by rw [emptyB, decide_eq_false h]
      have HH := Lib.hid h
      clear h
      go_enter Try.func13, Try.ntmps13
      go_wp2_with fail
      refine (empty_ex _ _ _).mono ?_
      rintro e w1 ⟨rfl, rfl⟩
      go_wp2_with fail
      exact bodyPost_ret (v := .agg #[.int .i64 f2, .int .i64 t1]) (by simp [results, Try.results13, go_sem]) rfl ⟨ret_eq (and_some HF.out HT.out (Int.not_le.2 HH.out)), below5 _ _ _ _ _ _⟩
  · have hF : max f1 f2 = f1 := by omega
    have hT : min t1 t2 = t2 := by omega
    have HF := Lib.hid hF
    have HT := Lib.hid hT
    clear hF hT
    by_cases h : t2 ≤ f1
    · have he : emptyB f1 t2 = true := by simp [emptyB, h]
      have HH := Lib.hid h
      clear h
      go_enter Try.func13, Try.ntmps13
      go_wp2_with fail
      refine (empty_ex _ _ _).mono ?_
      rintro e w1 ⟨rfl, rfl⟩
      go_wp2_with fail
      exact bodyPost_ret (v := .agg #[.int .i64 0, .int .i64 0]) (by simp [results, Try.results13, go_sem]) rfl ⟨ret_eq (and_none HF.out HT.out HH.out), below5 _ _ _ _ _ _⟩
    · have he : emptyB f1 t2 = false := by rw [emptyB, decide_eq_false h]
      have HH := Lib.hid h
      clear h
      go_enter Try.func13, Try.ntmps13
      go_wp2_with fail
      refine (empty_ex _ _ _).mono ?_
      rintro e w1 ⟨rfl, rfl⟩
      go_wp2_with fail
      exact bodyPost_ret (v := .agg #[.int .i64 f1, .int .i64 t2]) (by simp [results, Try.results13, go_sem]) rfl ⟨ret_eq (and_some HF.out HT.out (Int.not_le.2 HH.out)), below5 _ _ _ _ _ _⟩
  · have hF : max f1 f2 = f1 := by omega
    have hT : min t1 t2 = t1 := by omega
    have HF := Lib.hid hF
    have HT := Lib.hid hT
    clear hF hT
    by_cases h : t1 ≤ f1
    · have he : emptyB f1 t1 = true := by simp [emptyB, h]
      have HH := Lib.hid h
      clear h
      go_enter Try.func13, Try.ntmps13
      go_wp2_with fail
      refine (empty_ex _ _ _).mono ?_
      rintro e w1 ⟨rfl, rfl⟩
      go_wp2_with fail
      exact bodyPost_ret (v := .agg #[.int .i64 0, .int .i64 0]) (by simp [results, Try.results13, go_sem]) rfl ⟨ret_eq (and_none HF.out HT.out HH.out), below5 _ _ _ _ _ _⟩
    · have he : emptyB f1 t1 = false := by rw [emptyB, decide_eq_false h]
      have HH := Lib.hid h
      clear h
      go_enter Try.func13, Try.ntmps13
      go_wp2_with fail
      refine (empty_ex _ _ _).mono ?_
      rintro e w1 ⟨rfl, rfl⟩
      go_wp2_with fail
      exact bodyPost_ret (v := .agg #[.int .i64 f1, .int .i64 t1]) (by simp [results, Try.results13, go_sem]) rfl ⟨ret_eq (and_some HF.out HT.out (Int.not_le.2 HH.out)), below5 _ _ _ _ _ _⟩

end Go.Proofs.Ytjnhkfjhkhbneaa
