/- Plain facts on buckets and whole spans of whole numbers. No program. Conditions stand in each lemma. -/
import Derived.Test.YtjnhkfjhkhbneaaPlain
namespace SpanP

theorem hasB_false {f t x : Int} : hasB f t x = false ↔ ¬ (f ≤ x ∧ x < t) := by
  rw [← hasB_iff]; cases hasB f t x <;> simp
theorem emptyB_false {f t : Int} : emptyB f t = false ↔ f < t := by
  have := @emptyB_iff f t
  cases h : emptyB f t <;> rw [h] at this <;> simp at this <;> simp <;> omega

theorem bk_has (t n : Int) (hn : 1 ≤ n) : hasB (fl t n) (fl t n + n) t = true := hasB_iff.2 ⟨fl_le t n hn, lt_fl t n hn⟩
theorem bk_eq {t u n : Int} (hn : 1 ≤ n) (h : fl u n = fl t n) : hasB (fl t n) (fl t n + n) u = true := by rw [← h]; exact bk_has u n hn
theorem bk_apart {t u n : Int} (hn : 1 ≤ n) (h : ¬ fl u n = fl t n) : fl u n + n ≤ fl t n ∨ fl t n + n ≤ fl u n := by
  rcases (show fl u n < fl t n ∨ fl t n < fl u n by omega) with h | h
  · exact .inl (dvd_gap hn (dvd_fl _ _) (dvd_fl _ _) h)
  · exact .inr (dvd_gap hn (dvd_fl _ _) (dvd_fl _ _) h)
theorem bk_ne {t u n : Int} (hn : 1 ≤ n) (h : ¬ fl u n = fl t n) : hasB (fl t n) (fl t n + n) u = false := by
  rw [hasB_false]
  have := fl_le u n hn
  have := lt_fl u n hn
  rcases bk_apart hn h with h | h <;> omega
theorem bk_andF {t u n : Int} (hn : 1 ≤ n) (h : ¬ fl u n = fl t n) : andF (fl t n) (fl t n + n) (fl u n) (fl u n + n) = 0 := by
  unfold andF
  rw [if_pos]
  rcases bk_apart hn h with h | h <;> omega
theorem bk_andT {t u n : Int} (hn : 1 ≤ n) (h : ¬ fl u n = fl t n) : andT (fl t n) (fl t n + n) (fl u n) (fl u n + n) = 0 := by
  unfold andT
  rw [if_pos]
  rcases bk_apart hn h with h | h <;> omega

/-- what is whole stays -/
theorem out_wholeF {f t n : Int} (hn : 1 ≤ n) (hf : n ∣ f) (ht : n ∣ t) (h : f < t) : outF f t n = f := by
  unfold outF goodF; rw [if_neg (by omega), fl_of_dvd hn hf, ce_of_dvd hn ht, if_neg (by omega)]
theorem out_wholeT {f t n : Int} (hn : 1 ≤ n) (hf : n ∣ f) (ht : n ∣ t) (h : f < t) : outT f t n = t := by
  unfold outT goodT; rw [if_neg (by omega), fl_of_dvd hn hf, ce_of_dvd hn ht, if_neg (by omega)]
theorem in_wholeF {f t n : Int} (hn : 1 ≤ n) (hf : n ∣ f) (ht : n ∣ t) (h : f < t) : inF f t n = f := by
  unfold inF goodF; rw [if_neg (by omega), ce_of_dvd hn hf, fl_of_dvd hn ht, if_neg (by omega)]
theorem in_wholeT {f t n : Int} (hn : 1 ≤ n) (hf : n ∣ f) (ht : n ∣ t) (h : f < t) : inT f t n = t := by
  unfold inT goodT; rw [if_neg (by omega), ce_of_dvd hn hf, fl_of_dvd hn ht, if_neg (by omega)]

/-- a bucket lies in the bucket of a multiple of its width -/
theorem bk_in {t n m : Int} (hn : 1 ≤ n) (hm : 1 ≤ m) (hd : n ∣ m) : fl t m ≤ fl t n ∧ fl t n + n ≤ fl t m + m := by
  have h1 := le_fl hn (Int.dvd_trans hd (dvd_fl t m)) (fl_le t m hm)
  have h2 := lt_fl t m hm
  have h3 := fl_le t n hn
  exact ⟨h1, dvd_gap hn (dvd_fl t n) (Int.dvd_add (Int.dvd_trans hd (dvd_fl t m)) hd) (by omega)⟩
theorem bk_inF {t n m : Int} (hn : 1 ≤ n) (hm : 1 ≤ m) (hd : n ∣ m) : andF (fl t n) (fl t n + n) (fl t m) (fl t m + m) = fl t n := by
  have := bk_in (t := t) hn hm hd
  unfold andF; rw [if_neg (by omega)]; omega
theorem bk_inT {t n m : Int} (hn : 1 ≤ n) (hm : 1 ≤ m) (hd : n ∣ m) : andT (fl t n) (fl t n + n) (fl t m) (fl t m + m) = fl t n + n := by
  have := bk_in (t := t) hn hm hd
  unfold andT; rw [if_neg (by omega)]; omega
theorem tmod_dvd {a n : Int} (h : n ∣ a) : a.tmod n = 0 := Int.tmod_eq_zero_of_dvd h
theorem mul_le_of_le_div {n k M : Int} (hn : 1 ≤ n) (h : k ≤ M / n) : n * k ≤ M := by
  have := Int.mul_le_mul_of_nonneg_left h (show (0 : Int) ≤ n by omega)
  have h2 := Int.mul_ediv_self_le (x := M) (k := n) (by omega)
  omega
end SpanP
