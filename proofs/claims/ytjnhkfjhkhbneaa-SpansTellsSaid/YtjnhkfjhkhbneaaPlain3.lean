/- Plain facts on spans made whole. No program. Conditions stand in each lemma. -/
import Derived.Test.YtjnhkfjhkhbneaaPlain2
namespace SpanP

theorem fl_lt_of {s t n : Int} (hn : 1 ≤ n) (h : s < t) : fl s n < t := by have := fl_le s n hn; omega

/-- a span that is not empty: its whole ones -/
theorem out_not {f t n : Int} (hn : 1 ≤ n) (h : f < t) : outF f t n = fl f n ∧ outT f t n = ce t n ∧ fl f n < ce t n := by
  have h1 := fl_le f n hn
  have h2 := le_ce t n hn
  unfold outF outT goodF goodT
  rw [if_neg (by omega), if_neg (by omega), if_neg (by omega), if_neg (by omega)]
  exact ⟨rfl, rfl, by omega⟩
theorem out_yes {f t n : Int} (h : t ≤ f) : outF f t n = 0 ∧ outT f t n = 0 := by
  unfold outF outT; rw [if_pos h, if_pos h]; exact ⟨rfl, rfl⟩
theorem in_yes {f t n : Int} (h : t ≤ f) : inF f t n = 0 ∧ inT f t n = 0 := by
  unfold inF inT; rw [if_pos h, if_pos h]; exact ⟨rfl, rfl⟩
theorem in_not {f t n : Int} (h : f < t) (h' : ce f n < fl t n) : inF f t n = ce f n ∧ inT f t n = fl t n := by
  unfold inF inT goodF goodT
  rw [if_neg (by omega), if_neg (by omega), if_neg (by omega), if_neg (by omega)]
  exact ⟨rfl, rfl⟩
theorem in_small {f t n : Int} (h' : fl t n ≤ ce f n) : inF f t n = 0 ∧ inT f t n = 0 := by
  unfold inF inT goodF goodT
  constructor <;> split <;> first | rfl | (rw [if_pos h'])

theorem out_outF {f t n : Int} (hn : 1 ≤ n) : outF (outF f t n) (outT f t n) n = outF f t n := by
  by_cases h : t ≤ f
  · obtain ⟨h1, h2⟩ := out_yes (n := n) h; rw [h1, h2]; exact (out_yes (Int.le_refl 0)).1
  · obtain ⟨h1, h2, h3⟩ := out_not (f := f) (t := t) hn (by omega)
    rw [h1, h2]; exact out_wholeF hn (dvd_fl _ _) (dvd_ce _ _) h3
theorem out_outT {f t n : Int} (hn : 1 ≤ n) : outT (outF f t n) (outT f t n) n = outT f t n := by
  by_cases h : t ≤ f
  · obtain ⟨h1, h2⟩ := out_yes (n := n) h; rw [h1, h2]; exact (out_yes (Int.le_refl 0)).2
  · obtain ⟨h1, h2, h3⟩ := out_not (f := f) (t := t) hn (by omega)
    rw [h1, h2]; exact out_wholeT hn (dvd_fl _ _) (dvd_ce _ _) h3
theorem in_inF {f t n : Int} (hn : 1 ≤ n) : inF (inF f t n) (inT f t n) n = inF f t n := by
  by_cases h : t ≤ f
  · obtain ⟨h1, h2⟩ := in_yes (n := n) h; rw [h1, h2]; exact (in_yes (Int.le_refl 0)).1
  · by_cases h' : ce f n < fl t n
    · obtain ⟨h1, h2⟩ := in_not (n := n) (f := f) (t := t) (by omega) h'
      rw [h1, h2]; exact in_wholeF hn (dvd_ce _ _) (dvd_fl _ _) h'
    · obtain ⟨h1, h2⟩ := in_small (f := f) (t := t) (n := n) (by omega); rw [h1, h2]; exact (in_yes (Int.le_refl 0)).1
theorem in_inT {f t n : Int} (hn : 1 ≤ n) : inT (inF f t n) (inT f t n) n = inT f t n := by
  by_cases h : t ≤ f
  · obtain ⟨h1, h2⟩ := in_yes (n := n) h; rw [h1, h2]; exact (in_yes (Int.le_refl 0)).2
  · by_cases h' : ce f n < fl t n
    · obtain ⟨h1, h2⟩ := in_not (n := n) (f := f) (t := t) (by omega) h'
      rw [h1, h2]; exact in_wholeT hn (dvd_ce _ _) (dvd_fl _ _) h'
    · obtain ⟨h1, h2⟩ := in_small (f := f) (t := t) (n := n) (by omega); rw [h1, h2]; exact (in_yes (Int.le_refl 0)).2
theorem out_empty {f t n : Int} (hn : 1 ≤ n) : emptyB (outF f t n) (outT f t n) = emptyB f t := by
  rw [Bool.eq_iff_iff, emptyB_iff, emptyB_iff]
  by_cases h : t ≤ f
  · obtain ⟨h1, h2⟩ := out_yes (n := n) h; rw [h1, h2]; omega
  · obtain ⟨h1, h2, h3⟩ := out_not (f := f) (t := t) hn (by omega)
    rw [h1, h2]; omega

theorem fl_le_iff {f x n : Int} (hn : 1 ≤ n) : fl f n ≤ x ↔ f < fl x n + n := by
  have h1 := fl_le x n hn
  have h2 := lt_fl f n hn
  constructor
  · intro h
    have := le_fl hn (dvd_fl f n) h
    omega
  · intro h
    have h3 := fl_le f n hn
    rcases Int.lt_or_le (fl x n) (fl f n) with h4 | h4
    · have := dvd_gap hn (dvd_fl x n) (dvd_fl f n) h4; omega
    · omega
theorem lt_ce_iff {t x n : Int} (hn : 1 ≤ n) : x < ce t n ↔ fl x n < t := by
  have h1 := fl_le x n hn
  have h2 := lt_fl x n hn
  constructor
  · intro h
    rcases Int.lt_or_le (fl x n) t with h4 | h4
    · exact h4
    · have := ce_le hn (dvd_fl x n) h4; omega
  · intro h
    have h3 := le_ce t n hn
    have := dvd_gap hn (dvd_fl x n) (dvd_ce t n) (by omega)
    omega
theorem ce_le_iff {f x n : Int} (hn : 1 ≤ n) : ce f n ≤ x ↔ f ≤ fl x n := by
  constructor
  · intro h
    have := le_fl hn (dvd_ce f n) h
    have := le_ce f n hn
    omega
  · intro h
    have := ce_le hn (dvd_fl x n) h
    have := fl_le x n hn
    omega
theorem lt_fl_iff {t x n : Int} (hn : 1 ≤ n) : x < fl t n ↔ fl x n + n ≤ t := by
  have h1 := fl_le x n hn
  have h2 := lt_fl x n hn
  constructor
  · intro h
    have := dvd_gap hn (dvd_fl x n) (dvd_fl t n) (by omega)
    have := fl_le t n hn
    omega
  · intro h
    have := le_fl hn (Int.dvd_add (dvd_fl x n) (Int.dvd_refl n)) h
    omega

theorem out_has {f t x n : Int} (hn : 1 ≤ n) : emptyB (andF (fl x n) (fl x n + n) f t) (andT (fl x n) (fl x n + n) f t) = !hasB (outF f t n) (outT f t n) x := by
  have key : emptyB (andF (fl x n) (fl x n + n) f t) (andT (fl x n) (fl x n + n) f t) = true ↔ ¬ (hasB (outF f t n) (outT f t n) x = true) := by
    rw [emptyB_iff, hasB_iff]
    by_cases h : t ≤ f
    · obtain ⟨h1, h2⟩ := out_yes (n := n) h; rw [h1, h2]
      unfold andF andT; rw [if_pos (by omega), if_pos (by omega)]; omega
    · obtain ⟨h1, h2, h3⟩ := out_not (f := f) (t := t) hn (by omega)
      rw [h1, h2, fl_le_iff hn, lt_ce_iff hn]
      unfold andF andT
      split
      · omega
      · omega
  cases h : hasB (outF f t n) (outT f t n) x <;> rw [h] at key <;> simp at key <;> simp [key]

theorem in_has {f t x n : Int} (hn : 1 ≤ n) : hasB (inF f t n) (inT f t n) x = true ↔ f < t ∧ andF (fl x n) (fl x n + n) f t = fl x n ∧ andT (fl x n) (fl x n + n) f t = fl x n + n := by
  rw [hasB_iff]
  have hin : (f < t ∧ andF (fl x n) (fl x n + n) f t = fl x n ∧ andT (fl x n) (fl x n + n) f t = fl x n + n) ↔ (f < t ∧ f ≤ fl x n ∧ fl x n + n ≤ t) := by
    unfold andF andT
    split <;> omega
  rw [hin]
  by_cases h : t ≤ f
  · obtain ⟨h1, h2⟩ := in_yes (n := n) h; rw [h1, h2]; omega
  · by_cases h' : ce f n < fl t n
    · obtain ⟨h1, h2⟩ := in_not (n := n) (f := f) (t := t) (by omega) h'
      rw [h1, h2, ce_le_iff hn, lt_fl_iff hn]; omega
    · obtain ⟨h1, h2⟩ := in_small (f := f) (t := t) (n := n) (by omega); rw [h1, h2]
      rw [← ce_le_iff hn, ← lt_fl_iff hn]; omega

theorem in_subF {f t n : Int} (hn : 1 ≤ n) : andF (inF f t n) (inT f t n) f t = inF f t n := by
  by_cases h : t ≤ f
  · obtain ⟨h1, h2⟩ := in_yes (n := n) h; rw [h1, h2]; unfold andF; rw [if_pos (by omega)]
  · by_cases h' : ce f n < fl t n
    · obtain ⟨h1, h2⟩ := in_not (n := n) (f := f) (t := t) (by omega) h'
      have := le_ce f n hn
      have := fl_le t n hn
      rw [h1, h2]; unfold andF; rw [if_neg (by omega)]; omega
    · obtain ⟨h1, h2⟩ := in_small (f := f) (t := t) (n := n) (by omega); rw [h1, h2]; unfold andF; split <;> omega
theorem in_subT {f t n : Int} (hn : 1 ≤ n) : andT (inF f t n) (inT f t n) f t = inT f t n := by
  by_cases h : t ≤ f
  · obtain ⟨h1, h2⟩ := in_yes (n := n) h; rw [h1, h2]; unfold andT; rw [if_pos (by omega)]
  · by_cases h' : ce f n < fl t n
    · obtain ⟨h1, h2⟩ := in_not (n := n) (f := f) (t := t) (by omega) h'
      have := le_ce f n hn
      have := fl_le t n hn
      rw [h1, h2]; unfold andT; rw [if_neg (by omega)]; omega
    · obtain ⟨h1, h2⟩ := in_small (f := f) (t := t) (n := n) (by omega); rw [h1, h2]; unfold andT; split <;> omega
theorem out_supF {f t n : Int} (hn : 1 ≤ n) : andF f t (outF f t n) (outT f t n) = andF f t f t := by
  by_cases h : t ≤ f
  · unfold andF; rw [if_pos (by omega), if_pos (by omega)]
  · obtain ⟨h1, h2, h3⟩ := out_not (f := f) (t := t) hn (by omega)
    have := fl_le f n hn
    have := le_ce t n hn
    rw [h1, h2]; unfold andF; rw [if_neg (by omega), if_neg (by omega)]; omega
theorem out_supT {f t n : Int} (hn : 1 ≤ n) : andT f t (outF f t n) (outT f t n) = andT f t f t := by
  by_cases h : t ≤ f
  · unfold andT; rw [if_pos (by omega), if_pos (by omega)]
  · obtain ⟨h1, h2, h3⟩ := out_not (f := f) (t := t) hn (by omega)
    have := fl_le f n hn
    have := le_ce t n hn
    rw [h1, h2]; unfold andT; rw [if_neg (by omega), if_neg (by omega)]; omega
/-- how far the ends go -/
theorem out_range {f t n : Int} (hn : 1 ≤ n) (lo hi : Int) (h0 : lo + n ≤ 0) (h1 : 0 ≤ hi - n) (hf : lo + n ≤ f) (hf' : f ≤ hi - n) (ht : lo + n ≤ t) (ht' : t ≤ hi - n) : lo ≤ outF f t n ∧ outF f t n ≤ hi ∧ lo ≤ outT f t n ∧ outT f t n ≤ hi := by
  by_cases h : t ≤ f
  · obtain ⟨h1, h2⟩ := out_yes (n := n) h; rw [h1, h2]; omega
  · obtain ⟨h1, h2, h3⟩ := out_not (f := f) (t := t) hn (by omega)
    have := fl_le f n hn
    have := lt_fl f n hn
    have := le_ce t n hn
    have := ce_lt t n hn
    rw [h1, h2]; omega
theorem in_range {f t n : Int} (hn : 1 ≤ n) (lo hi : Int) (h0 : lo + n ≤ 0) (h1 : 0 ≤ hi - n) (hf : lo + n ≤ f) (hf' : f ≤ hi - n) (ht : lo + n ≤ t) (ht' : t ≤ hi - n) : lo ≤ inF f t n ∧ inF f t n ≤ hi ∧ lo ≤ inT f t n ∧ inT f t n ≤ hi := by
  by_cases h : t ≤ f
  · obtain ⟨h1, h2⟩ := in_yes (n := n) h; rw [h1, h2]; omega
  · by_cases h' : ce f n < fl t n
    · obtain ⟨h1, h2⟩ := in_not (n := n) (f := f) (t := t) (by omega) h'
      have := fl_le t n hn
      have := lt_fl t n hn
      have := le_ce f n hn
      have := ce_lt f n hn
      rw [h1, h2]; omega
    · obtain ⟨h1, h2⟩ := in_small (f := f) (t := t) (n := n) (by omega); rw [h1, h2]; omega
end SpanP
