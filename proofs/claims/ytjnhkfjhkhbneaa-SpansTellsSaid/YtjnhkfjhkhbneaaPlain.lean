/- Plain facts on floors, ceilings and spans of whole numbers. No program, no condition. -/
namespace SpanP

/-- the floor by a width -/
def fl (t n : Int) : Int := t - t % n
def ce (t n : Int) : Int := - fl (-t) n

theorem tmod_fl (t n : Int) (hn : 1 ≤ n) : (t.tmod n + n).tmod n = t % n := by
  have h0 := Int.emod_nonneg t (show n ≠ 0 by omega)
  have h1 := Int.emod_lt_of_pos t (show 0 < n by omega)
  by_cases h : 0 ≤ t ∨ n ∣ t
  · have e : t.tmod n = t % n := by rw [Int.tmod_eq_emod, if_pos h]; omega
    rw [e, Int.tmod_eq_emod_of_nonneg (by omega), Int.add_emod_right, Int.emod_emod_of_dvd _ (Int.dvd_refl n)]
  · have e : t.tmod n = t % n - n := by rw [Int.tmod_eq_emod, if_neg h]; omega
    rw [e, show t % n - n + n = t % n by omega, Int.tmod_eq_emod_of_nonneg h0, Int.emod_emod_of_dvd _ (Int.dvd_refl n)]

theorem fl_le (t n : Int) (hn : 1 ≤ n) : fl t n ≤ t := by
  have h0 := Int.emod_nonneg t (show n ≠ 0 by omega)
  unfold fl; omega
theorem lt_fl (t n : Int) (hn : 1 ≤ n) : t < fl t n + n := by
  have h1 := Int.emod_lt_of_pos t (show 0 < n by omega)
  unfold fl; omega
theorem fl_mul (t n : Int) : fl t n = n * (t / n) := by
  have := Int.mul_ediv_add_emod t n
  unfold fl; omega
theorem dvd_fl (t n : Int) : n ∣ fl t n := ⟨t / n, fl_mul t n⟩
/-- the floor is the one multiple that is near -/
theorem fl_uniq {t n m : Int} (hn : 1 ≤ n) (hd : n ∣ m) (h1 : m ≤ t) (h2 : t < m + n) : m = fl t n := by
  obtain ⟨k, rfl⟩ := hd
  have h3 := fl_le t n hn
  have h4 := lt_fl t n hn
  rw [fl_mul] at h3 h4 ⊢
  have a : k < t / n + 1 := Int.lt_of_mul_lt_mul_left (a := n) (by rw [Int.mul_add]; omega) (by omega)
  have b : t / n < k + 1 := Int.lt_of_mul_lt_mul_left (a := n) (by rw [Int.mul_add]; omega) (by omega)
  rw [show k = t / n by omega]
theorem fl_of_dvd {t n : Int} (hn : 1 ≤ n) (hd : n ∣ t) : fl t n = t := (fl_uniq hn hd (Int.le_refl t) (by omega)).symm
theorem fl_mono {s t n : Int} (hn : 1 ≤ n) (h : s ≤ t) : fl s n ≤ fl t n := by
  rw [fl_mul, fl_mul]
  exact Int.mul_le_mul_of_nonneg_left (Int.ediv_le_ediv (by omega) h) (by omega)
/-- a multiple that is not above t is not above its floor -/
theorem le_fl {t n m : Int} (hn : 1 ≤ n) (hd : n ∣ m) (h : m ≤ t) : m ≤ fl t n := by
  have := fl_mono hn h
  rwa [fl_of_dvd hn hd] at this
theorem dvd_ce (t n : Int) : n ∣ ce t n := Int.dvd_neg.2 (dvd_fl _ _)
theorem le_ce (t n : Int) (hn : 1 ≤ n) : t ≤ ce t n := by have := fl_le (-t) n hn; unfold ce; omega
theorem ce_lt (t n : Int) (hn : 1 ≤ n) : ce t n < t + n := by have := lt_fl (-t) n hn; unfold ce; omega
theorem ce_le {t n m : Int} (hn : 1 ≤ n) (hd : n ∣ m) (h : t ≤ m) : ce t n ≤ m := by
  have := le_fl (t := -t) hn (Int.dvd_neg.2 hd) (by omega)
  unfold ce; omega
theorem ce_mono {s t n : Int} (hn : 1 ≤ n) (h : s ≤ t) : ce s n ≤ ce t n := by
  have := fl_mono (s := -t) (t := -s) hn (by omega)
  unfold ce; omega
theorem ce_of_dvd {t n : Int} (hn : 1 ≤ n) (hd : n ∣ t) : ce t n = t := by
  unfold ce; rw [fl_of_dvd hn (Int.dvd_neg.2 hd)]; omega
/-- between two multiples of n that are not one lies at least n -/
theorem dvd_gap {n a b : Int} (hn : 1 ≤ n) (ha : n ∣ a) (hb : n ∣ b) (h : a < b) : a + n ≤ b := by
  obtain ⟨k, rfl⟩ := ha; obtain ⟨l, rfl⟩ := hb
  have : k < l := Int.lt_of_mul_lt_mul_left h (by omega)
  have := Int.mul_le_mul_of_nonneg_left (show k + 1 ≤ l by omega) (show (0 : Int) ≤ n by omega)
  rw [Int.mul_add] at this; omega
theorem ce_fl (t n : Int) (hn : 1 ≤ n) : ce t n = if t = fl t n then t else fl t n + n := by
  split
  · rename_i h; exact ce_of_dvd hn (h ▸ dvd_fl t n)
  · rename_i h
    have h1 := fl_le t n hn
    have h2 := lt_fl t n hn
    have h3 := ce_le (t := t) (m := fl t n + n) hn (Int.dvd_add (dvd_fl t n) (Int.dvd_refl n)) (by omega)
    have h4 := le_ce t n hn
    have := dvd_gap hn (dvd_fl t n) (dvd_ce t n) (by omega)
    omega

/-! spans -/
def andF (f1 t1 f2 t2 : Int) : Int := if min t1 t2 ≤ max f1 f2 then 0 else max f1 f2
def andT (f1 t1 f2 t2 : Int) : Int := if min t1 t2 ≤ max f1 f2 then 0 else min t1 t2
def timeB (t : Int) : Bool := decide (-4611686018427387904 ≤ t) && decide (t ≤ 4611686018427387903)
def widthB (n : Int) : Bool := decide (1 ≤ n) && decide (n ≤ 1099511627776)
def boundB (t : Int) : Bool := decide (-4611687117939015680 ≤ t) && decide (t ≤ 4611687117939015679)
def emptyB (f t : Int) : Bool := decide (t ≤ f)
def hasB (f t x : Int) : Bool := decide (f ≤ x) && decide (x < t)

theorem timeB_iff {t : Int} : timeB t = true ↔ -4611686018427387904 ≤ t ∧ t ≤ 4611686018427387903 := by simp [timeB]
theorem widthB_iff {t : Int} : widthB t = true ↔ 1 ≤ t ∧ t ≤ 1099511627776 := by simp [widthB]
theorem boundB_iff {t : Int} : boundB t = true ↔ -4611687117939015680 ≤ t ∧ t ≤ 4611687117939015679 := by simp [boundB]
theorem emptyB_iff {f t : Int} : emptyB f t = true ↔ t ≤ f := by simp [emptyB]
theorem hasB_iff {f t x : Int} : hasB f t x = true ↔ f ≤ x ∧ x < t := by simp [hasB]
/-- what is wrong with a width, and numbers -/
def wrongN (n : Int) (l : List Int) : Int := if widthB n = true then (if l.all boundB = true then 0 else 7) else 1
theorem wrongN_1 {n : Int} {l : List Int} (h : widthB n = false) : wrongN n l = 1 := by simp [wrongN, h]
theorem wrongN_0 {n : Int} {l : List Int} (h : widthB n = true) (hl : l.all boundB = true) : wrongN n l = 0 := by rw [wrongN, if_pos h, if_pos hl]
theorem wrongN_7 {n : Int} {l : List Int} (h : widthB n = true) (hl : l.all boundB = false) : wrongN n l = 7 := by simp [wrongN, h, hl]
theorem all_take_succ {l : List Int} {k : Nat} (hk : k < l.length) (h : (l.take k).all boundB = true) (hb : boundB (l.getD k 0) = true) : (l.take (k + 1)).all boundB = true := by
  rw [List.take_succ_eq_append_getElem hk, List.all_append, h]
  have : l.getD k 0 = l[k] := by simp [hk]
  rw [this] at hb
  simp [hb]
theorem all_false {l : List Int} {k : Nat} (hk : k < l.length) (hb : boundB (l.getD k 0) = false) : l.all boundB = false := by
  rw [List.all_eq_false]
  have : l.getD k 0 = l[k] := by simp [hk]
  rw [this] at hb
  exact ⟨l[k], List.getElem_mem _, by simp [hb]⟩
/-- a span, if it is not empty -/
def goodF (a b : Int) : Int := if b ≤ a then 0 else a
def goodT (a b : Int) : Int := if b ≤ a then 0 else b
theorem andF_self (a b : Int) : andF a b a b = goodF a b := by unfold andF goodF; rw [Int.min_self, Int.max_self]
theorem andT_self (a b : Int) : andT a b a b = goodT a b := by unfold andT goodT; rw [Int.min_self, Int.max_self]
def outF (f t n : Int) : Int := if t ≤ f then 0 else goodF (fl f n) (ce t n)
def outT (f t n : Int) : Int := if t ≤ f then 0 else goodT (fl f n) (ce t n)
def inF (f t n : Int) : Int := if t ≤ f then 0 else goodF (ce f n) (fl t n)
def inT (f t n : Int) : Int := if t ≤ f then 0 else goodT (ce f n) (fl t n)

theorem wrongN_ok {n : Int} {l : List Int} (h : wrongN n l = 0) : 1 ≤ n ∧ n ≤ 1099511627776 ∧ ∀ t ∈ l, -4611687117939015680 ≤ t ∧ t ≤ 4611687117939015679 := by
  unfold wrongN at h
  by_cases hw : widthB n = true
  · by_cases hl : l.all boundB = true
    · obtain ⟨h1, h2⟩ := widthB_iff.1 hw
      exact ⟨h1, h2, fun t ht => boundB_iff.1 (List.all_eq_true.1 hl t ht)⟩
    · rw [if_pos hw, if_neg hl] at h; omega
  · rw [if_neg hw] at h; omega
theorem wrongN_of {n : Int} {l : List Int} (h1 : 1 ≤ n) (h2 : n ≤ 1099511627776) (h : ∀ t ∈ l, -4611687117939015680 ≤ t ∧ t ≤ 4611687117939015679) : wrongN n l = 0 :=
  wrongN_0 (widthB_iff.2 ⟨h1, h2⟩) (List.all_eq_true.2 fun t ht => boundB_iff.2 (h t ht))
theorem wrongN_range (n : Int) (l : List Int) : 0 ≤ wrongN n l ∧ wrongN n l ≤ 7 := by
  unfold wrongN; split
  · split <;> omega
  · omega

/-! what spans have in common -/
theorem and_commF (f1 t1 f2 t2 : Int) : andF f2 t2 f1 t1 = andF f1 t1 f2 t2 := by unfold andF; rw [Int.min_comm, Int.max_comm]
theorem and_commT (f1 t1 f2 t2 : Int) : andT f2 t2 f1 t1 = andT f1 t1 f2 t2 := by unfold andT; rw [Int.min_comm, Int.max_comm]
theorem and_assocF (f1 t1 f2 t2 f3 t3 : Int) : andF f1 t1 (andF f2 t2 f3 t3) (andT f2 t2 f3 t3) = andF (andF f1 t1 f2 t2) (andT f1 t1 f2 t2) f3 t3 := by
  unfold andF andT; repeat' split
  all_goals omega
theorem and_assocT (f1 t1 f2 t2 f3 t3 : Int) : andT f1 t1 (andF f2 t2 f3 t3) (andT f2 t2 f3 t3) = andT (andF f1 t1 f2 t2) (andT f1 t1 f2 t2) f3 t3 := by
  unfold andF andT; repeat' split
  all_goals omega
theorem has_and (f1 t1 f2 t2 x : Int) : hasB (andF f1 t1 f2 t2) (andT f1 t1 f2 t2) x = (hasB f1 t1 x && hasB f2 t2 x) := by
  rw [Bool.eq_iff_iff, Bool.and_eq_true, hasB_iff, hasB_iff, hasB_iff]
  unfold andF andT; repeat' split
  all_goals omega
theorem and_zero {f1 t1 f2 t2 : Int} : emptyB (andF f1 t1 f2 t2) (andT f1 t1 f2 t2) = (andF f1 t1 f2 t2 == 0 && andT f1 t1 f2 t2 == 0) := by
  rw [Bool.eq_iff_iff, Bool.and_eq_true, emptyB_iff, beq_iff_eq, beq_iff_eq]
  unfold andF andT; repeat' split
  all_goals omega
theorem and_selfF {f t : Int} (h : emptyB f t = false) : andF f t f t = f := by
  have : ¬ t ≤ f := fun h' => by rw [emptyB_iff.2 h'] at h; cases h
  rw [andF_self, goodF, if_neg this]
theorem and_selfT {f t : Int} (h : emptyB f t = false) : andT f t f t = t := by
  have : ¬ t ≤ f := fun h' => by rw [emptyB_iff.2 h'] at h; cases h
  rw [andT_self, goodT, if_neg this]
end SpanP
