/- Plain facts on sets of whole numbers that are written as lists of spans: what is together, in common, taken away; what is made whole. No program, no condition. -/
import Derived.Test.YtjnhkfjhkhbneaaPlain4
namespace SpanP

def badS (s : Sp) : Bool := neS s && !(boundB s.1 && boundB s.2)
def badL (l : List Sp) : Bool := l.any badS
def turnL (turn : Sp → Sp) (l : List Sp) : List Sp := (l.filter neS).map turn
theorem turnL_step {turn : Sp → Sp} {l : List Sp} {k : Nat} (hk : k < l.length) (h : neS l[k] = true) : turnL turn (l.take (k + 1)) = turnL turn (l.take k) ++ [turn l[k]] := by
  unfold turnL
  rw [List.take_succ_eq_append_getElem hk, List.filter_append, List.filter_cons_of_pos h]; simp
theorem turnL_skip {turn : Sp → Sp} {l : List Sp} {k : Nat} (hk : k < l.length) (h : neS l[k] = false) : turnL turn (l.take (k + 1)) = turnL turn (l.take k) := by
  unfold turnL
  rw [List.take_succ_eq_append_getElem hk, List.filter_append, List.filter_cons_of_neg (by rw [h]; simp)]; simp
theorem turnL_length (turn : Sp → Sp) (l : List Sp) : (turnL turn l).length ≤ l.length := by unfold turnL; rw [List.length_map]; exact List.length_filter_le _ _
theorem badL_at {l : List Sp} {k : Nat} (hk : k < l.length) (h : badS l[k] = true) : badL l = true := List.any_eq_true.2 ⟨_, List.getElem_mem hk, h⟩
theorem badL_step {l : List Sp} {k : Nat} (hk : k < l.length) (h : badL (l.take k) = false) (h2 : badS l[k] = false) : badL (l.take (k + 1)) = false := by
  unfold badL at *
  rw [List.take_succ_eq_append_getElem hk, List.any_append, h]; simp [h2]
def outS (n : Int) (s : Sp) : Sp := (outF s.1 s.2 n, outT s.1 s.2 n)
def inS (n : Int) (s : Sp) : Sp := (inF s.1 s.2 n, inT s.1 s.2 n)
def wOutL (l : List Sp) (n : Int) : List Sp := ofL (turnL (outS n) l)
def wInL (l : List Sp) (n : Int) : List Sp := ofL (turnL (inS n) (ofL l))
def errW (l : List Sp) (n : Int) : Int := if widthB n = true then (if badL l = true then 7 else 0) else 1

theorem badL_not {l : List Sp} (h : badL l = false) : ∀ s ∈ l, s.1 < s.2 → boundB s.1 = true ∧ boundB s.2 = true := by
  intro s hs hlt
  have := List.any_eq_false.1 h s hs
  simp only [badS, neS_iff.2 hlt, Bool.true_and] at this
  cases h1 : boundB s.1 <;> cases h2 : boundB s.2 <;> simp_all
theorem badL_ofL {l : List Sp} (h : badL l = false) : badL (ofL l) = false := by
  unfold badL
  rw [List.any_eq_false]
  intro s hs
  have hlt := (ofL_form l).1 s hs
  have t1 : hasL (ofL l) s.1 = true := hasL_iff.2 ⟨s, hs, by omega⟩
  have t2 : hasL (ofL l) (s.2 - 1) = true := hasL_iff.2 ⟨s, hs, by omega⟩
  rw [hasL_ofL, hasL_iff] at t1 t2
  obtain ⟨a, ha, ha1, ha2⟩ := t1
  obtain ⟨b, hb, hb1, hb2⟩ := t2
  have A := badL_not h a ha (by omega)
  have B := badL_not h b hb (by omega)
  rw [boundB_iff, boundB_iff] at A B
  have h1 : boundB s.1 = true := boundB_iff.2 (by omega)
  have h2 : boundB s.2 = true := boundB_iff.2 (by omega)
  simp [badS, h1, h2]


/-! together, in common, taken away -/
theorem or_comm (a b : List Sp) : orL a b = orL b a := form_ext (orL_form _ _) (orL_form _ _) fun t => by simp [Bool.or_comm]
theorem and_comm (a b : List Sp) : andL a b = andL b a := form_ext (andL_form _ _) (andL_form _ _) fun t => by simp [Bool.and_comm]
theorem or_assoc (a b c : List Sp) : orL (orL a b) c = orL a (orL b c) := form_ext (orL_form _ _) (orL_form _ _) fun t => by simp [Bool.or_assoc]
theorem and_in_out (a b : List Sp) : andL (andL a b) (minusL a b) = [] := (form_nil_iff (andL_form _ _)).2 fun t => by
  simp only [hasL_andL, hasL_minusL]; cases hasL a t <;> cases hasL b t <;> rfl
theorem or_in_out (a b : List Sp) : orL (andL a b) (minusL a b) = ofL a := form_ext (orL_form _ _) (ofL_form _) fun t => by
  simp only [hasL_orL, hasL_andL, hasL_minusL, hasL_ofL]; cases hasL a t <;> cases hasL b t <;> rfl
theorem and_out (a b : List Sp) : andL (minusL a b) b = [] := (form_nil_iff (andL_form _ _)).2 fun t => by
  simp only [hasL_andL, hasL_minusL]; cases hasL a t <;> cases hasL b t <;> rfl
theorem minus_self (a : List Sp) : minusL a a = [] := (form_nil_iff (minusL_form _ _)).2 fun t => by
  simp only [hasL_minusL]; cases hasL a t <;> rfl
theorem minus_or (a b c : List Sp) : minusL a (orL b c) = minusL (minusL a b) c := form_ext (minusL_form _ _) (minusL_form _ _) fun t => by
  simp only [hasL_minusL, hasL_orL]; cases hasL a t <;> cases hasL b t <;> cases hasL c t <;> rfl

/-! made whole -/
theorem fl_bucket {n x u : Int} (hn : 1 ≤ n) : fl u n = fl x n ↔ fl x n ≤ u ∧ u < fl x n + n := by
  constructor
  · intro h; rw [← h]; exact ⟨fl_le u n hn, lt_fl u n hn⟩
  · rintro ⟨h1, h2⟩; exact (fl_uniq hn (dvd_fl x n) h1 h2).symm
theorem wOutL_form (l : List Sp) (n : Int) : Form (wOutL l n) := ofL_form _
theorem wInL_form (l : List Sp) (n : Int) : Form (wInL l n) := ofL_form _
theorem wOutL_length (l : List Sp) (n : Int) : (wOutL l n).length ≤ l.length := Nat.le_trans (ofL_length _) (turnL_length _ _)
theorem wInL_length (l : List Sp) (n : Int) : (wInL l n).length ≤ l.length := Nat.le_trans (ofL_length _) (Nat.le_trans (turnL_length _ _) (ofL_length _))
theorem turn_has {turn : Sp → Sp} {l : List Sp} {x : Int} : hasL (turnL turn l) x = true ↔ ∃ s ∈ l, s.1 < s.2 ∧ hasB (turn s).1 (turn s).2 x = true := by
  rw [hasL_iff]
  constructor
  · rintro ⟨r, hr, h1, h2⟩
    obtain ⟨s, hs, rfl⟩ := List.mem_map.1 hr
    obtain ⟨h3, h4⟩ := List.mem_filter.1 hs
    exact ⟨s, h3, neS_iff.1 h4, hasB_iff.2 ⟨h1, h2⟩⟩
  · rintro ⟨s, hs, hlt, h⟩
    exact ⟨turn s, List.mem_map.2 ⟨s, List.mem_filter.2 ⟨hs, neS_iff.2 hlt⟩, rfl⟩, hasB_iff.1 h⟩
theorem out_iff {n : Int} (hn : 1 ≤ n) (l : List Sp) (x : Int) : hasL (wOutL l n) x = true ↔ ∃ u, fl u n = fl x n ∧ hasL l u = true := by
  rw [wOutL, hasL_ofL, turn_has]
  constructor
  · rintro ⟨s, hs, hlt, h⟩
    dsimp only [outS] at h
    obtain ⟨h1, h2, h3⟩ := out_not (f := s.1) (t := s.2) hn hlt
    rw [h1, h2, hasB_iff, fl_le_iff hn, lt_ce_iff hn] at h
    by_cases c : s.1 ≤ fl x n
    · exact ⟨fl x n, (fl_bucket hn).2 ⟨by omega, by omega⟩, hasL_iff.2 ⟨s, hs, c, h.2⟩⟩
    · exact ⟨s.1, (fl_bucket hn).2 ⟨by omega, h.1⟩, hasL_iff.2 ⟨s, hs, by omega, hlt⟩⟩
  · rintro ⟨u, hu, h⟩
    obtain ⟨s, hs, h1, h2⟩ := hasL_iff.1 h
    obtain ⟨hu1, hu2⟩ := (fl_bucket hn).1 hu
    have hlt : s.1 < s.2 := by omega
    obtain ⟨g1, g2, g3⟩ := out_not (f := s.1) (t := s.2) hn hlt
    refine ⟨s, hs, hlt, ?_⟩
    dsimp only [outS]
    rw [g1, g2, hasB_iff, fl_le_iff hn, lt_ce_iff hn]
    omega
/-- the span of a list in form that a run of times lies in -/
theorem form_run : ∀ {l : List Sp}, Form l → ∀ {p q : Int}, p < q → (∀ u, p ≤ u → u < q → hasL l u = true) → ∃ s ∈ l, s.1 ≤ p ∧ q ≤ s.2
  | [], _, p, q, hpq, h => by have := h p (by omega) hpq; cases this
  | x :: l, hf, p, q, hpq, h => by
    by_cases hx : p ≤ x.2
    · by_cases hq : q ≤ x.2
      · have := h p (by omega) hpq
        have hx1 := hf.1 x (by simp)
        by_cases hp : x.1 ≤ p
        · exact ⟨x, by simp, hp, hq⟩
        · rw [hasL_cons, hf.not_rest (by omega), Bool.or_false, hasB_iff] at this; omega
      · have := h x.2 hx (by omega)
        rw [hasL_cons, hf.not_rest (Int.le_refl _), Bool.or_false, hasB_iff] at this; omega
    · obtain ⟨s, hs, h1, h2⟩ := form_run hf.tail hpq fun u h1 h2 => by
        have := h u h1 h2
        rw [hasL_cons, Bool.or_eq_true, hasB_iff] at this
        rcases this with this | this
        · omega
        · exact this
      exact ⟨s, List.mem_cons_of_mem _ hs, h1, h2⟩
theorem in_iff {n : Int} (hn : 1 ≤ n) (l : List Sp) (x : Int) : hasL (wInL l n) x = true ↔ ∀ u, fl u n = fl x n → hasL l u = true := by
  have key : ∀ s : Sp, s.1 < s.2 → (hasB (inS n s).1 (inS n s).2 x = true ↔ s.1 ≤ fl x n ∧ fl x n + n ≤ s.2) := by
    intro s hlt
    dsimp only [inS]
    by_cases h' : ce s.1 n < fl s.2 n
    · obtain ⟨h1, h2⟩ := in_not (n := n) hlt h'
      rw [h1, h2, hasB_iff, ce_le_iff hn, lt_fl_iff hn]
    · obtain ⟨h1, h2⟩ := in_small (f := s.1) (t := s.2) (n := n) (by omega)
      rw [h1, h2, hasB_iff, ← ce_le_iff hn, ← lt_fl_iff hn]
      omega
  rw [wInL, hasL_ofL, turn_has]
  constructor
  · rintro ⟨s, hs, hlt, h⟩ u hu
    rw [key s hlt] at h
    obtain ⟨hu1, hu2⟩ := (fl_bucket hn).1 hu
    rw [← hasL_ofL]
    exact hasL_iff.2 ⟨s, hs, by omega, by omega⟩
  · intro h
    obtain ⟨s, hs, h1, h2⟩ := form_run (ofL_form l) (p := fl x n) (q := fl x n + n) (by omega) fun u h1 h2 => by
      rw [hasL_ofL]; exact h u ((fl_bucket hn).2 ⟨h1, h2⟩)
    have hlt : s.1 < s.2 := by omega
    exact ⟨s, hs, hlt, (key s hlt).2 ⟨h1, h2⟩⟩
theorem in_false {n : Int} (hn : 1 ≤ n) (l : List Sp) (x : Int) : hasL (wInL l n) x = false ↔ ∃ u, fl u n = fl x n ∧ hasL l u = false := by
  rw [← Bool.not_eq_true, in_iff hn]
  constructor
  · intro h
    exact Classical.byContradiction fun h2 => h fun u hu => by
      cases e : hasL l u
      · exact absurd ⟨u, hu, e⟩ h2
      · rfl
  · rintro ⟨u, hu, e⟩ h
    rw [h u hu] at e; cases e

/-! the law on what is whole -/
theorem sub_minus {a b : List Sp} (h : ∀ t, hasL a t = true → hasL b t = true) : minusL a b = [] := (form_nil_iff (minusL_form _ _)).2 fun t => by
  rw [hasL_minusL]
  cases e : hasL a t
  · rfl
  · rw [h t e]; rfl
theorem in_sub {n : Int} (hn : 1 ≤ n) (a : List Sp) : minusL (wInL a n) a = [] := sub_minus fun t h => (in_iff hn a t).1 h t rfl
theorem out_sup {n : Int} (hn : 1 ≤ n) (a : List Sp) : minusL a (wOutL a n) = [] := sub_minus fun t h => (out_iff hn a t).2 ⟨t, rfl, h⟩
theorem out_out {n : Int} (hn : 1 ≤ n) (a : List Sp) : wOutL (wOutL a n) n = wOutL a n := form_ext (wOutL_form _ _) (wOutL_form _ _) fun t => by
  rw [Bool.eq_iff_iff, out_iff hn, out_iff hn]
  constructor
  · rintro ⟨u, hu, h⟩
    obtain ⟨v, hv, h⟩ := (out_iff hn a u).1 h
    exact ⟨v, hv.trans hu, h⟩
  · rintro ⟨u, hu, h⟩
    exact ⟨u, hu, (out_iff hn a u).2 ⟨u, rfl, h⟩⟩
theorem in_out {n : Int} (hn : 1 ≤ n) (a : List Sp) : wInL (wOutL a n) n = wOutL a n := form_ext (wInL_form _ _) (wOutL_form _ _) fun t => by
  rw [Bool.eq_iff_iff, in_iff hn, out_iff hn]
  constructor
  · intro h
    exact (out_iff hn a t).1 (h t rfl)
  · rintro ⟨u, hu, h⟩ v hv
    exact (out_iff hn a v).2 ⟨u, hu.trans hv.symm, h⟩
theorem has_one (f t x : Int) : hasL [(f, t)] x = hasB f t x := by simp [hasL_cons]
theorem len_pos {a : List Sp} (hf : Form a) : 0 < a.length ↔ ∃ t, hasL a t = true := by
  constructor
  · intro h
    obtain ⟨x, l, rfl⟩ : ∃ x l, a = x :: l := by cases a with | nil => simp at h | cons x l => exact ⟨x, l, rfl⟩
    exact ⟨x.1, hasL_iff.2 ⟨x, by simp, by omega, hf.1 x (by simp)⟩⟩
  · rintro ⟨t, h⟩
    cases a with
    | nil => cases h
    | cons x l => simp
theorem out_bucket {n : Int} (hn : 1 ≤ n) (a : List Sp) (x : Int) : decide (0 < (andL a [(fl x n, fl x n + n)]).length) = hasL (wOutL a n) x := by
  rw [Bool.eq_iff_iff, decide_eq_true_iff, len_pos (andL_form _ _), out_iff hn]
  constructor
  · rintro ⟨u, h⟩
    rw [hasL_andL, Bool.and_eq_true, has_one, hasB_iff] at h
    exact ⟨u, (fl_bucket hn).2 h.2, h.1⟩
  · rintro ⟨u, hu, h⟩
    exact ⟨u, by rw [hasL_andL, Bool.and_eq_true, has_one, hasB_iff]; exact ⟨h, (fl_bucket hn).1 hu⟩⟩
theorem in_bucket {n : Int} (hn : 1 ≤ n) (a : List Sp) (x : Int) : decide ((minusL [(fl x n, fl x n + n)] a).length = 0) = hasL (wInL a n) x := by
  rw [Bool.eq_iff_iff, decide_eq_true_iff, List.length_eq_zero_iff, form_nil_iff (minusL_form _ _), in_iff hn]
  constructor
  · intro h u hu
    have := h u
    rw [hasL_minusL, has_one, hasB_iff.2 ((fl_bucket hn).1 hu)] at this
    simpa using this
  · intro h u
    rw [hasL_minusL, has_one]
    cases e : hasB (fl x n) (fl x n + n) u
    · rfl
    · rw [h u ((fl_bucket hn).2 (hasB_iff.1 e))]; rfl

/-! no error -/
theorem badL_sub {l m : List Sp} (h : ∀ t, hasL l t = true → hasL m t = true) (hm : badL m = false) : badL l = false := by
  unfold badL
  rw [List.any_eq_false]
  intro s hs
  by_cases hlt : s.1 < s.2
  · have t1 := h s.1 (hasL_iff.2 ⟨s, hs, by omega⟩)
    have t2 := h (s.2 - 1) (hasL_iff.2 ⟨s, hs, by omega⟩)
    rw [hasL_iff] at t1 t2
    obtain ⟨a, ha, ha1, ha2⟩ := t1
    obtain ⟨b, hb, hb1, hb2⟩ := t2
    have A := badL_not hm a ha (by omega)
    have B := badL_not hm b hb (by omega)
    rw [boundB_iff, boundB_iff] at A B
    have h1 : boundB s.1 = true := boundB_iff.2 (by omega)
    have h2 : boundB s.2 = true := boundB_iff.2 (by omega)
    simp [badS, h1, h2]
  · simp [badS, neS_not.2 (show s.2 ≤ s.1 by omega)]
/-- all spans' ends are times -/
def timesL (l : List Sp) : Prop := ∀ s ∈ l, timeB s.1 = true ∧ timeB s.2 = true
theorem badL_times {l : List Sp} (h : timesL l) : badL l = false := by
  unfold badL
  rw [List.any_eq_false]
  intro s hs
  obtain ⟨h1, h2⟩ := h s hs
  rw [timeB_iff] at h1 h2
  have h1 : boundB s.1 = true := boundB_iff.2 (by omega)
  have h2 : boundB s.2 = true := boundB_iff.2 (by omega)
  simp [badS, h1, h2]
/-- all buckets -/
def allL (n : Int) : List Sp := [(fl (-4611686018427387904) n, ce 4611686018427387903 n)]
theorem badL_all {n : Int} (hw : widthB n = true) : badL (allL n) = false := by
  rw [widthB_iff] at hw
  have h1 := fl_le (-4611686018427387904) n hw.1
  have h2 := lt_fl (-4611686018427387904) n hw.1
  have h3 := le_ce 4611686018427387903 n hw.1
  have h4 := ce_lt 4611686018427387903 n hw.1
  have b1 : boundB (fl (-4611686018427387904) n) = true := boundB_iff.2 (by omega)
  have b2 : boundB (ce 4611686018427387903 n) = true := boundB_iff.2 (by omega)
  simp [badL, badS, allL, b1, b2]
theorem all_has {n x : Int} (hn : 1 ≤ n) : hasL (allL n) x = true ↔ fl (-4611686018427387904) n ≤ fl x n ∧ fl x n + n ≤ ce 4611686018427387903 n := by
  rw [allL, has_one, hasB_iff]
  have d1 := dvd_fl (-4611686018427387904) n
  have d2 := dvd_ce 4611686018427387903 n
  have h1 := fl_le x n hn
  have h2 := lt_fl x n hn
  constructor
  · rintro ⟨h3, h4⟩
    exact ⟨le_fl hn d1 h3, dvd_gap hn (dvd_fl x n) d2 (by omega)⟩
  · rintro ⟨h3, h4⟩; omega
theorem all_bucket {n x u : Int} (hn : 1 ≤ n) (hu : fl u n = fl x n) : hasL (allL n) u = hasL (allL n) x := by
  rw [Bool.eq_iff_iff, all_has hn, all_has hn, hu]
theorem out_all {n : Int} (hn : 1 ≤ n) {l : List Sp} (h : ∀ t, hasL l t = true → hasL (allL n) t = true) : ∀ t, hasL (wOutL l n) t = true → hasL (allL n) t = true := by
  intro t ht
  obtain ⟨u, hu, h1⟩ := (out_iff hn l t).1 ht
  rw [← all_bucket hn hu]; exact h u h1
theorem times_all {n : Int} (hn : 1 ≤ n) {l : List Sp} (h : timesL l) : ∀ t, hasL l t = true → hasL (allL n) t = true := by
  intro t ht
  obtain ⟨s, hs, h1, h2⟩ := hasL_iff.1 ht
  obtain ⟨h3, h4⟩ := h s hs
  rw [timeB_iff] at h3 h4
  have g1 := fl_le (-4611686018427387904) n hn
  have g2 := le_ce 4611686018427387903 n hn
  rw [allL, has_one, hasB_iff]; omega
theorem errW_of {l : List Sp} {n : Int} (hw : widthB n = true) (h : badL l = false) : errW l n = 0 := by
  unfold errW; rw [if_pos hw, if_neg (by rw [h]; simp)]
theorem errW_times {l : List Sp} {n : Int} (hw : widthB n = true) (h : timesL l) : errW l n = 0 := errW_of hw (badL_times h)
theorem errW_sub {l m : List Sp} {n : Int} (hw : widthB n = true) (h : ∀ t, hasL l t = true → hasL m t = true) (hm : badL m = false) : errW l n = 0 := errW_of hw (badL_sub h hm)
theorem errW_out {l : List Sp} {n : Int} (hw : widthB n = true) (h : timesL l) : errW (wOutL l n) n = 0 :=
  errW_sub hw (out_all (widthB_iff.1 hw).1 (times_all (widthB_iff.1 hw).1 h)) (badL_all hw)

/-! the law on what is aligned -/
theorem align_out {n : Int} (hn : 1 ≤ n) (a b : List Sp) : wOutL (orL a b) n = orL (wOutL a n) (wOutL b n) := form_ext (wOutL_form _ _) (orL_form _ _) fun t => by
  rw [Bool.eq_iff_iff, hasL_orL, Bool.or_eq_true, out_iff hn, out_iff hn, out_iff hn]
  constructor
  · rintro ⟨u, hu, h⟩
    rw [hasL_orL, Bool.or_eq_true] at h
    exact h.imp (fun h => ⟨u, hu, h⟩) fun h => ⟨u, hu, h⟩
  · rintro (⟨u, hu, h⟩ | ⟨u, hu, h⟩)
    · exact ⟨u, hu, by rw [hasL_orL, h]; rfl⟩
    · exact ⟨u, hu, by rw [hasL_orL, h, Bool.or_true]⟩
theorem align_in {n : Int} (hn : 1 ≤ n) (a b : List Sp) : wInL (andL a b) n = andL (wInL a n) (wInL b n) := form_ext (wInL_form _ _) (andL_form _ _) fun t => by
  rw [Bool.eq_iff_iff, hasL_andL, Bool.and_eq_true, in_iff hn, in_iff hn, in_iff hn]
  constructor
  · intro h
    refine ⟨fun u hu => ?_, fun u hu => ?_⟩
    · have := h u hu; rw [hasL_andL, Bool.and_eq_true] at this; exact this.1
    · have := h u hu; rw [hasL_andL, Bool.and_eq_true] at this; exact this.2
  · rintro ⟨h1, h2⟩ u hu
    rw [hasL_andL, h1 u hu, h2 u hu]; rfl
theorem align_left {n : Int} (hn : 1 ≤ n) (a : List Sp) : wInL (minusL (allL n) a) n = minusL (allL n) (wOutL a n) := form_ext (wInL_form _ _) (minusL_form _ _) fun t => by
  rw [Bool.eq_iff_iff, hasL_minusL, Bool.and_eq_true, in_iff hn, Bool.not_eq_true', ← Bool.not_eq_true, out_iff hn]
  constructor
  · intro h
    refine ⟨?_, ?_⟩
    · have := h t rfl; rw [hasL_minusL, Bool.and_eq_true] at this; exact this.1
    · rintro ⟨u, hu, e⟩
      have := h u hu
      rw [hasL_minusL, e] at this; simp at this
  · rintro ⟨h1, h2⟩ u hu
    rw [hasL_minusL, all_bucket hn hu, h1]
    cases e : hasL a u
    · rfl
    · exact absurd ⟨u, hu, e⟩ h2
theorem errW_or {a b : List Sp} {n : Int} (hw : widthB n = true) (ha : timesL a) (hb : timesL b) : errW (orL a b) n = 0 :=
  errW_sub (m := a ++ b) hw (fun t h => by rw [hasL_append]; rwa [hasL_orL] at h) (badL_times fun s hs => (List.mem_append.1 hs).elim (ha s) (hb s))
theorem errW_and {a b : List Sp} {n : Int} (hw : widthB n = true) (ha : timesL a) : errW (andL a b) n = 0 :=
  errW_sub (m := a) hw (fun t h => by rw [hasL_andL, Bool.and_eq_true] at h; exact h.1) (badL_times ha)
theorem errW_left {a : List Sp} {n : Int} (hw : widthB n = true) : errW (minusL (allL n) a) n = 0 :=
  errW_sub (m := allL n) hw (fun t h => by rw [hasL_minusL, Bool.and_eq_true] at h; exact h.1) (badL_all hw)
end SpanP
