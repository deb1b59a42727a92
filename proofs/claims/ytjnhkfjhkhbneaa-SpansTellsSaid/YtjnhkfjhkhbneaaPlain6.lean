/- Plain facts on the document's answer: the ends of spans, rising, each once; the pieces between them. No program, no condition. -/
import Derived.Test.YtjnhkfjhkhbneaaPlain5
namespace SpanP

/-- numbers that rise -/
def Rise (l : List Int) : Prop := l.Pairwise (· < ·)
/-- a number more -/
def PutP (l : List Int) (n : Int) (r : List Int) : Prop := Rise r ∧ (∀ x, x ∈ r ↔ x = n ∨ x ∈ l) ∧ r.length ≤ l.length + 1

theorem put_there {l : List Int} {n : Int} {k : Nat} (hl : Rise l) (hk : l[k]? = some n) : PutP l n l :=
  ⟨hl, fun x => ⟨.inr, fun h => h.elim (fun e => by rw [e]; exact List.mem_of_getElem? hk) id⟩, by omega⟩
theorem put_new {l : List Int} {n : Int} {k : Nat} (hl : Rise l) (hlt : ∀ x ∈ l.take k, x < n) (hge : ∀ x, l[k]? = some x → n < x) : PutP l n (l.take k ++ [n] ++ l.drop k) := by
  have hd : ∀ x ∈ l.drop k, n < x := by
    intro x hx
    by_cases hk : k < l.length
    · have e := List.drop_eq_getElem_cons hk
      have h0 := hge l[k] (List.getElem?_eq_getElem hk)
      have hp : (l.drop k).Pairwise (· < ·) := hl.sublist (List.drop_sublist k l)
      rw [e] at hx hp
      rcases List.mem_cons.1 hx with rfl | hx
      · exact h0
      · have := (List.pairwise_cons.1 hp).1 x hx
        omega
    · rw [List.drop_eq_nil_of_le (by omega)] at hx; cases hx
  refine ⟨?_, fun x => ?_, ?_⟩
  · unfold Rise
    rw [List.append_assoc, List.pairwise_append]
    refine ⟨hl.sublist (List.take_sublist k l), ?_, fun x hx y hy => ?_⟩
    · rw [List.singleton_append, List.pairwise_cons]
      exact ⟨hd, hl.sublist (List.drop_sublist k l)⟩
    · have h1 := hlt x hx
      rcases List.mem_append.1 hy with hy | hy
      · rw [List.mem_singleton.1 hy]; exact h1
      · have := hd y hy; omega
  · rw [List.mem_append, List.mem_append, List.mem_singleton]
    have : x ∈ l ↔ x ∈ l.take k ∨ x ∈ l.drop k := by
      conv => lhs; rw [← List.take_append_drop k l]
      exact List.mem_append
    rw [this]
    constructor
    · rintro ((h | h) | h)
      · exact .inr (.inl h)
      · exact .inl h
      · exact .inr (.inr h)
    · rintro (h | h | h)
      · exact .inl (.inr h)
      · exact .inl (.inl h)
      · exact .inr h
  · simp only [List.length_append, List.length_take, List.length_drop, List.length_singleton]; omega

/-- all ends of spans that are not empty, rising -/
def EndsP (l : List Sp) (c : List Int) : Prop := Rise c ∧ (∀ x, x ∈ c ↔ ∃ s ∈ l, s.1 < s.2 ∧ (x = s.1 ∨ x = s.2)) ∧ c.length ≤ 2 * l.length
theorem EndsP.nil : EndsP [] [] := ⟨List.Pairwise.nil, fun x => by simp, by simp⟩
theorem EndsP.skip {l : List Sp} {c : List Int} {k : Nat} {x : Sp} (h : EndsP (l.take k) c) (hk : l[k]? = some x) (hx : ¬ x.1 < x.2) : EndsP (l.take (k + 1)) c := by
  obtain ⟨hkl, rfl⟩ := List.getElem?_eq_some_iff.1 hk
  refine ⟨h.1, fun y => ?_, ?_⟩
  · rw [h.2.1, List.take_succ_eq_append_getElem hkl]
    constructor
    · rintro ⟨s, hs, h1⟩; exact ⟨s, List.mem_append_left _ hs, h1⟩
    · rintro ⟨s, hs, h1, h2⟩
      rcases List.mem_append.1 hs with hs | hs
      · exact ⟨s, hs, h1, h2⟩
      · rw [List.mem_singleton.1 hs] at h1; exact absurd h1 hx
  · have := h.2.2
    rw [List.take_succ_eq_append_getElem hkl, List.length_append]; omega
theorem EndsP.step {l : List Sp} {c d e : List Int} {k : Nat} {x : Sp} (h : EndsP (l.take k) c) (hk : l[k]? = some x) (hx : x.1 < x.2) (h1 : PutP c x.1 d) (h2 : PutP d x.2 e) : EndsP (l.take (k + 1)) e := by
  obtain ⟨hkl, rfl⟩ := List.getElem?_eq_some_iff.1 hk
  refine ⟨h2.1, fun y => ?_, ?_⟩
  · rw [h2.2.1, h1.2.1, h.2.1, List.take_succ_eq_append_getElem hkl]
    constructor
    · rintro (h | h | ⟨s, hs, h1⟩)
      · exact ⟨_, List.mem_append_right _ (List.mem_singleton_self _), hx, .inr h⟩
      · exact ⟨_, List.mem_append_right _ (List.mem_singleton_self _), hx, .inl h⟩
      · exact ⟨s, List.mem_append_left _ hs, h1⟩
    · rintro ⟨s, hs, h3, h4⟩
      rcases List.mem_append.1 hs with hs | hs
      · exact .inr (.inr ⟨s, hs, h3, h4⟩)
      · rw [List.mem_singleton.1 hs] at h4
        exact h4.elim (fun e => .inr (.inl e)) .inl
  · have a := h.2.2; have b := h1.2.2; have c := h2.2.2
    rw [List.take_succ_eq_append_getElem hkl, List.length_append, List.length_singleton]; omega

/-- what is asked is the same between two neighbours -/
def CutP (c : List Int) (f : Int → Bool) : Prop :=
  Rise c ∧ (∀ i x y t, c[i]? = some x → c[i + 1]? = some y → x ≤ t → t < y → f t = f x) ∧ (∀ t x, c[0]? = some x → t < x → f t = false) ∧
  (∀ t x, c[c.length - 1]? = some x → x ≤ t → f t = false) ∧ (c = [] → ∀ t, f t = false)
theorem rise_between {c : List Int} (h : Rise c) {i : Nat} {x y z : Int} (hx : c[i]? = some x) (hy : c[i + 1]? = some y) (hz : z ∈ c) : z ≤ x ∨ y ≤ z := by
  obtain ⟨hi, rfl⟩ := List.getElem?_eq_some_iff.1 hx
  obtain ⟨hi', rfl⟩ := List.getElem?_eq_some_iff.1 hy
  obtain ⟨m, hm, rfl⟩ := List.mem_iff_getElem.1 hz
  have hp := List.pairwise_iff_getElem.1 h
  rcases Nat.lt_trichotomy m i with h1 | h1 | h1
  · exact .inl (Int.le_of_lt (hp m i hm hi h1))
  · subst h1; exact .inl (Int.le_refl _)
  · rcases Nat.lt_or_eq_of_le (show i + 1 ≤ m by omega) with h2 | h2
    · exact .inr (Int.le_of_lt (hp (i + 1) m hi' hm h2))
    · subst h2; exact .inr (Int.le_refl _)
theorem rise_first {c : List Int} (h : Rise c) {x z : Int} (hx : c[0]? = some x) (hz : z ∈ c) : x ≤ z := by
  obtain ⟨hi, rfl⟩ := List.getElem?_eq_some_iff.1 hx
  obtain ⟨m, hm, rfl⟩ := List.mem_iff_getElem.1 hz
  have hp := List.pairwise_iff_getElem.1 h
  rcases Nat.eq_zero_or_pos m with rfl | h1
  · exact Int.le_refl _
  · exact Int.le_of_lt (hp 0 m hi hm h1)
theorem rise_last {c : List Int} (h : Rise c) {x z : Int} (hx : c[c.length - 1]? = some x) (hz : z ∈ c) : z ≤ x := by
  obtain ⟨hi, rfl⟩ := List.getElem?_eq_some_iff.1 hx
  obtain ⟨m, hm, rfl⟩ := List.mem_iff_getElem.1 hz
  have hp := List.pairwise_iff_getElem.1 h
  rcases Nat.lt_or_eq_of_le (show m ≤ c.length - 1 by omega) with h1 | h1
  · exact Int.le_of_lt (hp m _ hm hi h1)
  · subst h1; exact Int.le_refl _
theorem has_between {c : List Int} (h : Rise c) {a : List Sp} (ha : ∀ s ∈ a, s.1 < s.2 → s.1 ∈ c ∧ s.2 ∈ c) {i : Nat} {x y t : Int} (hx : c[i]? = some x) (hy : c[i + 1]? = some y) (h1 : x ≤ t) (h2 : t < y) : hasL a t = hasL a x := by
  rw [Bool.eq_iff_iff, hasL_iff, hasL_iff]
  constructor
  · rintro ⟨s, hs, h3, h4⟩
    obtain ⟨e1, e2⟩ := ha s hs (by omega)
    have := rise_between h hx hy e1
    exact ⟨s, hs, by omega, by omega⟩
  · rintro ⟨s, hs, h3, h4⟩
    obtain ⟨e1, e2⟩ := ha s hs (by omega)
    have := rise_between h hx hy e2
    exact ⟨s, hs, by omega, by omega⟩
theorem has_before {c : List Int} (h : Rise c) {a : List Sp} (ha : ∀ s ∈ a, s.1 < s.2 → s.1 ∈ c ∧ s.2 ∈ c) {x t : Int} (hx : c[0]? = some x) (h1 : t < x) : hasL a t = false := by
  rw [← Bool.not_eq_true, hasL_iff]
  rintro ⟨s, hs, h3, h4⟩
  have := rise_first h hx (ha s hs (by omega)).1
  omega
theorem has_behind {c : List Int} (h : Rise c) {a : List Sp} (ha : ∀ s ∈ a, s.1 < s.2 → s.1 ∈ c ∧ s.2 ∈ c) {x t : Int} (hx : c[c.length - 1]? = some x) (h1 : x ≤ t) : hasL a t = false := by
  rw [← Bool.not_eq_true, hasL_iff]
  rintro ⟨s, hs, h3, h4⟩
  have := rise_last h hx (ha s hs (by omega)).2
  omega
theorem has_none {a : List Sp} (ha : ∀ s ∈ a, s.1 < s.2 → s.1 ∈ ([] : List Int) ∧ s.2 ∈ ([] : List Int)) (t : Int) : hasL a t = false := by
  rw [← Bool.not_eq_true, hasL_iff]
  rintro ⟨s, hs, h3, h4⟩
  have := (ha s hs (by omega)).1
  cases this
theorem cut_of {a b : List Sp} {c : List Int} (op : Bool → Bool → Bool) (h : EndsP (a ++ b) c) (h0 : op false false = false) : CutP c fun t => op (hasL a t) (hasL b t) := by
  have ha : ∀ s ∈ a, s.1 < s.2 → s.1 ∈ c ∧ s.2 ∈ c := fun s hs hlt => ⟨(h.2.1 _).2 ⟨s, List.mem_append_left _ hs, hlt, .inl rfl⟩, (h.2.1 _).2 ⟨s, List.mem_append_left _ hs, hlt, .inr rfl⟩⟩
  have hb : ∀ s ∈ b, s.1 < s.2 → s.1 ∈ c ∧ s.2 ∈ c := fun s hs hlt => ⟨(h.2.1 _).2 ⟨s, List.mem_append_right _ hs, hlt, .inl rfl⟩, (h.2.1 _).2 ⟨s, List.mem_append_right _ hs, hlt, .inr rfl⟩⟩
  refine ⟨h.1, fun i x y t hx hy h1 h2 => ?_, fun t x hx h1 => ?_, fun t x hx h1 => ?_, fun hc t => ?_⟩
  · dsimp only; rw [has_between h.1 ha hx hy h1 h2, has_between h.1 hb hx hy h1 h2]
  · dsimp only; rw [has_before h.1 ha hx h1, has_before h.1 hb hx h1, h0]
  · dsimp only; rw [has_behind h.1 ha hx h1, has_behind h.1 hb hx h1, h0]
  · subst hc
    dsimp only; rw [has_none ha, has_none hb, h0]

/-- the pieces ahead of the i-th end -/
def InvP (c : List Int) (f : Int → Bool) (i : Nat) (out : List Sp) : Prop :=
  Form out ∧ (∀ z ∈ out, ∀ x, c[i]? = some x → z.2 ≤ x) ∧ (∀ t x, c[i]? = some x → hasL out t = (decide (t < x) && f t)) ∧ out.length ≤ i
theorem InvP.start {c : List Int} {f : Int → Bool} (hc : CutP c f) : InvP c f 0 [] := by
  refine ⟨Form.nil, fun z hz => absurd hz List.not_mem_nil, fun t x hx => ?_, Nat.le_refl _⟩
  rw [hasL_nil]
  by_cases h : t < x
  · rw [hc.2.2.1 t x hx h, Bool.and_false]
  · rw [decide_eq_false h, Bool.false_and]
theorem cut_lt {c : List Int} {f : Int → Bool} (hc : CutP c f) {i : Nat} {x y : Int} (hx : c[i]? = some x) (hy : c[i + 1]? = some y) : x < y := by
  obtain ⟨hi, rfl⟩ := List.getElem?_eq_some_iff.1 hx
  obtain ⟨hi', rfl⟩ := List.getElem?_eq_some_iff.1 hy
  exact List.pairwise_iff_getElem.1 hc.1 i (i + 1) hi hi' (by omega)
theorem InvP.skip {c : List Int} {f : Int → Bool} {i : Nat} {out : List Sp} {x y : Int} (hc : CutP c f) (h : InvP c f i out) (hx : c[i]? = some x) (hy : c[i + 1]? = some y) (hf : f x = false) : InvP c f (i + 1) out := by
  have hlt := cut_lt hc hx hy
  refine ⟨h.1, fun z hz x' hx' => ?_, fun t x' hx' => ?_, by have := h.2.2.2; omega⟩
  · rw [hy] at hx'; cases hx'
    have := h.2.1 z hz x hx; omega
  · rw [hy] at hx'; cases hx'
    rw [h.2.2.1 t x hx]
    by_cases h1 : t < x
    · rw [decide_eq_true h1, decide_eq_true (show t < y by omega)]
    · rw [decide_eq_false h1, Bool.false_and]
      by_cases h2 : t < y
      · rw [hc.2.1 i x y t hx hy (by omega) h2, hf, Bool.and_false]
      · rw [decide_eq_false h2, Bool.false_and]
theorem InvP.join {c : List Int} {f : Int → Bool} {i : Nat} {q : List Sp} {z : Sp} {x y : Int} (hc : CutP c f) (h : InvP c f i (q ++ [z])) (hx : c[i]? = some x) (hy : c[i + 1]? = some y) (hf : f x = true) (hz : z.2 = x) : InvP c f (i + 1) (q ++ [(z.1, y)]) := by
  have hlt := cut_lt hc hx hy
  have hz1 := h.1.1 z (by simp)
  refine ⟨h.1.last rfl (by dsimp only; omega), fun s hs x' hx' => ?_, fun t x' hx' => ?_, ?_⟩
  · rw [hy] at hx'; cases hx'
    rcases List.mem_append.1 hs with hs | hs
    · have := h.2.1 s (List.mem_append_left _ hs) x hx; omega
    · rw [List.mem_singleton.1 hs]; exact Int.le_refl _
  · rw [hy] at hx'; cases hx'
    have h3 := h.2.2.1 t x hx
    rw [hasL_append, hasL_cons, hasL_nil, Bool.or_false] at h3 ⊢
    dsimp only
    by_cases h1 : t < x
    · rw [decide_eq_true h1, Bool.true_and] at h3
      rw [decide_eq_true (show t < y by omega), Bool.true_and, ← h3]
      congr 1
      rw [Bool.eq_iff_iff, hasB_iff, hasB_iff]; omega
    · rw [decide_eq_false h1, Bool.false_and, Bool.or_eq_false_iff] at h3
      rw [h3.1, Bool.false_or]
      by_cases h2 : t < y
      · rw [hc.2.1 i x y t hx hy (by omega) h2, hf, decide_eq_true h2]
        exact hasB_iff.2 (by omega)
      · rw [decide_eq_false h2, Bool.false_and, ← Bool.not_eq_true, hasB_iff]; omega
  · have := h.2.2.2
    simp only [List.length_append, List.length_singleton] at this ⊢; omega
theorem InvP.more {c : List Int} {f : Int → Bool} {i : Nat} {out : List Sp} {x y : Int} (hc : CutP c f) (h : InvP c f i out) (hx : c[i]? = some x) (hy : c[i + 1]? = some y) (hf : f x = true) (hl : ∀ q z, out = q ++ [z] → z.2 ≠ x) : InvP c f (i + 1) (out ++ [(x, y)]) := by
  have hlt := cut_lt hc hx hy
  refine ⟨?_, fun s hs x' hx' => ?_, fun t x' hx' => ?_, ?_⟩
  · rcases snoc_cases out with rfl | ⟨q, z, rfl⟩
    · exact Form.one hlt
    · have := h.2.1 z (by simp) x hx
      have := hl q z rfl
      exact h.1.snoc hlt (by dsimp only; omega)
  · rw [hy] at hx'; cases hx'
    rcases List.mem_append.1 hs with hs | hs
    · have := h.2.1 s hs x hx; omega
    · rw [List.mem_singleton.1 hs]; exact Int.le_refl _
  · rw [hy] at hx'; cases hx'
    have h3 := h.2.2.1 t x hx
    rw [hasL_append, hasL_cons, hasL_nil, Bool.or_false, h3]
    dsimp only
    by_cases h1 : t < x
    · rw [decide_eq_true h1, decide_eq_true (show t < y by omega), show hasB x y t = false by rw [← Bool.not_eq_true, hasB_iff]; omega, Bool.or_false]
    · rw [decide_eq_false h1, Bool.false_and, Bool.false_or]
      by_cases h2 : t < y
      · rw [hc.2.1 i x y t hx hy (by omega) h2, hf, decide_eq_true h2]
        exact hasB_iff.2 (by omega)
      · rw [decide_eq_false h2, Bool.false_and, ← Bool.not_eq_true, hasB_iff]; omega
  · have := h.2.2.2
    simp only [List.length_append, List.length_singleton]; omega
theorem InvP.done {c : List Int} {f : Int → Bool} {i : Nat} {out : List Sp} (hc : CutP c f) (h : InvP c f i out) (hi : i ≤ c.length - 1) (hn : ¬ i + 1 < c.length) : Form out ∧ ∀ t, hasL out t = f t := by
  refine ⟨h.1, fun t => ?_⟩
  by_cases hl : c = []
  · have h0 : out.length ≤ 0 := by have := h.2.2.2; rw [hl] at hi; simp at hi; omega
    have : out = [] := List.length_eq_zero_iff.1 (by omega)
    rw [this, hasL_nil, hc.2.2.2.2 hl t]
  · have hlen : 0 < c.length := List.length_pos_iff.2 hl
    obtain rfl : i = c.length - 1 := by omega
    have hx : c[c.length - 1]? = some (c[c.length - 1]'(by omega)) := List.getElem?_eq_getElem _
    rw [h.2.2.1 t _ hx]
    by_cases h1 : t < c[c.length - 1]'(by omega)
    · rw [decide_eq_true h1, Bool.true_and]
    · rw [decide_eq_false h1, Bool.false_and, hc.2.2.2.1 t _ hx (by omega)]

/-- which pieces are kept -/
def opB (how : Nat) (p q : Bool) : Bool := match how with
  | 0 => p || q
  | 1 => p && q
  | _ => p && !q
def opL (how : Nat) (a b : List Sp) : List Sp := match how with
  | 0 => orL a b
  | 1 => andL a b
  | _ => minusL a b
theorem opL_form : ∀ (how : Nat) (a b : List Sp), Form (opL how a b)
  | 0, a, b => orL_form a b
  | 1, a, b => andL_form a b
  | _ + 2, a, b => minusL_form a b
theorem hasL_opL : ∀ (how : Nat) (a b : List Sp) (t : Int), hasL (opL how a b) t = opB how (hasL a t) (hasL b t)
  | 0, a, b, t => hasL_orL a b t
  | 1, a, b, t => hasL_andL a b t
  | _ + 2, a, b, t => hasL_minusL a b t
theorem opB_ff : ∀ how : Nat, opB how false false = false
  | 0 => rfl
  | 1 => rfl
  | _ + 2 => rfl
theorem cut_op {a b : List Sp} {c : List Int} (how : Nat) (h : EndsP (a ++ b) c) : CutP c fun t => opB how (hasL a t) (hasL b t) := cut_of (opB how) h (opB_ff how)
theorem InvP.all {a b : List Sp} {c : List Int} {how i : Nat} {out : List Sp} (hc : CutP c fun t => opB how (hasL a t) (hasL b t)) (h : InvP c (fun t => opB how (hasL a t) (hasL b t)) i out) (hi : i ≤ c.length - 1) (hn : ¬ i + 1 < c.length) : out = opL how a b := by
  obtain ⟨h1, h2⟩ := h.done hc hi hn
  exact form_ext h1 (opL_form how a b) fun t => by rw [h2, hasL_opL]
theorem opL_nil (a : List Sp) : opL 0 a [] = ofL a := form_ext (opL_form 0 a []) (ofL_form a) fun t => by rw [hasL_opL, hasL_ofL]; simp [opB]

/-- what the document makes whole: each span, the empty ones too -/
theorem turn_all {turn : Sp → Sp} (hturn : ∀ s : Sp, s.2 ≤ s.1 → turn s = (0, 0)) (l : List Sp) : ofL (l.map turn) = ofL (turnL turn l) := ofL_ext fun t => by
  rw [Bool.eq_iff_iff, turn_has, hasL_iff]
  constructor
  · rintro ⟨r, hr, h1, h2⟩
    obtain ⟨s, hs, rfl⟩ := List.mem_map.1 hr
    refine ⟨s, hs, ?_, hasB_iff.2 ⟨h1, h2⟩⟩
    by_cases h : s.1 < s.2
    · exact h
    · rw [hturn s (by omega)] at h1 h2; dsimp only at h1 h2; omega
  · rintro ⟨s, hs, _, h⟩
    exact ⟨turn s, List.mem_map.2 ⟨s, hs, rfl⟩, hasB_iff.1 h⟩
theorem outS_empty (n : Int) (s : Sp) (h : s.2 ≤ s.1) : outS n s = (0, 0) := by
  obtain ⟨h1, h2⟩ := out_yes (n := n) h
  unfold outS; rw [h1, h2]
theorem inS_empty (n : Int) (s : Sp) (h : s.2 ≤ s.1) : inS n s = (0, 0) := by
  obtain ⟨h1, h2⟩ := in_yes (n := n) h
  unfold inS; rw [h1, h2]
theorem out_map (n : Int) (l : List Sp) : ofL (l.map (outS n)) = wOutL l n := turn_all (outS_empty n) l
theorem in_map (n : Int) (l : List Sp) : ofL ((ofL l).map (inS n)) = wInL l n := turn_all (inS_empty n) _
end SpanP
