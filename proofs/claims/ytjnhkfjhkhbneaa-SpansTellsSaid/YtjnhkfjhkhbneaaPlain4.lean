/- Plain facts on sets of whole numbers that are written as lists of spans. No program, no condition. -/
import Derived.Test.YtjnhkfjhkhbneaaPlain3
namespace SpanP

abbrev Sp := Int × Int
/-- the times of a list of spans -/
def hasL (l : List Sp) (t : Int) : Bool := l.any fun s => hasB s.1 s.2 t
def neS (s : Sp) : Bool := !emptyB s.1 s.2
/-- a list in form -/
def Form (l : List Sp) : Prop := (∀ s ∈ l, s.1 < s.2) ∧ l.Pairwise fun a b => a.2 < b.1

theorem neS_iff {s : Sp} : neS s = true ↔ s.1 < s.2 := by simp [neS, emptyB]
theorem neS_not {s : Sp} : neS s = false ↔ s.2 ≤ s.1 := by simp [neS, emptyB]
@[simp] theorem hasL_nil (t : Int) : hasL [] t = false := rfl
theorem hasL_cons (s : Sp) (l : List Sp) (t : Int) : hasL (s :: l) t = (hasB s.1 s.2 t || hasL l t) := by simp [hasL]
theorem hasL_append (a b : List Sp) (t : Int) : hasL (a ++ b) t = (hasL a t || hasL b t) := by simp [hasL]
theorem hasL_iff {l : List Sp} {t : Int} : hasL l t = true ↔ ∃ s ∈ l, s.1 ≤ t ∧ t < s.2 := by
  simp [hasL, hasB_iff]
theorem hasL_perm {a b : List Sp} (h : a.Perm b) (t : Int) : hasL a t = hasL b t := by
  rw [Bool.eq_iff_iff, hasL_iff, hasL_iff]
  constructor
  · rintro ⟨s, hs, h1⟩; exact ⟨s, h.mem_iff.1 hs, h1⟩
  · rintro ⟨s, hs, h1⟩; exact ⟨s, h.mem_iff.2 hs, h1⟩
theorem hasL_filter (l : List Sp) (t : Int) : hasL (l.filter neS) t = hasL l t := by
  rw [Bool.eq_iff_iff, hasL_iff, hasL_iff]
  constructor
  · rintro ⟨s, hs, h1⟩; exact ⟨s, (List.mem_filter.1 hs).1, h1⟩
  · rintro ⟨s, hs, h1, h2⟩; exact ⟨s, List.mem_filter.2 ⟨hs, neS_iff.2 (by omega)⟩, h1, h2⟩

theorem Form.nil : Form [] := ⟨fun _ h => (by cases h), List.Pairwise.nil⟩
theorem Form.tail {x : Sp} {l : List Sp} (h : Form (x :: l)) : Form l := ⟨fun s hs => h.1 s (List.mem_cons_of_mem _ hs), (List.pairwise_cons.1 h.2).2⟩
theorem Form.one {x : Sp} (h : x.1 < x.2) : Form [x] := ⟨fun s hs => by rw [List.mem_singleton.1 hs]; exact h, List.pairwise_singleton _ _⟩
theorem Form.rest {x : Sp} {l : List Sp} (h : Form (x :: l)) : ∀ s ∈ l, x.2 < s.1 := (List.pairwise_cons.1 h.2).1
theorem Form.not_rest {x : Sp} {l : List Sp} (h : Form (x :: l)) {t : Int} (ht : t ≤ x.2) : hasL l t = false := by
  rw [← Bool.not_eq_true, hasL_iff]
  rintro ⟨s, hs, h1, _⟩
  have := h.rest s hs
  omega

/-- EACH SET HAS JUST ONE LIST -/
theorem form_ext : ∀ {a b : List Sp}, Form a → Form b → (∀ t, hasL a t = hasL b t) → a = b
  | [], [], _, _, _ => rfl
  | [], y :: b, _, hb, h => by
    have := h y.1
    rw [hasL_cons, (hasB_iff (f := y.1) (t := y.2) (x := y.1)).2 ⟨Int.le_refl _, hb.1 y (by simp)⟩] at this
    cases this
  | x :: a, [], ha, _, h => by
    have := h x.1
    rw [hasL_cons, (hasB_iff (f := x.1) (t := x.2) (x := x.1)).2 ⟨Int.le_refl _, ha.1 x (by simp)⟩] at this
    cases this
  | x :: a, y :: b, ha, hb, h => by
    have hx := ha.1 x (by simp)
    have hy := hb.1 y (by simp)
    have key : ∀ t, t ≤ x.2 → t ≤ y.2 → hasB x.1 x.2 t = hasB y.1 y.2 t := fun t h1 h2 => by
      have := h t
      rwa [hasL_cons, hasL_cons, ha.not_rest h1, hb.not_rest h2, Bool.or_false, Bool.or_false] at this
    have e1 : x.1 = y.1 := by
      rcases Int.lt_trichotomy x.1 y.1 with h' | h' | h'
      · have := key x.1 (by omega) (by omega)
        rw [Bool.eq_iff_iff, hasB_iff, hasB_iff] at this; omega
      · exact h'
      · have := key y.1 (by omega) (by omega)
        rw [Bool.eq_iff_iff, hasB_iff, hasB_iff] at this; omega
    have e2 : x.2 = y.2 := by
      rcases Int.lt_trichotomy x.2 y.2 with h' | h' | h'
      · have := key x.2 (by omega) (by omega)
        rw [Bool.eq_iff_iff, hasB_iff, hasB_iff] at this; omega
      · exact h'
      · have := key y.2 (by omega) (by omega)
        rw [Bool.eq_iff_iff, hasB_iff, hasB_iff] at this; omega
    have exy : x = y := Prod.ext e1 e2
    subst exy
    rw [form_ext ha.tail hb.tail fun t => ?_]
    by_cases ht : t ≤ x.2
    · rw [ha.not_rest ht, hb.not_rest ht]
    · have := h t
      have n : hasB x.1 x.2 t = false := by rw [← Bool.not_eq_true, hasB_iff]; omega
      rwa [hasL_cons, hasL_cons, n, Bool.false_or, Bool.false_or] at this

theorem Form.snoc {o : List Sp} {z s : Sp} (h : Form (o ++ [z])) (hs : s.1 < s.2) (hz : z.2 < s.1) : Form (o ++ [z] ++ [s]) := by
  have hz' := h.1 z (by simp)
  refine ⟨fun x hx => ?_, ?_⟩
  · rcases List.mem_append.1 hx with hx | hx
    · exact h.1 x hx
    · rw [List.mem_singleton.1 hx]; exact hs
  · rw [List.pairwise_append]
    refine ⟨h.2, List.pairwise_singleton _ _, fun x hx y hy => ?_⟩
    rw [List.mem_singleton.1 hy]
    rcases List.mem_append.1 hx with hx | hx
    · have := (List.pairwise_append.1 h.2).2.2 x hx z (by simp)
      omega
    · rw [List.mem_singleton.1 hx]; exact hz
theorem Form.last {o : List Sp} {z z' : Sp} (h : Form (o ++ [z])) (h1 : z'.1 = z.1) (h2 : z.2 ≤ z'.2) : Form (o ++ [z']) := by
  have hz' := h.1 z (by simp)
  refine ⟨fun x hx => ?_, ?_⟩
  · rcases List.mem_append.1 hx with hx | hx
    · exact h.1 x (List.mem_append_left _ hx)
    · rw [List.mem_singleton.1 hx]; omega
  · have := List.pairwise_append.1 h.2
    rw [List.pairwise_append]
    refine ⟨this.1, List.pairwise_singleton _ _, fun x hx y hy => ?_⟩
    rw [List.mem_singleton.1 hy, h1]
    exact this.2.2 x hx z (by simp)

/-- one span more, behind the others -/
def stepL (out : List Sp) (s : Sp) : List Sp :=
  match out.getLast? with
  | none => [s]
  | some z => if s.1 ≤ z.2 then out.dropLast ++ [(z.1, max z.2 s.2)] else out ++ [s]
def mergeL (l : List Sp) : List Sp := l.foldl stepL []
theorem stepL_nil (s : Sp) : stepL [] s = [s] := rfl
theorem stepL_join {o : List Sp} {z s : Sp} (h : s.1 ≤ z.2) : stepL (o ++ [z]) s = o ++ [(z.1, max z.2 s.2)] := by simp [stepL, h]
theorem stepL_apart {o : List Sp} {z s : Sp} (h : ¬ s.1 ≤ z.2) : stepL (o ++ [z]) s = o ++ [z] ++ [s] := by simp [stepL, h]
theorem stepL_length (o : List Sp) (s : Sp) : (stepL o s).length ≤ o.length + 1 := by
  unfold stepL; split
  · simp
  · split
    · rw [List.length_append, List.length_dropLast, List.length_singleton]; omega
    · simp

theorem snoc_cases (o : List Sp) : o = [] ∨ ∃ q z, o = q ++ [z] := by
  rcases List.eq_nil_or_concat o with h | ⟨q, z, h⟩
  · exact .inl h
  · exact .inr ⟨q, z, by rw [h, List.concat_eq_append]⟩

theorem merge_go : ∀ (l out : List Sp), Form out → (∀ s ∈ l, s.1 < s.2) → l.Pairwise (fun a b => a.1 ≤ b.1) → (∀ z ∈ out, ∀ s ∈ l, z.1 ≤ s.1) →
    Form (l.foldl stepL out) ∧ (∀ t, hasL (l.foldl stepL out) t = (hasL out t || hasL l t)) ∧ (l.foldl stepL out).length ≤ out.length + l.length
  | [], out, hf, _, _, _ => ⟨hf, fun t => by simp, by simp⟩
  | s :: l, out, hf, hn, hp, ho => by
    have hs := hn s (by simp)
    have hn' : ∀ s ∈ l, s.1 < s.2 := fun x hx => hn x (List.mem_cons_of_mem _ hx)
    obtain ⟨hp1, hp2⟩ := List.pairwise_cons.1 hp
    have step : Form (stepL out s) ∧ (∀ t, hasL (stepL out s) t = (hasL out t || hasB s.1 s.2 t)) ∧ (∀ z ∈ stepL out s, ∀ x ∈ l, z.1 ≤ x.1) := by
      rcases snoc_cases out with rfl | ⟨o, z, rfl⟩
      · refine ⟨Form.one hs, fun t => by simp [stepL_nil, hasL_cons], fun z hz x hx => ?_⟩
        rw [stepL_nil, List.mem_singleton] at hz
        rw [hz]; exact hp1 x hx
      · have hz : z.1 < z.2 := hf.1 z (by simp)
        have hzs : z.1 ≤ s.1 := ho z (by simp) s (by simp)
        by_cases h : s.1 ≤ z.2
        · rw [stepL_join h]
          refine ⟨hf.last rfl (Int.le_max_left _ _), fun t => ?_, fun x hx y hy => ?_⟩
          · rw [hasL_append, hasL_append, hasL_cons, hasL_cons, hasL_nil, Bool.or_false, Bool.or_false, Bool.or_assoc]
            congr 1
            rw [Bool.eq_iff_iff, Bool.or_eq_true, hasB_iff, hasB_iff, hasB_iff]
            dsimp only
            omega
          · rcases List.mem_append.1 hx with hx | hx
            · exact ho x (List.mem_append_left _ hx) y (List.mem_cons_of_mem _ hy)
            · rw [List.mem_singleton.1 hx]; exact ho z (by simp) y (List.mem_cons_of_mem _ hy)
        · rw [stepL_apart h]
          refine ⟨hf.snoc hs (by omega), fun t => by rw [hasL_append, hasL_cons, hasL_nil, Bool.or_false], fun x hx y hy => ?_⟩
          rcases List.mem_append.1 hx with hx | hx
          · exact ho x hx y (List.mem_cons_of_mem _ hy)
          · rw [List.mem_singleton.1 hx]; exact hp1 y hy
    obtain ⟨h1, h2, h3⟩ := merge_go l (stepL out s) step.1 hn' hp2 step.2.2
    refine ⟨h1, fun t => ?_, ?_⟩
    · rw [List.foldl_cons, h2, step.2.1, hasL_cons, Bool.or_assoc]
    · have := stepL_length out s
      rw [List.foldl_cons, List.length_cons]; omega

/-- the set of a list, in form -/
def ofL (l : List Sp) : List Sp := mergeL ((l.filter neS).mergeSort fun a b => decide (a.1 ≤ b.1))
theorem merge_sorted {l : List Sp} (hn : ∀ s ∈ l, s.1 < s.2) (hp : l.Pairwise fun a b => a.1 ≤ b.1) : Form (mergeL l) ∧ (∀ t, hasL (mergeL l) t = hasL l t) ∧ (mergeL l).length ≤ l.length := by
  have := merge_go l [] Form.nil hn hp (fun _ h => by cases h)
  exact ⟨this.1, fun t => by rw [mergeL, this.2.1]; simp, by have := this.2.2; simpa [mergeL] using this⟩
theorem ofL_all (l : List Sp) : Form (ofL l) ∧ (∀ t, hasL (ofL l) t = hasL l t) ∧ (ofL l).length ≤ l.length := by
  have hp := List.mergeSort_perm (l.filter neS) (fun a b => decide (a.1 ≤ b.1))
  have hs : ((l.filter neS).mergeSort fun a b => decide (a.1 ≤ b.1)).Pairwise fun a b => a.1 ≤ b.1 := by
    have := List.pairwise_mergeSort (le := fun a b : Sp => decide (a.1 ≤ b.1)) (fun a b c h1 h2 => by simp at *; omega) (fun a b => by simp; omega) (l.filter neS)
    exact this.imp fun h => by simpa using h
  obtain ⟨h1, h2, h3⟩ := merge_sorted (fun s h => neS_iff.1 (List.mem_filter.1 (hp.mem_iff.1 h)).2) hs
  refine ⟨h1, fun t => ?_, ?_⟩
  · rw [ofL, h2, hasL_perm hp, hasL_filter]
  · have := hp.length_eq
    have := List.length_filter_le neS l
    rw [ofL]; omega
theorem ofL_form (l : List Sp) : Form (ofL l) := (ofL_all l).1
@[simp] theorem hasL_ofL (l : List Sp) (t : Int) : hasL (ofL l) t = hasL l t := (ofL_all l).2.1 t
theorem ofL_length (l : List Sp) : (ofL l).length ≤ l.length := (ofL_all l).2.2
/-- whichever way the spans that are not empty are sorted -/
theorem merge_eq {l d : List Sp} (hd : d.Perm (l.filter neS)) (hs : d.Pairwise fun a b => a.1 ≤ b.1) : mergeL d = ofL l := by
  obtain ⟨h1, h2, _⟩ := merge_sorted (fun s h => neS_iff.1 (List.mem_filter.1 (hd.mem_iff.1 h)).2) hs
  exact form_ext h1 (ofL_form l) fun t => by rw [h2, hasL_perm hd, hasL_filter, hasL_ofL]
theorem ofL_ext {a b : List Sp} (h : ∀ t, hasL a t = hasL b t) : ofL a = ofL b := form_ext (ofL_form a) (ofL_form b) fun t => by rw [hasL_ofL, hasL_ofL, h]
theorem ofL_of_form {a : List Sp} (h : Form a) : ofL a = a := form_ext (ofL_form a) h fun t => hasL_ofL a t

/-- what two spans have in common -/
def andS (x y : Sp) : Sp := (andF x.1 x.2 y.1 y.2, andT x.1 x.2 y.1 y.2)
def pairL (x : Sp) (b : List Sp) : List Sp := (b.map (andS x)).filter neS
def pairsL (a b : List Sp) : List Sp := a.flatMap fun x => pairL x b
def orL (a b : List Sp) : List Sp := ofL (a ++ b)
def andL (a b : List Sp) : List Sp := ofL (pairsL (ofL a) (ofL b))
theorem pairL_length (x : Sp) (b : List Sp) : (pairL x b).length ≤ b.length := by
  have := List.length_filter_le neS (b.map (andS x)); simpa [pairL] using this
theorem pairsL_length : ∀ (a b : List Sp), (pairsL a b).length ≤ a.length * b.length
  | [], b => by simp [pairsL]
  | x :: a, b => by
    have h1 := pairL_length x b
    have h2 := pairsL_length a b
    simp only [pairsL, List.flatMap_cons, List.length_append, List.length_cons, Nat.add_mul, Nat.one_mul] at *
    omega
theorem hasL_pairL (x : Sp) (b : List Sp) (t : Int) : hasL (pairL x b) t = (hasB x.1 x.2 t && hasL b t) := by
  rw [pairL, hasL_filter]
  induction b with
  | nil => simp
  | cons y b ih =>
    rw [List.map_cons, hasL_cons, hasL_cons, ih, andS, has_and]
    cases hasB x.1 x.2 t <;> simp
theorem hasL_pairsL (a b : List Sp) (t : Int) : hasL (pairsL a b) t = (hasL a t && hasL b t) := by
  induction a with
  | nil => simp [pairsL]
  | cons x a ih =>
    rw [pairsL, List.flatMap_cons, hasL_append, hasL_pairL, ← pairsL, ih, hasL_cons]
    cases hasB x.1 x.2 t <;> cases hasL b t <;> simp
theorem orL_form (a b : List Sp) : Form (orL a b) := ofL_form _
@[simp] theorem hasL_orL (a b : List Sp) (t : Int) : hasL (orL a b) t = (hasL a t || hasL b t) := by rw [orL, hasL_ofL, hasL_append]
theorem orL_length (a b : List Sp) : (orL a b).length ≤ a.length + b.length := by have := ofL_length (a ++ b); simpa [orL] using this
theorem andL_form (a b : List Sp) : Form (andL a b) := ofL_form _
@[simp] theorem hasL_andL (a b : List Sp) (t : Int) : hasL (andL a b) t = (hasL a t && hasL b t) := by rw [andL, hasL_ofL, hasL_pairsL, hasL_ofL, hasL_ofL]
theorem andL_length (a b : List Sp) : (andL a b).length ≤ a.length * b.length :=
  Nat.le_trans (ofL_length _) (Nat.le_trans (pairsL_length _ _) (Nat.mul_le_mul (ofL_length a) (ofL_length b)))

/-- a span less another one -/
def cutS (y x : Sp) : List Sp := [(x.1, min x.2 y.1), (max x.1 y.2, x.2)].filter neS
def cutsL (y : Sp) (l : List Sp) : List Sp := l.flatMap (cutS y)
def minusL (a b : List Sp) : List Sp := (ofL b).foldl (fun o y => cutsL y o) (ofL a)
theorem cutS_mem {y x s : Sp} (h : s ∈ cutS y x) : s.1 < s.2 ∧ x.1 ≤ s.1 ∧ s.2 ≤ x.2 := by
  obtain ⟨h1, h2⟩ := List.mem_filter.1 h
  have h2 := neS_iff.1 h2
  simp only [List.mem_cons, List.not_mem_nil, or_false] at h1
  rcases h1 with rfl | rfl
  · dsimp only at *; omega
  · dsimp only at *; omega
theorem cutS_form {y : Sp} (x : Sp) (hy : y.1 < y.2) : Form (cutS y x) := by
  refine ⟨fun s h => (cutS_mem h).1, ?_⟩
  unfold cutS
  refine List.Pairwise.filter _ ?_ |>.imp (fun h => h)
  simp only [List.pairwise_cons, List.mem_singleton, forall_eq, List.not_mem_nil, false_implies, implies_true, List.Pairwise.nil, and_true]
  omega
theorem hasL_cutS {y : Sp} (x : Sp) (_hy : y.1 < y.2) (t : Int) : hasL (cutS y x) t = (hasB x.1 x.2 t && !hasB y.1 y.2 t) := by
  rw [cutS, hasL_filter, hasL_cons, hasL_cons, hasL_nil, Bool.or_false]
  dsimp only
  rw [Bool.eq_iff_iff, Bool.or_eq_true, Bool.and_eq_true, Bool.not_eq_true', ← Bool.not_eq_true, hasB_iff, hasB_iff, hasB_iff, hasB_iff]
  omega
theorem hasL_cutsL {y : Sp} (l : List Sp) (hy : y.1 < y.2) (t : Int) : hasL (cutsL y l) t = (hasL l t && !hasB y.1 y.2 t) := by
  induction l with
  | nil => simp [cutsL]
  | cons x l ih =>
    rw [cutsL, List.flatMap_cons, hasL_append, hasL_cutS x hy, ← cutsL, ih, hasL_cons]
    cases hasB x.1 x.2 t <;> cases hasL l t <;> simp
theorem cutsL_mem {y s : Sp} {l : List Sp} (h : s ∈ cutsL y l) : ∃ x ∈ l, s.1 < s.2 ∧ x.1 ≤ s.1 ∧ s.2 ≤ x.2 := by
  obtain ⟨x, hx, hs⟩ := List.mem_flatMap.1 h
  exact ⟨x, hx, cutS_mem hs⟩
theorem cutsL_form {y : Sp} (hy : y.1 < y.2) : ∀ {l : List Sp}, Form l → Form (cutsL y l)
  | [], _ => Form.nil
  | x :: l, h => by
    have h1 := cutS_form x hy
    have h2 := cutsL_form hy h.tail
    refine ⟨fun s hs => ?_, ?_⟩
    · obtain ⟨_, _, h3, _⟩ := cutsL_mem hs; exact h3
    · rw [cutsL, List.flatMap_cons, List.pairwise_append]
      refine ⟨h1.2, h2.2, fun s hs z hz => ?_⟩
      have a := cutS_mem hs
      obtain ⟨x', hx', b⟩ := cutsL_mem hz
      have := h.rest x' hx'
      omega
theorem cutS_length_le (y x : Sp) : (cutS y x).length ≤ 2 := List.length_filter_le _ _
theorem cutS_length {y x : Sp} (h : y.1 ≤ x.1 ∨ x.2 ≤ y.2) : (cutS y x).length ≤ 1 := by
  unfold cutS
  rcases h with h | h
  · rw [List.filter_cons_of_neg (by rw [Bool.not_eq_true, neS_not]; dsimp only; omega)]
    exact List.length_filter_le neS [_]
  · rw [List.filter_cons]
    have : List.filter neS [(max x.1 y.2, x.2)] = [] := by
      rw [List.filter_cons_of_neg (by rw [Bool.not_eq_true, neS_not]; dsimp only; omega)]; rfl
    rw [this]; split <;> simp
theorem cutsL_le {y : Sp} : ∀ {l : List Sp}, (∀ s ∈ l, y.1 ≤ s.1) → (cutsL y l).length ≤ l.length
  | [], _ => by simp [cutsL]
  | x :: l, h => by
    have h1 := cutS_length (y := y) (x := x) (.inl (h x (by simp)))
    have h2 := cutsL_le (y := y) (l := l) fun s hs => h s (List.mem_cons_of_mem _ hs)
    rw [cutsL, List.flatMap_cons, List.length_append, ← cutsL, List.length_cons]; omega
theorem cutsL_length {y : Sp} (hy : y.1 < y.2) : ∀ {l : List Sp}, Form l → (cutsL y l).length ≤ l.length + 1
  | [], _ => by simp [cutsL]
  | x :: l, h => by
    rw [cutsL, List.flatMap_cons, List.length_append, ← cutsL, List.length_cons]
    by_cases hx : y.1 ≤ x.1 ∨ x.2 ≤ y.2
    · have h1 := cutS_length hx
      have h2 := cutsL_length hy h.tail
      omega
    · have h1 := cutS_length_le y x
      have h2 := cutsL_le (y := y) (l := l) fun s hs => by have := h.rest s hs; have := h.1 x (by simp); omega
      omega
theorem cuts_go : ∀ (b o : List Sp), (∀ y ∈ b, y.1 < y.2) → Form o → Form (b.foldl (fun o y => cutsL y o) o) ∧ (∀ t, hasL (b.foldl (fun o y => cutsL y o) o) t = (hasL o t && !hasL b t)) ∧ (b.foldl (fun o y => cutsL y o) o).length ≤ o.length + b.length
  | [], o, _, h => ⟨h, fun t => by simp, by simp⟩
  | y :: b, o, hb, h => by
    have hy := hb y (by simp)
    obtain ⟨h1, h2, h3⟩ := cuts_go b (cutsL y o) (fun z hz => hb z (List.mem_cons_of_mem _ hz)) (cutsL_form hy h)
    refine ⟨h1, fun t => ?_, ?_⟩
    · rw [List.foldl_cons, h2, hasL_cutsL o hy, hasL_cons]
      cases hasL o t <;> cases hasB y.1 y.2 t <;> simp
    · have := cutsL_length hy h
      rw [List.foldl_cons, List.length_cons]; omega
theorem minusL_all (a b : List Sp) : Form (minusL a b) ∧ (∀ t, hasL (minusL a b) t = (hasL (ofL a) t && !hasL (ofL b) t)) ∧ (minusL a b).length ≤ (ofL a).length + (ofL b).length := cuts_go (ofL b) (ofL a) (ofL_form b).1 (ofL_form a)
theorem minusL_form (a b : List Sp) : Form (minusL a b) := (minusL_all a b).1
@[simp] theorem hasL_minusL (a b : List Sp) (t : Int) : hasL (minusL a b) t = (hasL a t && !hasL b t) := by rw [(minusL_all a b).2.1, hasL_ofL, hasL_ofL]
theorem minusL_length (a b : List Sp) : (minusL a b).length ≤ a.length + b.length := by
  have h1 := (minusL_all a b).2.2
  have h2 := ofL_length a
  have h3 := ofL_length b
  omega
theorem form_nil_iff {a : List Sp} (h : Form a) : a = [] ↔ ∀ t, hasL a t = false := by
  constructor
  · rintro rfl t; rfl
  · intro ht; exact form_ext h Form.nil fun t => by rw [ht]; rfl
end SpanP
