/- Two elements of a list of spans exchanged in memory. -/
import Derived.Test.YtjnhkfjhkhbneaaTimes
import Derived.BigRegion
namespace Go.Proofs.Ytjnhkfjhkhbneaa
open Go.RowKit SpanP

theorem Ow.cells {w : World} {B n cap : Nat} {a : Option Addr} {m : List Sp} (h : Ow w B (.slice a n cap) m) (hn : 0 < m.length) :
    ∃ g, a = some ⟨g, 0, none⟩ ∧ B ≤ g ∧ g < w.heap.size ∧ ∀ i (h : i < m.length), w.cell? ⟨g, i * 2, none⟩ = some (.int .i64 m[i].1) ∧ w.cell? ⟨g, i * 2 + 1, none⟩ = some (.int .i64 m[i].2) := by
  rcases h.parts with ⟨_, rfl⟩ | ⟨g, cap', e, hB, hlt, _, _⟩
  · simp at hn
  · simp only [Value.slice.injEq] at e
    obtain ⟨rfl, rfl, rfl⟩ := e
    refine ⟨g, rfl, hB, hlt, fun i hi => ?_⟩
    have c0 := h.rd.cell0 i hi
    have c1 := h.rd.cell1 i hi
    rw [Nat.zero_add] at c0 c1
    exact ⟨c0, c1⟩

theorem flat_put : ∀ (m : List Sp) (i : Nat) (z : Sp), flat (m.set i z) = ((flat m).set (i * 2) (.int .i64 z.1)).set (i * 2 + 1) (.int .i64 z.2)
  | [], i, z => by simp
  | x :: m, 0, z => by simp [flat_cons]
  | x :: m, i + 1, z => by
    rw [List.set_cons_succ, flat_cons, flat_cons, flat_put m i z, show (i + 1) * 2 = i * 2 + 1 + 1 by omega, show i * 2 + 1 + 1 + 1 = (i * 2 + 1) + 1 + 1 from rfl]
    simp only [List.set_cons_succ]

/-- the same spans stand in both -/
def SameIn (m a : List Sp) : Prop := (∀ s, s ∈ m ↔ s ∈ a) ∧ m.length = a.length
theorem SameIn.refl (a : List Sp) : SameIn a a := ⟨fun _ => Iff.rfl, rfl⟩
theorem SameIn.swap {m a : List Sp} (h : SameIn m a) {j y : Nat} {x z : Sp} (hne : j ≠ y) (hx : m[j]? = some x) (hz : m[y]? = some z) : SameIn ((m.set j z).set y x) a := by
  have hj := (List.getElem?_eq_some_iff.1 hx).1
  have hy := (List.getElem?_eq_some_iff.1 hz).1
  refine ⟨fun s => Iff.trans ?_ (h.1 s), by simpa using h.2⟩
  rw [List.mem_iff_getElem?, List.mem_iff_getElem?]
  have at' : ∀ i, ((m.set j z).set y x)[i]? = if y = i then some x else if j = i then some z else m[i]? := by
    intro i
    rw [List.getElem?_set, List.getElem?_set]
    by_cases h1 : y = i
    · rw [if_pos h1, if_pos h1, if_pos (by simpa using hy)]
    · rw [if_neg h1, if_neg h1]
      by_cases h2 : j = i
      · rw [if_pos h2, if_pos h2, if_pos hj]
      · rw [if_neg h2, if_neg h2]
  constructor
  · rintro ⟨i, hi⟩
    rw [at'] at hi
    by_cases h1 : y = i
    · rw [if_pos h1] at hi; exact ⟨j, by rw [hx]; exact hi⟩
    · rw [if_neg h1] at hi
      by_cases h2 : j = i
      · rw [if_pos h2] at hi; exact ⟨y, by rw [hz]; exact hi⟩
      · rw [if_neg h2] at hi; exact ⟨i, hi⟩
  · rintro ⟨i, hi⟩
    by_cases h1 : j = i
    · subst h1
      exact ⟨y, by rw [at', if_pos rfl, ← hi, hx]⟩
    · by_cases h2 : y = i
      · subst h2
        exact ⟨j, by rw [at', if_neg (fun e => hne e.symm), if_pos rfl, ← hi, hz]⟩
      · exact ⟨i, by rw [at', if_neg h2, if_neg h1, hi]⟩
theorem SameIn.has {m a : List Sp} (h : SameIn m a) (t : Int) : hasL (m ++ a) t = hasL a t := by
  rw [hasL_append, Bool.eq_iff_iff, Bool.or_eq_true]
  constructor
  · rintro (h1 | h1)
    · obtain ⟨s, hs, h2⟩ := hasL_iff.1 h1
      exact hasL_iff.2 ⟨s, (h.1 s).1 hs, h2⟩
    · exact h1
  · exact .inr

/-- the world behind the exchange -/
theorem Ow.swap {w : World} {B g n cap : Nat} {m : List Sp} (h : Ow w B (.slice (some ⟨g, 0, none⟩) n cap) m) (hn : m.length = n) (hB : B ≤ g) (j y : Nat) (x z : Sp) :
    Ow ((((w.setCell ⟨g, j * 2, none⟩ (.int .i64 z.1)).setCell ⟨g, j * 2 + 1, none⟩ (.int .i64 z.2)).setCell ⟨g, y * 2, none⟩ (.int .i64 x.1)).setCell ⟨g, y * 2 + 1, none⟩ (.int .i64 x.2)).drew B (.slice (some ⟨g, 0, none⟩) n cap) ((m.set j z).set y x) ∧
    Below B w ((((w.setCell ⟨g, j * 2, none⟩ (.int .i64 z.1)).setCell ⟨g, j * 2 + 1, none⟩ (.int .i64 z.2)).setCell ⟨g, y * 2, none⟩ (.int .i64 x.1)).setCell ⟨g, y * 2 + 1, none⟩ (.int .i64 x.2)).drew := by
  refine ⟨?_, (((((Below.refl B w).setCell hB _).setCell hB _).setCell hB _).setCell hB _).drew⟩
  refine Ow.kept (w := (((w.setCell ⟨g, j * 2, none⟩ (.int .i64 z.1)).setCell ⟨g, j * 2 + 1, none⟩ (.int .i64 z.2)).setCell ⟨g, y * 2, none⟩ (.int .i64 x.1)).setCell ⟨g, y * 2 + 1, none⟩ (.int .i64 x.2)) ?_ ((Below.refl _ _).drew)
  subst hn
  unfold Ow at h ⊢
  have h4 := ((((h.stored (j * 2) (.int .i64 z.1)).1.stored (j * 2 + 1) (.int .i64 z.2)).1.stored (y * 2) (.int .i64 x.1)).1.stored (y * 2 + 1) (.int .i64 x.2)).1
  rw [flat_put, flat_put]
  simpa using h4
end Go.Proofs.Ytjnhkfjhkhbneaa
