/- Rows of whole numbers in memory. -/
import Derived.Test.YtjnhkfjhkhbneaaSwap
import Derived.Test.YtjnhkfjhkhbneaaPlain6
namespace Go.Proofs.Ytjnhkfjhkhbneaa
open Go.RowKit SpanP

def encI (l : List Int) : List Value := l.map fun x => .int .i64 x
@[simp] theorem encI_length (l : List Int) : (encI l).length = l.length := by simp [encI]
theorem encI_one (l : List Int) : ∀ u ∈ encI l, u.oneCell' = true := by
  intro u hu
  obtain ⟨x, _, rfl⟩ := List.mem_map.1 hu
  rfl
/-- a slice of numbers that reads as a list -/
def RdI (w : World) (v : Value) (l : List Int) : Prop :=
  (v = .slice none 0 0 ∧ l = []) ∨
  ∃ b off cap, v = .slice (some ⟨b, off, none⟩) l.length cap ∧ b < w.heap.size ∧ l.length ≤ cap ∧ cap ≤ maxLen ∧ ∀ j u, (encI l)[j]? = some u → w.cell? ⟨b, off + j, none⟩ = some u
/-- .. that lies in a row of its own, at or beyond B -/
def OwI (w : World) (B : Nat) (v : Value) (l : List Int) : Prop := w.ownsRow B 2 1 v l.length (encI l)

theorem OwI.nil (w : World) (B : Nat) : OwI w B (.slice none 0 0) [] := World.ownsRow_nil w B 2 1
theorem OwI.parts {w : World} {B : Nat} {v : Value} {l : List Int} (h : OwI w B v l) : (v = .slice none 0 0 ∧ l = []) ∨ ∃ g cap, v = .slice (some ⟨g, 0, none⟩) l.length cap ∧ B ≤ g ∧ g < w.heap.size ∧ l.length ≤ cap ∧ cap ≤ maxLen := by
  rcases h.2 with ⟨hv, hn⟩ | ⟨g, cap, cur, rfl, hb, hg, hn, hm, hs, ht⟩
  · exact .inl ⟨hv, List.length_eq_zero_iff.1 hn⟩
  · exact .inr ⟨g, cap, rfl, hb, heap_lt hg, hn, hm⟩
theorem OwI.cell {w : World} {B g n cap : Nat} {l : List Int} (h : OwI w B (.slice (some ⟨g, 0, none⟩) n cap) l) (j : Nat) (hj : j < l.length) : w.cell? ⟨g, j, none⟩ = some (.int .i64 l[j]) := by
  have := World.ownsRow.cells h (g := g) rfl j (.int .i64 l[j]) (by simp [encI, List.getElem?_eq_getElem hj])
  rwa [Addr.add_lit, Nat.zero_add] at this
theorem OwI.rd {w : World} {B : Nat} {v : Value} {l : List Int} (h : OwI w B v l) : RdI w v l := by
  have h' := h
  rcases h.2 with ⟨hv, hn⟩ | ⟨g, cap, cur, rfl, hb, hg, hn, hm, hs, ht⟩
  · exact .inl ⟨hv, List.length_eq_zero_iff.1 hn⟩
  · refine .inr ⟨g, 0, cap, rfl, heap_lt hg, hn, hm, fun j u hj => ?_⟩
    have := World.ownsRow.cells h' (g := g) rfl j u hj
    rwa [Addr.add_lit] at this
theorem OwI.kept {w w' : World} {B : Nat} {v : Value} {l : List Int} (h : OwI w B v l) (hb : Below w.heap.size w w') : OwI w' B v l := by
  refine ⟨h.1, ?_⟩
  rcases h.2 with hn | ⟨g, cap, cur, hv, hb', hg, rest⟩
  · exact .inl hn
  · exact .inr ⟨g, cap, cur, hv, hb', heap_keep hb hg, rest⟩
theorem OwI.mono {w : World} {B B' : Nat} {v : Value} {l : List Int} (h : OwI w B v l) (hb : B' ≤ B) : OwI w B' v l := by
  refine ⟨h.1, ?_⟩
  rcases h.2 with hn | ⟨g, cap, cur, hv, hb', rest⟩
  · exact .inl hn
  · exact .inr ⟨g, cap, cur, hv, Nat.le_trans hb hb', rest⟩
/-- its first cells -/
theorem OwI.cut {w : World} {B g n cap : Nat} {l : List Int} (h : OwI w B (.slice (some ⟨g, 0, none⟩) n cap) l) (i : Nat) (hi : i ≤ l.length) : OwI w B (.slice (some ⟨g, 0, none⟩) i cap) (l.take i) := by
  have hl : (l.take i).length = i := by simp; omega
  unfold OwI
  rw [hl]
  refine ⟨by rw [encI_length, hl, Nat.mul_one], ?_⟩
  rcases h.2 with ⟨e, _⟩ | ⟨g', cap', cur, e, hb', hg, hn, hm, hs, ht⟩
  · cases e
  · simp only [Value.slice.injEq, Option.some.injEq, Addr.mk.injEq, and_true] at e
    obtain ⟨rfl, rfl, rfl⟩ := e
    refine .inr ⟨g, cap, cur, rfl, hb', hg, by omega, hm, hs, ?_⟩
    unfold encI at ht ⊢
    rw [List.map_take, ← ht, List.take_take]
    congr 1; omega
/-- what stands from k on -/
theorem OwI.tail {w : World} {B g n cap : Nat} {l : List Int} (h : OwI w B (.slice (some ⟨g, 0, none⟩) n cap) l) (k m c : Nat) (hm : m = (l.drop k).length) (hc : m ≤ c) (hc2 : c ≤ maxLen) :
    RdI w (.slice (some ⟨g, k, none⟩) m c) (l.drop k) := by
  refine .inr ⟨g, k, c, by rw [hm], (World.ownsRow.lt h g rfl).2, by rw [← hm]; exact hc, hc2, fun j u hj => ?_⟩
  have := World.ownsRow.cells h (g := g) rfl (k + j) u (by unfold encI at hj ⊢; rw [List.map_drop, List.getElem?_drop] at hj; exact hj)
  rwa [Addr.add_lit, Nat.zero_add] at this

theorem info2 : (Try.prog.info? 2).map (fun i => (i.zero, i.size, i.bytes)) = some (some (.int .i64 0), 1, 8) := by kernel_rfl

theorem run_append_i (ty : TypeId) {w : World} {B : Nat} {v xv : Value} {l m : List Int} (hown : OwI w B v l) (hr : RdI w xv m) (hB : B ≤ w.heap.size) (hlen : l.length + m.length ≤ 4398046511104) :
    ∃ v' w', (Builtin.append_ #[72, 72] ty #[v, xv]).run Try.prog w = .ok v' w' ∧ OwI w' B v' (l ++ m) ∧ Below B w w' ∧ w.grownBy w' v.ownBlock := by
  obtain ⟨i, hi, hz0, hz1, hz2⟩ := info_parts info2
  rcases hr with ⟨rfl, rfl⟩ | ⟨b, off, cap, rfl, hlt, h1, h2, h3⟩
  · exact ⟨v, w, run_append_owned_none (P := Try.prog) w B 72 ty 2 i 1 Try.underlying72 hi v _ _ hown, by simpa using hown, Below.refl _ _, World.grownBy.refl _ _⟩
  · obtain ⟨v', w', hrun, ho, hg, _⟩ := run_append_own (P := Try.prog) w B 72 ty 2 i (.int .i64 0) 1 8 Try.underlying72 hi hz0 hz1 hz2 rfl (by decide) v _ _ hown ⟨b, off, none⟩ m.length cap (encI m) (by simp)
      (fun j u hj => by rw [Addr.add_lit]; exact h3 j u hj) (encI_one m) (by simp only [maxLen]; omega) (by omega) hB
    refine ⟨v', w', hrun, ?_, (Below.refl B w).grown hg hB (fun k hk => (World.ownsRow.lt hown k hk).1), hg⟩
    unfold OwI
    rw [show encI (l ++ m) = encI l ++ encI m by simp [encI], List.length_append]; exact ho

/-- the append of a slice of numbers to one of its own -/
theorem wpList_append_i {w : World} {ops : Array Oper} {rest : List Oper} {o : Oper} {a : Act} {Q : Exit → Act → World → Prop} (hgd : o.guard = none) (s x : Operand)
    (ho : o.op = .call { callee := .builtin .append, args := #[s, x], argTypes := #[72, 72] })
    (B : Nat) (v xv : Value) (l m : List Int) (hs : a.eval s = v) (hown : OwI w B v l) (hx : a.eval x = xv) (hr : RdI w xv m) (hB : B ≤ w.heap.size) (hlen : l.length + m.length ≤ 4398046511104)
    (h : ∀ v' w', OwI w' B v' (l ++ m) → Below B w w' → w.grownBy w' v.ownBlock → wpList Try.prog ops Q rest (a.put o.dst v') w') : wpList Try.prog ops Q (o :: rest) a w := by
  refine wpList_plain hgd fun K hK => ?_
  obtain ⟨v', w', hrun, h2, h3, h4⟩ := run_append_i o.type hown hr hB hlen
  unfold Oper.wp execOp
  simp only [ho, resolve, invoke, builtin, Sem.run_bind, Sem.run_pure, Result.andThen_ok, List.map_toArray, List.map_cons, List.map_nil, hs, hx, hrun]
  exact hK _ _ (h v' w' h2 h3 h4)

theorem RdI.lit (w : World) (n : Int) : RdI (w.alloc (.cells #[.int .i64 n] 2)) (.slice (some ⟨w.heap.size, 0, none⟩) 1 1) [n] := by
  refine .inr ⟨w.heap.size, 0, 1, rfl, by simp, by simp, by simp [maxLen], fun j u hj => ?_⟩
  rw [cell_of_row _ _ _ _ _ _ (heap_alloc_new w _), Nat.zero_add]
  simpa [encI] using hj
end Go.Proofs.Ytjnhkfjhkhbneaa
