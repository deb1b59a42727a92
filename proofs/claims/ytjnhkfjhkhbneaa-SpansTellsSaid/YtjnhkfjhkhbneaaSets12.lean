/- What the closure of spans.Minus does: a span that is not empty is put behind the others. -/
import Derived.Test.YtjnhkfjhkhbneaaSets11
namespace Go.Proofs.Ytjnhkfjhkhbneaa
open Go.RowKit SpanP

theorem run_append_sp_at (ty : TypeId) {w : World} {B : Nat} {v xv : Value} {l m : List Sp} (hown : Ow w B v l) (hr : Rd w xv m) (hB : B ≤ w.heap.size) (hlen : l.length + m.length ≤ 4398046511104) :
    ∃ v' w', (Builtin.append_ #[29, 29] ty #[v, xv]).run Try.prog w = .ok v' w' ∧ Ow w' B v' (l ++ m) ∧ w.grownBy w' v.ownBlock ∧ (v'.ownBlock = v.ownBlock ∨ v'.ownBlock = some w.heap.size) := by
  obtain ⟨i, hi, hz0, hz1, hz2⟩ := info_parts info23
  rcases hr with ⟨rfl, rfl⟩ | ⟨b, off, cap, rfl, hlt, h1, h2, h3⟩
  · exact ⟨v, w, run_append_owned_none (P := Try.prog) w B 29 ty 23 i 2 Try.underlying29 hi v _ _ hown, by simpa using hown, ⟨rfl, rfl, rfl, Nat.le_refl _, fun _ _ _ => rfl⟩, .inl rfl⟩
  · obtain ⟨v', w', hrun, ho, hg, _, hat⟩ := run_append_own_at (P := Try.prog) w B 29 ty 23 i (.agg #[.int .i64 0, .int .i64 0]) 2 16 Try.underlying29 hi hz0 hz1 hz2 rfl (by decide) v _ _ hown ⟨b, off, none⟩ m.length cap (flat m) (flat_length m)
      (fun j u hj => by rw [Addr.add_lit]; exact h3 j u hj) (flat_one m) (by simp only [maxLen]; omega) (by omega) hB
    refine ⟨v', w', hrun, ?_, hg, hat⟩
    unfold Ow
    rw [flat_append, List.length_append]; exact ho

theorem wpList_append_sp_at {w : World} {ops : Array Oper} {rest : List Oper} {o : Oper} {a : Act} {Q : Exit → Act → World → Prop} (hgd : o.guard = none) (s x : Operand)
    (ho : o.op = .call { callee := .builtin .append, args := #[s, x], argTypes := #[29, 29] })
    (B : Nat) (v xv : Value) (l m : List Sp) (hs : a.eval s = v) (hown : Ow w B v l) (hx : a.eval x = xv) (hr : Rd w xv m) (hB : B ≤ w.heap.size) (hlen : l.length + m.length ≤ 4398046511104)
    (h : ∀ v' w', Ow w' B v' (l ++ m) → w.grownBy w' v.ownBlock → (v'.ownBlock = v.ownBlock ∨ v'.ownBlock = some w.heap.size) → wpList Try.prog ops Q rest (a.put o.dst v') w') : wpList Try.prog ops Q (o :: rest) a w := by
  refine wpList_plain hgd fun K hK => ?_
  obtain ⟨v', w', hrun, h2, h3, h4⟩ := run_append_sp_at o.type hown hr hB hlen
  unfold Oper.wp execOp
  simp only [ho, resolve, invoke, builtin, Sem.run_bind, Sem.run_pure, Result.andThen_ok, List.map_toArray, List.map_cons, List.map_nil, hs, hx, hrun]
  exact hK _ _ (h v' w' h2 h3 h4)

theorem Ow.of_block {w w' : World} {B : Nat} {v : Value} {l : List Sp} (h : Ow w B v l) (hb : ∀ g, v.ownBlock = some g → w'.heap[g]? = w.heap[g]?) : Ow w' B v l := by
  refine ⟨h.1, ?_⟩
  rcases h.2 with hn | ⟨g, cap, cur, rfl, hb', hg, rest⟩
  · exact .inl hn
  · exact .inr ⟨g, cap, cur, rfl, hb', (hb g rfl).trans hg, rest⟩
/-- what a step keeps, besides two blocks -/
structure Fr (L : Nat) (vl v' : Value) (w w' : World) : Prop where
  below : Below L w w'
  block : ∀ k, k < w.heap.size → k ≠ L → vl.ownBlock ≠ some k → w'.heap[k]? = w.heap[k]?
  size : w.heap.size ≤ w'.heap.size
  own : v'.ownBlock = vl.ownBlock ∨ ∀ k, v'.ownBlock = some k → w.heap.size ≤ k

set_option maxRecDepth 100000 in
set_option maxHeartbeats 2000000 in
theorem cut_any (x : Sp) (L : Nat) (left : List Sp) (vl : Value) (w : World) (hL : w.heap[L]? = some (.cells #[vl] 29)) (ho : Ow w (L + 1) vl left) (hlen : left.length + 1 ≤ 4398046511104) :
    Calls Try.prog 56 #[.agg #[.int .i64 x.1, .int .i64 x.2], .pointer (some ⟨L, 0, none⟩)] w fun e w' => e = .returned (.tuple #[]) ∧ ∃ v', w'.heap[L]? = some (.cells #[v'] 29) ∧ Ow w' (L + 1) v' (left ++ [x].filter neS) ∧ Fr L vl v' w w' := by
  obtain ⟨f, t⟩ := x
  have O := Lib.hid ho
  have H := Lib.hid hL
  have hlt := heap_lt hL
  clear ho hL
  dsimp only
  cases hq : emptyB f t with
  | true =>
    have hn : [(f, t)].filter neS = [] := by rw [List.filter_cons_of_neg (by rw [Bool.not_eq_true, neS]; simp [hq])]; rfl
    rw [hn, List.append_nil]
    clear hn
    go_enter Try.func56, Try.ntmps56
    go_wp2_with fail
    refine (empty_as f t _ hq _).mono ?_
    rintro e w1 ⟨rfl, hb1⟩
    have b1 := ((Below.refl _ w).alloc (Nat.le_refl _) _).trans (hb1.mono (by simp))
    have B1 := Lib.hid b1
    clear b1 hb1
    go_wp2_with fail
    go_end0
    exact ⟨rfl, vl, heap_keep B1.out H.out, O.out.kept B1.out, ⟨B1.out.mono (Nat.le_of_lt hlt), fun k hk _ _ => B1.out.block k hk, B1.out.size, .inl rfl⟩⟩
  | false =>
    have hn : [(f, t)].filter neS = [(f, t)] := by rw [List.filter_cons_of_pos (by rw [neS]; simp [hq])]; rfl
    rw [hn]
    clear hn
    go_enter Try.func56, Try.ntmps56
    go_wp2_with fail
    refine (empty_as f t _ hq _).mono ?_
    rintro e w1 ⟨rfl, hb1⟩
    have hr1 := heap_keep hb1 (heap_alloc_new w (.cells #[.int .i64 f, .int .i64 t] 23))
    have v0 : w1.cell? ⟨w.heap.size, 0, none⟩ = some (.int .i64 f) := by rw [cell_of_row _ _ _ _ _ _ hr1]; rfl
    have v1 : w1.cell? ⟨w.heap.size, 1, none⟩ = some (.int .i64 t) := by rw [cell_of_row _ _ _ _ _ _ hr1]; rfl
    have b1 := ((Below.refl _ w).alloc (Nat.le_refl _) (.cells #[.int .i64 f, .int .i64 t] 23)).trans (hb1.mono (by simp))
    have HL1 := heap_keep b1 H.out
    have l0 : w1.cell? ⟨L, 0, none⟩ = some vl := by rw [cell_of_row _ _ _ _ _ _ HL1]; rfl
    have B1 := Lib.hid b1
    have O1 := Lib.hid (O.out.kept b1)
    have H1 := Lib.hid HL1
    have hs1 : L + 1 ≤ w1.heap.size := Nat.le_trans hlt B1.out.size
    clear hb1 hr1 b1 HL1
    go_wp2_with (at_builtin; refine wpList_append_sp_at rfl _ _ rfl (L + 1) vl _ left [(f, t)] rfl (O1.out.alloc _) rfl (Rd.lit' _ _ _ _ (by simp)) (Nat.le_trans hs1 ((Below.refl _ _).alloc (Nat.le_refl _) _).size) (by rw [List.length_singleton]; omega) ?_)
    intro v' w2 o2 g2 at2
    have hsz2 : w1.heap.size + 1 ≤ w2.heap.size := by have := g2.size; simpa using this
    have HL2 : w2.heap[L]? = some (.cells #[vl] 29) := by
      rw [g2.block L (by simp; omega) (by
        intro e
        have := (World.ownsRow.lt O1.out L e.symm).1
        omega)]
      rw [heap_alloc_old w1 _ (by omega)]
      exact H1.out
    have lc : w2.cell? ⟨L, 0, none⟩ = some vl := by rw [cell_of_row _ _ _ _ _ _ HL2]; rfl
    have lf : w2.frozen? ⟨L, 0, none⟩ = false := frozen_of_row _ _ _ _ _ HL2
    have Z := Lib.hid (And.intro HL2 (And.intro o2 (And.intro g2 at2)))
    have hsh : ∃ a n c, v' = .slice a n c := by
      rcases o2.parts with ⟨rfl, _⟩ | ⟨_, _, rfl, _⟩ <;> exact ⟨_, _, _, rfl⟩
    obtain ⟨a', n', c', rfl⟩ := hsh
    clear HL2 o2 g2 at2
    go_wp2_with fail
    go_end0
    obtain ⟨z1, z2, z3, z4⟩ := Z.out
    refine ⟨rfl, .slice a' n' c', ?_, ?_, ?_⟩
    · rw [heap_setCell_same w2 L 0 _ _ _ z1]; rfl
    · exact z2.of_block fun g hg => heap_setCell_other w2 ⟨L, 0, none⟩ g _ (by
        have := (World.ownsRow.lt z2 g hg).1
        show g ≠ L
        omega)
    · have keep : ∀ k, k < w.heap.size → k ≠ L → vl.ownBlock ≠ some k → (w2.setCell ⟨L, 0, none⟩ (.slice a' n' c')).heap[k]? = w.heap[k]? := fun k hk h1 h2 => by
        rw [heap_setCell_other w2 ⟨L, 0, none⟩ k _ h1, z3.block k (by simp; have := B1.out.size; omega) (fun e => h2 e.symm), heap_alloc_old w1 _ (by have := B1.out.size; omega)]
        exact B1.out.block k hk
      refine ⟨⟨?_, ?_, ?_, by simp; have := B1.out.size; omega, fun k hk => keep k (by omega) (by omega) (fun e => by
        have := (World.ownsRow.lt O.out k e).1
        omega)⟩, keep, by simp; have := B1.out.size; omega, ?_⟩
      · show w2.os = _
        rw [z3.os]; exact B1.out.os
      · show w2.tape = _
        rw [z3.tape]; exact B1.out.tape
      · show w2.output = _
        rw [z3.output]; exact B1.out.output
      · rcases z4 with h | h
        · exact .inl h
        · refine .inr fun k hk => ?_
          rw [h] at hk
          simp at hk
          have := B1.out.size
          omega
end Go.Proofs.Ytjnhkfjhkhbneaa
