/- What spans.And answers: what two sets have in common. -/
import Derived.Maps.AppendAt
import Derived.RangeFuncBox
import Derived.Test.YtjnhkfjhkhbneaaSets14
namespace Go.Proofs.Ytjnhkfjhkhbneaa
open Go.RowKit SpanP
attribute [local go_sem] Oper.semAt_some

set_option maxHeartbeats 1000000 in
theorem both_any (va vb : Value) (w : World) (ha : ∃ a n c, va = .slice a n c) (hb : ∃ a n c, vb = .slice a n c) : Calls Try.prog 55 #[va, vb] w fun e w' => e = .returned (.func (.func 76) #[] #[.pointer (some ⟨w.heap.size, 0, none⟩), .pointer (some ⟨w.heap.size + 1, 0, none⟩)]) ∧ w' = (w.alloc (.cells #[va] 29)).alloc (.cells #[vb] 29) := by
  obtain ⟨a1, n1, c1, rfl⟩ := ha
  obtain ⟨a2, n2, c2, rfl⟩ := hb
  go_enter Try.func55, Try.ntmps55
  go_wp2
  go_ret
  exact ⟨rfl, rfl⟩

theorem wpListIn_append_sp_at {F : Fence} {n : Nat} (w : World) {ops : Array Oper} {rest : List Oper} {o : Oper} {a : Act} {Q : Exit → Act → World → Prop} (hgd : o.guard = none) (s x : Operand)
    (ho : o.op = .call { callee := .builtin .append, args := #[s, x], argTypes := #[29, 29] })
    (B : Nat) (v xv : Value) (l m : List Sp) (hs : a.eval s = v) (hown : Ow w B v l) (hx : a.eval x = xv) (hr : Rd w xv m) (hB : B ≤ w.heap.size) (hlen : l.length + m.length ≤ 4398046511104)
    (h : ∀ v' w', Ow w' B v' (l ++ m) → w.grownBy w' v.ownBlock → (v'.ownBlock = v.ownBlock ∨ v'.ownBlock = some w.heap.size) → wpListIn F n Try.prog ops Q rest (a.put o.dst v') w') : wpListIn F n Try.prog ops Q (o :: rest) a w := by
  refine wpListIn_plain hgd fun K hK' => ?_
  obtain ⟨v', w', hrun, r1, r2, r3⟩ := run_append_sp_at o.type hown hr hB hlen
  unfold Oper.wpIn
  refine ⟨?_, ?_⟩
  · simp [Oper.about, ho, resolve, Target.leads, Sem.run_pure]
  · rw [Oper.semAt_plain F _ _ (by rw [ho]; intro c hc'; cases hc')]
    simp [execOp, ho, resolve, invoke, builtin, hs, hx, hrun, Result.andThen]
    exact hK' _ _ (h v' w' r1 r2 r3)

theorem rowAt_box {L : Nat} {W : World} {t : TypeId} {v : Value} (h : Boxed W L t v) : rowAt L W = v.ownBlock := by
  unfold rowAt
  rw [show W.heap[L]? = _ from h]
  rfl

set_option maxRecDepth 100000 in
set_option maxHeartbeats 4000000 in
theorem and_set (va vb : Value) (a b : List Sp) (w : World) (hra : Rd w va a) (hrb : Rd w vb b) (hla : a.length ≤ 4398046511104) (hlb : b.length ≤ 4398046511104) (hab : a.length * b.length ≤ 4398046511104) :
    Calls Try.prog 21 #[va, vb] w fun e w' => ∃ v', e = .returned v' ∧ Ow w' w.heap.size v' (andL a b) ∧ Below w.heap.size w w' := by
  have f23 : Fence.wide.fn 23 := trivial
  have f55 : Fence.wide.fn 55 := trivial
  have f76 : Fence.wide.fn 76 := trivial
  have RA := Lib.hid hra
  have RB := Lib.hid hrb
  clear hra hrb
  refine (callsIn_wide (n := 10)).1 ?_
  refine callsIn_of_wp_marks Try.func21 rfl trivial ?_ rfl
  simp only [Try.ntmps21, List.size_toArray, List.length_cons, List.length_nil, Nat.reduceAdd, Nat.reduceSub, Array.replicate_succ, Array.replicate_zero, List.push_toArray, List.append_toArray, List.nil_append, List.cons_append]
  gi_wp2
  have hb0 := (Below.refl _ w).alloc (Nat.le_refl _) (.cells #[.slice none 0 0] 29)
  have hx0 : Boxed (w.alloc (.cells #[.slice none 0 0] 29)) w.heap.size 29 (.slice none 0 0) := Boxed.new w 29 _
  refine (callsIn_wide.2 (of_any va a _ (RA.out.below hb0) hla)).mono ?_
  rintro e w1 ⟨v1, rfl, o1, b1⟩
  have bx1 : Boxed w1 w.heap.size 29 (.slice none 0 0) := heap_keep b1 hx0
  have hb1 := hb0.trans (b1.mono (by simp))
  have O1 := Lib.hid o1.rd
  have OB1 := Lib.hid (fun k (e : v1.ownBlock = some k) => World.ownsRow.lt o1 k e)
  have BX1 := Lib.hid bx1
  have B1 := Lib.hid hb1
  clear hx0 hb0 o1 b1 bx1 hb1
  gi_wp2
  refine (callsIn_wide.2 (of_any vb b w1 (RB.out.below B1.out) hlb)).mono ?_
  rintro e w2 ⟨v2, rfl, o2, b2⟩
  have sh1 : ∃ a n c, v1 = .slice a n c := by obtain ⟨x, y, z, _⟩ := O1.out.shape; exact ⟨x, _, y, z⟩
  have sh2 : ∃ a n c, v2 = .slice a n c := by obtain ⟨x, y, z, _⟩ := o2.rd.shape; exact ⟨x, _, y, z⟩
  have hlt1 : w.heap.size < w1.heap.size := BX1.out.lt
  have R1 := Lib.hid (O1.out.below b2)
  have R2 := Lib.hid o2.rd
  have OB2 := Lib.hid (fun k (e : v2.ownBlock = some k) => World.ownsRow.lt o2 k e)
  have BX2 := Lib.hid (show Boxed w2 w.heap.size 29 (.slice none 0 0) from heap_keep b2 BX1.out)
  have B2 := Lib.hid (B1.out.trans (b2.mono B1.out.size))
  have hlt2 : w.heap.size < w2.heap.size := BX2.out.lt
  clear o2 b2
  gi_wp2
  refine (callsIn_wide.2 (both_any v1 v2 w2 sh1 sh2)).mono ?_
  rintro e w3 ⟨rfl, hw3⟩
  have hs3 : w3.heap.size = w2.heap.size + 1 + 1 := by rw [hw3]; simp
  have b3 : Below w2.heap.size w2 w3 := by rw [hw3]; exact ((Below.refl _ w2).alloc (Nat.le_refl _) _).alloc (by simp) _
  have cA : w3.cell? ⟨w2.heap.size, 0, none⟩ = some v1 := by
    have h := (Boxed.new w2 29 v1).alloc (.cells #[v2] 29)
    rw [← hw3] at h
    exact h.cell
  have cB : w3.cell? ⟨w2.heap.size + 1, 0, none⟩ = some v2 := by
    have h := Boxed.new (w2.alloc (.cells #[v1] 29)) 29 v2
    rw [← hw3, World.size_alloc] at h
    exact h.cell
  have bx3 : Boxed w3 w.heap.size 29 (.slice none 0 0) := heap_keep b3 BX2.out
  have hr3 : rowAt w.heap.size w3 = none := rowAt_box bx3
  have rp1 : RdP w.heap.size w3 v1 (ofL a) := ⟨R1.out.below b3, fun k e => ⟨by have := (OB1.out k e).1; simp at this; omega, by rw [hr3]; simp⟩⟩
  have rp2 : RdP w.heap.size w3 v2 (ofL b) := ⟨R2.out.below b3, fun k e => ⟨by have := (OB2.out k e).1; omega, by rw [hr3]; simp⟩⟩
  have B3 := Lib.hid (B2.out.trans (b3.mono B2.out.size))
  have hlt3 : w.heap.size < w3.heap.size := by omega
  have Z := Lib.hid (And.intro cA (And.intro cB (And.intro bx3 (And.intro hr3 (And.intro rp1 rp2)))))
  clear hw3 b3 cA cB bx3 hr3 rp1 rp2 sh1 sh2
  gi_wp2
  refine wpIn_rangeFunc_ownH (α := Sp) (encs := fun x => #[.agg #[.int .i64 x.1, .int .i64 x.2]]) (Kp := KpO w.heap.size w.heap.size) (S := fun ys => ys = pairsL (ofL a) (ofL b)) (Sp := fun _ => True) (N := (pairsL (ofL a) (ofL b)).length) (w0 := w3)
    rfl (by omega) (gf := 76) (lb := #[.pointer (some ⟨w2.heap.size, 0, none⟩), .pointer (some ⟨w2.heap.size + 1, 0, none⟩)]) rfl f76 (enters_of Try.func76 (by kernel_rfl) rfl) ?seq (fun h k => h.trans k)
    (fun W l o o' hl ho hc _ => KpO.put (s := w3.heap.size) (by omega) (by omega) W l o o' hl ho hc) (Below.refl _ _) (fun _ => rfl)
    (fun pre W => (∃ v, Boxed W w.heap.size 29 v ∧ W.ownsRow w.heap.size 23 2 v pre.length (flat pre) ∧ True) ∧ Below w.heap.size w W)
    (fun _ _ _ => False)
    (OwnFrom.and (Own.from (holdsRow_own w.heap.size w.heap.size 29 23 2 (fun pre : List Sp => pre.length) (fun pre => flat pre) (fun _ _ => True)) _) (ownFrom_below (Nat.le_refl _) (by omega)))
    (fun _ _ _ _ _ hs _ _ => hs)
    ⟨⟨_, Z.out.2.2.1, World.ownsRow_nil _ _ _ _, trivial⟩, B3.out⟩
    (fun x a' W => ∃ Bx, w.heap.size ≤ Bx ∧ W.heap[Bx]? = some (.cells #[.int .i64 x.1, .int .i64 x.2] 23) ∧ a' = { tmps := #[va, vb, undef, undef, .slice none 0 0, .pointer (some ⟨w.heap.size, 0, none⟩), .pointer (some ⟨Bx, 0, none⟩), va, v1, vb, v2, .func (.func 76) #[] #[.pointer (some ⟨w2.heap.size, 0, none⟩), .pointer (some ⟨w2.heap.size + 1, 0, none⟩)], .agg #[.int .i64 x.1, .int .i64 x.2], undef, undef, undef, undef, undef, undef], defers := [] })
    (fun x a' _ X Y row hs hg hr => by
      obtain ⟨Bx, h1, h2, h3⟩ := hs
      refine ⟨Bx, h1, ?_, h3⟩
      rw [hg.block Bx (heap_lt h2) (fun e => by
        obtain ⟨_, o, ho, hc⟩ := hr Bx e.symm
        rw [h2] at ho; cases ho; cases hc)]
      exact h2)
    ?assign ?body ?done ?stop
  case seq =>
    intro l J Jx W hW hJ _ hY h0
    have hsz := hW.size
    obtain ⟨cA, cB, bx, hr, rp1, rp2⟩ := Z.out
    have kk : KpO w.heap.size w.heap.size w3 W := KpO.of_below hW (by omega) hlt3
    have hrW : rowAt w.heap.size W = none := by rw [rowAt_same (hW.block _ hlt3)]; exact hr
    exact both1_in (10 - 1) (by omega) l w2.heap.size (w2.heap.size + 1) w.heap.size w.heap.size v1 v2 (ofL a) (ofL b) J Jx W hY hJ (by omega) (by omega) (fun k e => by rw [hrW] at e; cases e)
      ((hW.cell (p := ⟨w2.heap.size, 0, none⟩) (by show w2.heap.size < _; omega)).trans cA) ((hW.cell (p := ⟨w2.heap.size + 1, 0, none⟩) (by show w2.heap.size + 1 < _; omega)).trans cB) ⟨by omega, by rw [hrW]; simp⟩ (rp1.keep kk) (rp2.keep kk) h0
  case assign =>
    rintro l pre x W K ⟨⟨v, hv, hrow, _⟩, hB1⟩ hK
    have hlt := hv.lt
    gi_wp2
    exact hK _ _ ((KeepsOthers.alloc _ _).from _) (KpO.of_below ((Below.refl _ W).alloc (Nat.le_refl _) _) (by omega) hlt) ⟨⟨v, hv.alloc _, hrow.alloc _, trivial⟩, hB1.alloc hB1.size _⟩ ⟨W.heap.size, by omega, heap_alloc_new _ _, rfl⟩
  case body =>
    rintro l pre x a' W hl ⟨r, hr⟩ ⟨⟨v, hv, hrow, _⟩, hB1⟩ ⟨Bx, hBx, bX, rfl⟩ hlt
    obtain ⟨f, t⟩ := x
    dsimp only at bX ⊢
    have hvl := hv.lt
    have hpl : pre.length + 1 ≤ 4398046511104 := by
      have h1 := pairsL_length (ofL a) (ofL b)
      have h2 := Nat.mul_le_mul (ofL_length a) (ofL_length b)
      omega
    have x0 : W.cell? ⟨Bx, 0, none⟩ = some (.int .i64 f) := by rw [cell_of_row _ _ _ _ _ _ bX]; rfl
    have x1 : W.cell? ⟨Bx, 1, none⟩ = some (.int .i64 t) := by rw [cell_of_row _ _ _ _ _ _ bX]; rfl
    have hc := hv.cell
    have hO : Ow W w.heap.size v pre := hrow
    have hbs := hB1.size
    have V := Lib.hid (And.intro hv (And.intro hrow hB1))
    have HO := Lib.hid hO
    clear hv hrow hB1 hO bX hr hl
    gi_wp2_with (gi_at_builtin; refine wpListIn_append_sp_at _ rfl _ _ rfl w.heap.size v _ pre [(f, t)] rfl (HO.out.alloc _) rfl (Rd.lit' _ _ _ _ (by simp)) (Nat.le_trans hbs ((Below.refl _ _).alloc (Nat.le_refl _) _).size) (by rw [List.length_singleton]; omega) ?_)
    intro v' wa oa ga ata
    obtain ⟨hv, hrow, hB1⟩ := V.out
    obtain ⟨hv1, hv2, hr2, hk2, hb2⟩ := hv.appended (by decide) hrow hbs (Nat.le_refl _) (show wa.ownsRow w.heap.size 23 2 v' (pre ++ [(f, t)]).length (flat (pre ++ [(f, t)])) from oa) ga
    have hc1 := hv1.cell
    have hf1 := hv1.frozen
    have hsa : W.heap.size + 1 ≤ wa.heap.size := by have := ga.size; simpa using this
    have kk : KpO w.heap.size w.heap.size W (wa.setCell ⟨w.heap.size, 0, none⟩ v') := by
      refine ⟨hb2, fun k cs t' f' hk h1 h2 => ?_, fun k e => ?_⟩
      · rw [rowAt_box hv] at h2
        rw [heap_setCell_other wa ⟨w.heap.size, 0, none⟩ k _ h1, ga.block k (by have := heap_lt hk; simp; omega) (fun e => h2 e.symm), heap_alloc_old W _ (heap_lt hk)]
      · rw [rowAt_box hv2] at e
        rw [rowAt_box hv]
        rcases ata with h | h
        · exact .inl (by rw [← h]; exact e)
        · have := (World.ownsRow.lt hr2 k e).2
          rw [h] at e
          simp at e
          exact .inr ⟨by omega, this⟩
    have hsh : ∃ x y z, v' = .slice x y z := by obtain ⟨x, y, z, _⟩ := oa.rd.shape; exact ⟨x, _, y, z⟩
    have V2 := Lib.hid (And.intro hv2 (And.intro hr2 (And.intro hk2 (And.intro (hB1.trans hb2) kk))))
    clear V HO oa ga ata hv hrow hB1 hv1 hv2 hr2 hk2 hb2 kk hc x0 x1
    obtain ⟨x', y', z', rfl⟩ := hsh
    gi_wp2
    obtain ⟨q1, q2, q3, q4, q5⟩ := V2.out
    exact ⟨q3.from _, q5, ⟨_, q1, q2, trivial⟩, q4⟩
  case done =>
    rintro D zs W hD rfl ⟨⟨v, hv, hrow, _⟩, hB1⟩ hK
    have hc := hv.cell
    have hO : Ow W w.heap.size v (pairsL (ofL a) (ofL b)) := hrow
    have hpl : (pairsL (ofL a) (ofL b)).length ≤ 4398046511104 := by
      have h1 := pairsL_length (ofL a) (ofL b)
      have h2 := Nat.mul_le_mul (ofL_length a) (ofL_length b)
      omega
    have hDW : D < W.heap.size := by
      rcases Nat.lt_or_ge D W.heap.size with h | h
      · exact h
      · rw [Array.getElem?_eq_none h] at hK; cases hK
    have HO := Lib.hid hO
    have HK := Lib.hid hK
    have HB := Lib.hid hB1
    clear hrow hO hK hB1 hv
    gi_wp2
    refine (callsIn_wide.2 (of_any v _ W HO.out.rd hpl)).mono ?_
    rintro e w5 ⟨v5, rfl, o5, b5⟩
    have hK5 : w5.heap[D]? = some (.deferred (some [])) := (b5.block D hDW).trans HK.out
    have O5 := Lib.hid o5
    have B5 := Lib.hid b5
    clear o5 b5 hc
    gi_wp2
    refine ⟨by simp, .inl ⟨_, _, rfl, run_takeDeferred hK5, ?_⟩⟩
    refine ⟨_, results_tmp rfl _ _ _, v5, rfl, ?_, ?_⟩
    · exact ownsRow_putObj (O5.out.mono HB.out.size) _ hK5 rfl
    · exact (HB.out.trans (B5.out.mono HB.out.size)).trans (belowK_b (w := w) (Nat.le_refl _) w5 D _ _ (by omega) hK5 rfl rfl)
  case stop =>
    rintro D c pre W _ _ h _
    exact h.elim
end Go.Proofs.Ytjnhkfjhkhbneaa
