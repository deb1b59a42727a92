/- What spans.Minus answers: a set less another one. -/
import Derived.Test.YtjnhkfjhkhbneaaSets12
namespace Go.Proofs.Ytjnhkfjhkhbneaa
open Go.RowKit SpanP

def oL (a b : List Sp) (j : Nat) : List Sp := ((ofL b).take j).foldl (fun o y => cutsL y o) (ofL a)
theorem oL_facts (a b : List Sp) (j : Nat) : SpanP.Form (oL a b j) ∧ (oL a b j).length ≤ (ofL a).length + j := by
  have h := cuts_go ((ofL b).take j) (ofL a) (fun y hy => (ofL_form b).1 y (List.mem_of_mem_take hy)) (ofL_form a)
  refine ⟨h.1, Nat.le_trans h.2.2 ?_⟩
  simp; omega
theorem oL_succ {a b : List Sp} {j : Nat} (hj : j < (ofL b).length) : oL a b (j + 1) = cutsL (ofL b)[j] (oL a b j) := by
  unfold oL
  rw [List.take_succ_eq_append_getElem hj, List.foldl_append]; rfl
theorem oL_all (a b : List Sp) : oL a b (ofL b).length = minusL a b := by unfold oL minusL; rw [List.take_length]
theorem Form_take {o : List Sp} (h : SpanP.Form o) (i : Nat) : SpanP.Form (o.take i) := ⟨fun s hs => h.1 s (List.mem_of_mem_take hs), h.2.sublist (List.take_sublist i o)⟩
theorem cutsL_succ {y : Sp} {o : List Sp} {i : Nat} (hi : i < o.length) : cutsL y (o.take (i + 1)) = cutsL y (o.take i) ++ [(o[i].1, min o[i].2 y.1)].filter neS ++ [(max o[i].1 y.2, o[i].2)].filter neS := by
  unfold cutsL
  rw [List.take_succ_eq_append_getElem hi, List.flatMap_append, List.append_assoc]
  congr 1
  simp only [List.flatMap_cons, List.flatMap_nil, List.append_nil, cutS]
  rw [← List.filter_append]; rfl

set_option maxRecDepth 100000 in
set_option maxHeartbeats 4000000 in
theorem minus_any (va vb : Value) (a b : List Sp) (w : World) (hra : Rd w va a) (hrb : Rd w vb b) (hla : a.length ≤ 1099511627776) (hlb : b.length ≤ 1099511627776) :
    Calls Try.prog 22 #[va, vb] w fun e w' => ∃ v', e = .returned v' ∧ Rd w' v' (minusL a b) ∧ Below w.heap.size w w' := by
  have RA := Lib.hid hra
  have RB := Lib.hid hrb
  clear hra hrb
  go_enter Try.func22, Try.ntmps22
  go_wp2_with fail
  refine (of_any va a w RA.out (by omega)).mono ?_
  rintro e w1 ⟨v1, rfl, o1, b1⟩
  have O1 := Lib.hid o1.rd
  have B1 := Lib.hid b1
  clear o1 b1
  go_wp2_with fail
  refine (of_any vb b w1 (RB.out.below B1.out) (by omega)).mono ?_
  rintro e w2 ⟨v2, rfl, o2, b2⟩
  have R1 := Lib.hid (O1.out.below b2)
  have R2 := Lib.hid o2.rd
  have B2 := Lib.hid (B1.out.trans (b2.mono B1.out.size))
  have L1 : (ofL a).length ≤ 1099511627776 := Nat.le_trans (ofL_length a) hla
  have L2 : (ofL b).length ≤ 1099511627776 := Nat.le_trans (ofL_length b) hlb
  clear o2 b2 O1
  obtain ⟨ab, cb, rfl, hb1, hb2, hfb⟩ := R2.out.shape
  have FB := Lib.hid hfb
  unfold maxLen at hb2
  obtain ⟨m, hm⟩ : ∃ m, m = (ofL b).length := ⟨_, rfl⟩
  have M := Lib.hid hm
  rw [← hm] at R2 hb1 L2 ⊢
  clear hm hfb
  go_wp2_with fail
  go_loopg [5, 7, 8, 9, 17] m (fun gg s5 _ _ _ s17 wr => ∃ (j : Nat) (vo : Value), s5 = vo ∧ s17 = .int .i64 j ∧ j ≤ m ∧ m - j ≤ gg ∧ Hid (Rd wr vo (oL a b j)) ∧ Hid (Below w2.heap.size w2 wr))
  case atStart => exact ⟨0, _, rfl, rfl, by omega, by omega, Lib.hid R1.out, Lib.hid (Below.refl _ _)⟩
  case round =>
    obtain ⟨j, vo, rfl, rfl, hj, hgg, hO, hB⟩ := hrel
    by_cases hjm : j < m
    · have hjl : j < (ofL b).length := by rw [← M.out]; exact hjm
      obtain ⟨bb, ob, rfl⟩ := FB.out (by intro h; rw [h] at hjl; simp at hjl)
      have c0 := (R2.out.below hB.out).cell0 j hjl
      have c1 := (R2.out.below hB.out).cell1 j hjl
      have hyy : (ofL b)[j].1 < (ofL b)[j].2 := (ofL_form b).1 _ (List.getElem_mem _)
      obtain ⟨y, hy⟩ : ∃ y, (ofL b)[j] = y := ⟨_, rfl⟩
      rw [hy] at c0 c1 hyy
      have X := Lib.hid (show oL a b (j + 1) = cutsL y (oL a b j) by rw [oL_succ hjl, hy])
      obtain ⟨hfo, hlo⟩ := oL_facts a b j
      generalize oL a b j = o at hO X hfo hlo
      clear hy hjl
      obtain ⟨yf, yt⟩ := y
      dsimp only at c0 c1
      have HY := Lib.hid hyy
      have HF := Lib.hid hfo
      clear hyy hfo
      obtain ⟨ao, co, rfl, ho1, ho2, hfo⟩ := hO.out.shape
      have FO := Lib.hid hfo
      unfold maxLen at ho2
      obtain ⟨n, hn⟩ : ∃ n, n = o.length := ⟨_, rfl⟩
      have N := Lib.hid hn
      rw [← hn] at hO ho1 hlo ⊢
      clear hn hfo
      have hjz : (j : Int) < (m : Int) := by omega
      go_wp2_with fail
      obtain ⟨W0, hW0⟩ : ∃ W0, W0 = (wr.alloc (.cells #[.int .i64 yf, .int .i64 yt] 23)).alloc (.cells #[.slice none 0 0] 29) := ⟨_, rfl⟩
      have hsz0 : W0.heap.size = wr.heap.size + 1 + 1 := by rw [hW0]; simp
      have hy0 : W0.heap[wr.heap.size]? = some (.cells #[.int .i64 yf, .int .i64 yt] 23) := by
        rw [hW0, heap_alloc_old _ _ (by simp)]; exact heap_alloc_new _ _
      have hl0 : W0.heap[wr.heap.size + 1]? = some (.cells #[.slice none 0 0] 29) := by
        rw [hW0]
        have := heap_alloc_new (wr.alloc (.cells #[.int .i64 yf, .int .i64 yt] 23)) (.cells #[.slice none 0 0] 29)
        simpa using this
      have hb0 : Below wr.heap.size wr W0 := by rw [hW0]; exact ((Below.refl _ wr).alloc (Nat.le_refl _) _).alloc (by simp) _
      rw [← hW0]
      obtain ⟨Y, hYe⟩ : ∃ Y, Y = wr.heap.size := ⟨_, rfl⟩
      have hws : w2.heap.size ≤ Y := by rw [hYe]; exact hB.out.size
      have HB0 := Lib.hid hb0
      have HR0 := Lib.hid (hO.out.below hb0)
      have HYY := Lib.hid hYe
      have HL0 := Lib.hid hl0
      have HY0 := Lib.hid hy0
      rw [← hYe] at HB0 hsz0 HL0 HY0 ⊢
      clear hW0 hy0 hl0 hb0 hYe c0 c1
      obtain ⟨W1, hW1⟩ : ∃ W1, W1 = wr := ⟨_, rfl⟩
      subst hW1
      go_loopg [11, 24] n (fun gg _ s24 wr => ∃ (i : Nat) (vl : Value), s24 = .int .i64 i ∧ i ≤ n ∧ n - i ≤ gg ∧ Hid (wr.heap[Y + 1]? = some (.cells #[vl] 29)) ∧ Hid (Ow wr (Y + 1 + 1) vl (cutsL (yf, yt) (o.take i))) ∧ Hid (Below (Y + 1) W0 wr))
      case atStart => exact ⟨0, .slice none 0 0, rfl, by omega, by omega, HL0, Lib.hid (Ow.nil _ _), Lib.hid (Below.refl _ _)⟩
      case round =>
        obtain ⟨i, vl, rfl, hi, hgi, hL, hOl, hBi⟩ := hrel
        have hszi : Y + 1 + 1 ≤ wr.heap.size := by rw [← hsz0]; exact hBi.out.size
        by_cases hin : i < n
        · have hil : i < o.length := by rw [← N.out]; exact hin
          obtain ⟨bo, oo, rfl⟩ := FO.out (by intro h; rw [h] at hil; simp at hil)
          have hbi0 := HB0.out.trans (hBi.out.mono (by omega))
          rw [HYY.out] at hbi0
          have d0 := (hO.out.below hbi0).cell0 i hil
          have d1 := (hO.out.below hbi0).cell1 i hil
          obtain ⟨x, hx⟩ : ∃ x, o[i] = x := ⟨_, rfl⟩
          rw [hx] at d0 d1
          have hcl : (cutsL (yf, yt) (o.take i)).length ≤ i + 1 := by
            have := cutsL_length (y := (yf, yt)) HY.out (Form_take HF.out i)
            simp at this; omega
          have XI := Lib.hid (show cutsL (yf, yt) (o.take (i + 1)) = cutsL (yf, yt) (o.take i) ++ [(x.1, min x.2 yf)].filter neS ++ [(max x.1 yt, x.2)].filter neS by rw [cutsL_succ hil, hx])
          clear hx hil hbi0
          obtain ⟨f, t⟩ := x
          dsimp only at d0 d1 XI
          have y0 : wr.cell? ⟨Y, 0, none⟩ = some (.int .i64 yf) := by rw [cell_of_row _ _ _ _ _ _ ((hBi.out.block Y (by omega)).trans HY0.out)]; rfl
          have y1 : wr.cell? ⟨Y, 1, none⟩ = some (.int .i64 yt) := by rw [cell_of_row _ _ _ _ _ _ ((hBi.out.block Y (by omega)).trans HY0.out)]; rfl
          have hiz : (i : Int) < (n : Int) := by omega
          have y0a : (wr.alloc (.cells #[.int .i64 f, .int .i64 t] 23)).cell? ⟨Y, 0, none⟩ = some (.int .i64 yf) := Lib.cell?_alloc_some _ y0
          go_wp2_with fail
          have ha := (Below.refl _ wr).alloc (Nat.le_refl _) (.cells #[.int .i64 f, .int .i64 t] 23)
          refine (cut_any (f, min t yf) (Y + 1) (cutsL (yf, yt) (o.take i)) vl _ (heap_keep ha hL.out) (hOl.out.kept ha) (by omega)).mono ?_
          rintro e w4 ⟨rfl, v4, l4, o4, f4⟩
          have hx4 : w4.heap[wr.heap.size]? = some (.cells #[.int .i64 f, .int .i64 t] 23) := by
            rw [f4.block wr.heap.size (by simp) (by omega) (fun e => by
              have := (World.ownsRow.lt hOl.out _ e).2
              omega)]
            exact heap_alloc_new _ _
          have x0 : w4.cell? ⟨wr.heap.size, 0, none⟩ = some (.int .i64 f) := by rw [cell_of_row _ _ _ _ _ _ hx4]; rfl
          have x1 : w4.cell? ⟨wr.heap.size, 1, none⟩ = some (.int .i64 t) := by rw [cell_of_row _ _ _ _ _ _ hx4]; rfl
          have hb4 : Below (Y + 1) W0 w4 := hBi.out.trans ((ha.mono (by omega)).trans f4.below)
          have z1 : w4.cell? ⟨Y, 1, none⟩ = some (.int .i64 yt) := by rw [cell_of_row _ _ _ _ _ _ ((hb4.block Y (by omega)).trans HY0.out)]; rfl
          have hle4 : ([(f, min t yf)].filter neS).length ≤ 1 := List.length_filter_le _ _
          have L4 := Lib.hid l4
          have O4 := Lib.hid o4
          have B4 := Lib.hid hb4
          clear ha l4 o4 f4 hx4 hb4 y0 y1 y0a d0 d1 hL hOl hBi
          go_wp2_with fail
          refine (cut_any (max f yt, t) (Y + 1) _ v4 w4 L4.out O4.out (by rw [List.length_append]; omega)).mono ?_
          rintro e w5 ⟨rfl, v5, l5, o5, f5⟩
          have L5 := Lib.hid l5
          have O5 := Lib.hid o5
          have B5 := Lib.hid (B4.out.trans f5.below)
          clear l5 o5 f5 L4 O4 B4 x0 x1 z1
          go_wp2_with fail
          go_roundg (n - (i + 1))
          case measure => omega
          case rel => exact ⟨i + 1, v5, by go_num, by omega, Nat.le_refl _, L5, Lib.hid (by rw [XI.out]; exact O5.out), B5⟩
        · obtain rfl : i = n := by omega
          have hiz : ¬ (i : Int) < (i : Int) := by omega
          have l0 : wr.cell? ⟨Y + 1, 0, none⟩ = some vl := by rw [cell_of_row _ _ _ _ _ _ hL.out]; rfl
          have hol := hOl.out
          rw [List.take_of_length_le (by rw [← N.out]; exact Nat.le_refl _)] at hol
          have O := Lib.hid hol.rd
          have B' := Lib.hid (hB.out.trans ((HB0.out.trans (hBi.out.mono (by omega))).mono hws))
          clear hol hOl hL hBi
          go_wp2_with fail
          go_roundg (m - (j + 1))
          case measure => omega
          case rel => exact ⟨j + 1, vl, rfl, by go_num, by omega, Nat.le_refl _, Lib.hid (by rw [X.out]; exact O.out), B'⟩
    · obtain rfl : j = m := by omega
      have hjz : ¬ (j : Int) < (j : Int) := by omega
      have hol := hO.out
      rw [M.out, oL_all] at hol
      have O := Lib.hid hol
      clear hol hO
      go_wp2_with fail
      go_ret
      exact ⟨_, rfl, O.out, B2.out.trans (hB.out.mono B2.out.size)⟩
end Go.Proofs.Ytjnhkfjhkhbneaa
