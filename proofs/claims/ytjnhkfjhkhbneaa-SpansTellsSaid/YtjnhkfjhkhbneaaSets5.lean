/- What spans.Of answers: the set of a list, in form. -/
import Derived.Test.YtjnhkfjhkhbneaaSets4
namespace Go.Proofs.Ytjnhkfjhkhbneaa
open Go.RowKit SpanP

theorem Rd.shape {w : World} {v : Value} {l : List Sp} (h : Rd w v l) : ∃ a cap, v = .slice a l.length cap ∧ l.length ≤ cap ∧ cap ≤ maxLen ∧ (l ≠ [] → ∃ b off, a = some ⟨b, off, none⟩) := by
  rcases h.parts with ⟨rfl, rfl⟩ | ⟨b, off, cap, rfl, _, h1, h2⟩
  · exact ⟨none, 0, rfl, by simp, by simp, fun h => absurd rfl h⟩
  · exact ⟨_, cap, rfl, h1, h2, fun _ => ⟨b, off, rfl⟩⟩

theorem Rd.lit (w : World) (f t : Int) : Rd (w.alloc (.cells #[.int .i64 f, .int .i64 t] 23)) (.slice (some ⟨w.heap.size, 0, none⟩) 1 1) [(f, t)] := by
  refine .inr ⟨w.heap.size, 0, 1, rfl, by simp, by simp, by simp [maxLen], fun j u hj => ?_⟩
  rw [cell_of_row _ _ _ _ _ _ (heap_alloc_new w _), Nat.zero_add]
  simpa [flat, encS] using hj

def outL (d : List Sp) (j : Nat) : List Sp := (d.take j).foldl stepL []
theorem outL_succ {d : List Sp} {j : Nat} (hj : j < d.length) : outL d (j + 1) = stepL (outL d j) d[j] := by
  unfold outL
  rw [List.take_succ_eq_append_getElem hj, List.foldl_append]; rfl
theorem outL_length (d : List Sp) (j : Nat) : (outL d j).length ≤ j := by
  induction j with
  | zero => simp [outL]
  | succ j ih =>
    by_cases hj : j < d.length
    · rw [outL_succ hj]; have := stepL_length (outL d j) d[j]; omega
    · have : outL d (j + 1) = outL d j := by unfold outL; rw [List.take_of_length_le (by omega), List.take_of_length_le (by omega)]
      rw [this]; omega
theorem outL_all (d : List Sp) : outL d d.length = mergeL d := by unfold outL mergeL; rw [List.take_length]

set_option maxRecDepth 100000 in
set_option maxHeartbeats 2000000 in
theorem of_any (v : Value) (l : List Sp) (w : World) (hr : Rd w v l) (hlen : l.length ≤ 4398046511104) :
    Calls Try.prog 23 #[v] w fun e w' => ∃ v', e = .returned v' ∧ Ow w' w.heap.size v' (ofL l) ∧ Below w.heap.size w w' := by
  have R := Lib.hid hr
  clear hr
  go_enter Try.func23, Try.ntmps23
  go_wp2_with fail
  refine (clone_any v l w R.out hlen).mono ?_
  rintro e w1 ⟨v1, rfl, o1, b1⟩
  have O1 := Lib.hid o1
  have B1 := Lib.hid b1
  clear o1 b1
  go_wp2_with fail
  refine (delete_any v1 l w.heap.size w1 O1.out B1.out.size hlen).mono ?_
  rintro e w2 ⟨v2, rfl, o2, b2⟩
  have O2 := Lib.hid o2
  have B2 := Lib.hid (B1.out.trans b2)
  have hl2 : (l.filter neS).length ≤ l.length := List.length_filter_le _ _
  clear o2 b2 O1 B1
  go_wp2_with fail
  refine (sort_any v2 (l.filter neS) w.heap.size w2 O2.out B2.out.size (by omega)).mono ?_
  rintro e w3 ⟨d, rfl, hp, hs, o3, b3⟩
  have hd : d.length ≤ 4398046511104 := by have := hp.length_eq; omega
  have M := Lib.hid (merge_eq hp hs)
  have R3 := Lib.hid o3.rd
  have B3 := Lib.hid (B2.out.trans b3)
  clear o3 b3 O2 B2 hp hs
  obtain ⟨a, cap, rfl, hn1, hn2, hform⟩ := R3.out.shape
  have hcap : cap ≤ 9223372036854775807 := by unfold maxLen at hn2; exact hn2
  have hws : w.heap.size ≤ w3.heap.size := B3.out.size
  obtain ⟨n, hn⟩ : ∃ n, n = d.length := ⟨_, rfl⟩
  have N := Lib.hid hn
  have F := Lib.hid hform
  rw [← hn] at hn1 hd R3 ⊢
  clear hn hform
  go_wp2_with fail
  go_loopg [4, 6, 7, 15] n (fun gg s4 _ _ s15 wr => ∃ (j : Nat) (vo : Value), s4 = vo ∧ s15 = .int .i64 j ∧ j ≤ n ∧ n - j ≤ gg ∧ Hid (Ow wr w3.heap.size vo (outL d j)) ∧ Hid (Below w3.heap.size w3 wr))
  case atStart => exact ⟨0, .slice none 0 0, rfl, rfl, by omega, by omega, Lib.hid (Ow.nil _ _), Lib.hid (Below.refl _ _)⟩
  case round =>
    obtain ⟨j, vo, rfl, rfl, hj, hgg, hO, hB⟩ := hrel
    by_cases hjn : j < n
    · have hjl : j < d.length := by rw [← N.out]; exact hjn
      obtain ⟨b, off, rfl⟩ := F.out (by intro h; rw [h] at hjl; simp at hjl)
      have Rr := R3.out.below hB.out
      have c0 := Rr.cell0 j hjl
      have c1 := Rr.cell1 j hjl
      obtain ⟨x, hx⟩ : ∃ x, d[j] = x := ⟨_, rfl⟩
      rw [hx] at c0 c1
      have X := Lib.hid (show ∃ h : j < d.length, d[j] = x from ⟨hjl, hx⟩)
      have hou := outL_length d j
      have S := Lib.hid (show outL d (j + 1) = stepL (outL d j) x by rw [outL_succ hjl, hx])
      clear hx hjl Rr
      obtain ⟨f, t⟩ := x
      dsimp only at c0 c1
      have hjz : (j : Int) < (n : Int) := by omega
      generalize outL d j = o at hO hou S
      rcases snoc_cases o with rfl | ⟨q, z, rfl⟩
      · -- nothing there yet
        obtain ⟨a', cap', rfl, hm1, hm2, _⟩ := hO.out.rd.shape
        have hcap' : cap' ≤ 9223372036854775807 := by unfold maxLen at hm2; exact hm2
        simp only [List.length_nil] at hO hou hm1
        go_wp2_with fail
        obtain ⟨W4, hW4⟩ : ∃ W4, W4 = wr.alloc (.cells #[.int .i64 f, .int .i64 t] 23) := ⟨_, rfl⟩
        have hs4 : W4.heap[wr.heap.size]? = some (.cells #[.int .i64 f, .int .i64 t] 23) := by rw [hW4]; exact heap_alloc_new _ _
        have hb4 : Below wr.heap.size wr W4 := by rw [hW4]; exact (Below.refl _ _).alloc (Nat.le_refl _) _
        rw [← hW4]
        have HS := Lib.hid hs4
        have HB := Lib.hid hb4
        clear hW4 hs4 hb4 c0 c1
        refine wp_region_up W4.heap.size W4 (by kernel_rfl) (by kernel_rfl) (Below.refl _ _) ?_
        repeat (go_big_quiet_step (fail))
        refine wpQuiet_nil ?_
        rintro wu ⟨⟨_, hu⟩, rfl⟩
        have hs5 := heap_keep hu HS.out
        have v0 : wu.cell? ⟨wr.heap.size, 0, none⟩ = some (.int .i64 f) := by rw [cell_of_row _ _ _ _ _ _ hs5]; rfl
        have v1 : wu.cell? ⟨wr.heap.size, 1, none⟩ = some (.int .i64 t) := by rw [cell_of_row _ _ _ _ _ _ hs5]; rfl
        have hsz : w3.heap.size ≤ wu.heap.size := Nat.le_trans hB.out.size (Nat.le_trans HB.out.size hu.size)
        have HB5 := Lib.hid (hB.out.trans ((HB.out.trans (hu.mono HB.out.size)).mono hB.out.size))
        have HO5 := Lib.hid ((hO.out.kept HB.out).kept hu)
        clear hu HB hO hB hs5
        go_wp2_with (at_builtin; refine wpList_append_sp rfl _ _ rfl w3.heap.size _ _ [] [(f, t)] rfl (HO5.out.alloc _) rfl (Rd.lit _ _ _) (by simp; omega) (by simp) ?_)
        intro v' w' o' b'
        have O' := Lib.hid o'
        have B' := Lib.hid (HB5.out.trans (((Below.refl _ _).alloc hsz _).trans b'))
        clear o' b' HB5 HO5 v0 v1
        go_wp2_with fail
        go_roundg (n - (j + 1))
        case measure => omega
        case rel => exact ⟨j + 1, v', rfl, by go_num, by omega, Nat.le_refl _, Lib.hid (by rw [S.out, stepL_nil]; exact O'.out), B'⟩
      · obtain ⟨a', cap', rfl, hm1, hm2, hform'⟩ := hO.out.rd.shape
        obtain ⟨g, off', rfl⟩ := hform' (by simp)
        have hoff : off' = 0 := by
          rcases hO.out.parts with ⟨e, _⟩ | ⟨g', cap'', e, _⟩
          · cases e
          · simp only [Value.slice.injEq, Option.some.injEq, Addr.mk.injEq, and_true] at e; exact e.1.2
        subst hoff
        clear hform'
        have hcap' : cap' ≤ 9223372036854775807 := by unfold maxLen at hm2; exact hm2
        have hql : (q ++ [z]).length = q.length + 1 := by simp
        rw [hql] at hO hou hm1 ⊢
        obtain ⟨zf, zt⟩ := z
        obtain ⟨m, hm⟩ : ∃ m, m = q.length := ⟨_, rfl⟩
        rw [← hm] at hO hou hm1 ⊢
        have Q := Lib.hid hm
        clear hm hql
        go_wp2_with fail
        obtain ⟨W4, hW4⟩ : ∃ W4, W4 = wr.alloc (.cells #[.int .i64 f, .int .i64 t] 23) := ⟨_, rfl⟩
        have hs4 : W4.heap[wr.heap.size]? = some (.cells #[.int .i64 f, .int .i64 t] 23) := by rw [hW4]; exact heap_alloc_new _ _
        have hb4 : Below wr.heap.size wr W4 := by rw [hW4]; exact (Below.refl _ _).alloc (Nat.le_refl _) _
        rw [← hW4]
        have HS := Lib.hid hs4
        have HB := Lib.hid hb4
        have O4 := Lib.hid (hO.out.kept hb4)
        have U0 := Up.cell0 hs4
        have U1 : ∀ u : Up W4.heap.size W4, u.w.cell? ⟨g, m * 2 + 1, none⟩ = some (.int .i64 zt) := fun u => by
          have := (O4.out.kept u.below).cell1 m (by rw [Q.out]; simp)
          simpa [Q.out] using this
        clear hW4 hs4 hb4 c0 c1
        by_cases hft : f ≤ zt
        · refine wp_region_up W4.heap.size W4 (by kernel_rfl) (by kernel_rfl) (Below.refl _ _) ?_
          repeat (go_big_quiet_step (fail))
          refine wpQuiet_nil ?_
          rintro wu ⟨⟨_, hu⟩, rfl⟩
          have hs5 := heap_keep hu HS.out
          have v0 : wu.cell? ⟨wr.heap.size, 0, none⟩ = some (.int .i64 f) := by rw [cell_of_row _ _ _ _ _ _ hs5]; rfl
          have v1 : wu.cell? ⟨wr.heap.size, 1, none⟩ = some (.int .i64 t) := by rw [cell_of_row _ _ _ _ _ _ hs5]; rfl
          have hsz : w3.heap.size ≤ wu.heap.size := Nat.le_trans hB.out.size (Nat.le_trans HB.out.size hu.size)
          have HB5 := Lib.hid (hB.out.trans ((HB.out.trans (hu.mono HB.out.size)).mono hB.out.size))
          have HO5 := Lib.hid (O4.out.kept hu)
          have z1 : wu.cell? ⟨g, m * 2 + 1, none⟩ = some (.int .i64 zt) := U1 ⟨wu, hu⟩
          have zz : wu.frozen? ⟨g, m * 2 + 1, none⟩ = false := HO5.out.frozen _
          clear hu HB hO hB hs5 U0 U1
          go_wp2_with fail
          have hwm : IntKind.i64.wrap (m : Int) = (m : Int) := IntWalk.i64_in _ (by omega)
          have hm0 : (0 : Int) ≤ (m : Int) ∧ (m : Int) < (m : Int) + 1 := by omega
          refine wp_region_still_tail 14 (by kernel_rfl) (by kernel_rfl) ?_
          simp only [List.take_succ_cons, List.take_zero, List.drop_succ_cons, List.drop_zero]
          change wpStill _ _ (World.drew _) (fun a' => wpList _ _ _ _ a' (World.drew _)) _ _
          still_step
          still_step
          still_step
          still_step
          still_step
          still_step
          still_step
          still_step
          still_step
          still_step
          still_step
          still_step
          still_step
          still_step
          refine wpStill_nil ?_
          go_wp2_with fail
          go_roundg (n - (j + 1))
          case measure => omega
          case rel =>
            refine ⟨j + 1, _, rfl, by go_num, by omega, Nat.le_refl _, Lib.hid ?_, Lib.hid ((HB5.out.drew).setCell (HO5.out.base).1 _)⟩
            rw [S.out, stepL_join hft]
            have O6 := (HO5.out.kept ((Below.refl _ wu).drew))
            have := World.ownsRow.stored (show World.ownsRow wu.drew w3.heap.size 23 2 (.slice (some ⟨g, 0, none⟩) (m + 1) cap') (m + 1) (flat (q ++ [(zf, zt)])) by have h6 := O6; unfold Ow at h6; rwa [List.length_append, List.length_singleton, ← Q.out] at h6) (m * 2 + 1) (.int .i64 (max zt t))
            have h7 := this.1
            unfold Ow
            rw [List.length_append, List.length_singleton, ← Q.out]
            rw [flat_append, List.set_append_right _ _ (by rw [flat_length, ← Q.out]; omega)] at h7
            rw [flat_append]
            rw [flat_length, ← Q.out, show m * 2 + 1 - m * 2 = 1 by omega] at h7
            exact h7
        · refine wp_region_up W4.heap.size W4 (by kernel_rfl) (by kernel_rfl) (Below.refl _ _) ?_
          repeat (go_big_quiet_step (fail))
          refine wpQuiet_nil ?_
          rintro wu ⟨⟨_, hu⟩, rfl⟩
          have hs5 := heap_keep hu HS.out
          have v0 : wu.cell? ⟨wr.heap.size, 0, none⟩ = some (.int .i64 f) := by rw [cell_of_row _ _ _ _ _ _ hs5]; rfl
          have v1 : wu.cell? ⟨wr.heap.size, 1, none⟩ = some (.int .i64 t) := by rw [cell_of_row _ _ _ _ _ _ hs5]; rfl
          have hsz : w3.heap.size ≤ wu.heap.size := Nat.le_trans hB.out.size (Nat.le_trans HB.out.size hu.size)
          have HB5 := Lib.hid (hB.out.trans ((HB.out.trans (hu.mono HB.out.size)).mono hB.out.size))
          have HO5 := Lib.hid (O4.out.kept hu)
          clear hu HB hO hB hs5 U0 U1
          go_wp2_with (at_builtin; refine wpList_append_sp rfl _ _ rfl w3.heap.size _ _ (q ++ [(zf, zt)]) [(f, t)] rfl (HO5.out.alloc _) rfl (Rd.lit _ _ _) (by simp; omega) (by simp [← Q.out]; omega) ?_)
          intro v' w' o' b'
          have O' := Lib.hid o'
          have B' := Lib.hid (HB5.out.trans (((Below.refl _ _).alloc hsz _).trans b'))
          clear o' b' HB5 HO5 v0 v1
          go_wp2_with fail
          go_roundg (n - (j + 1))
          case measure => omega
          case rel => exact ⟨j + 1, v', rfl, by go_num, by omega, Nat.le_refl _, Lib.hid (by rw [S.out, stepL_apart (by show ¬ f ≤ zt; omega), List.append_assoc]; exact O'.out), B'⟩
    · obtain rfl : j = n := by omega
      have hjz : ¬ (j : Int) < (j : Int) := by omega
      clear hd
      go_wp2_with fail
      go_ret
      refine ⟨_, rfl, ?_, B3.out.trans (hB.out.mono hws)⟩
      have := hO.out
      rw [N.out, outL_all, M.out] at this
      exact this.mono hws
end Go.Proofs.Ytjnhkfjhkhbneaa
