/- What slices.Concat and spans.Or answer: two lists together; spans.Has. -/
import Derived.Test.YtjnhkfjhkhbneaaSets5
namespace Go.Proofs.Ytjnhkfjhkhbneaa
open Go.RowKit SpanP

theorem grow_any (n : Nat) (w : World) (hn : n ≤ 8796093022208) :
    Calls Try.prog 75 #[.slice none 0 0, .int .i64 n] w fun e w' => ∃ v', e = .returned v' ∧ Ow w' w.heap.size v' [] ∧ Below w.heap.size w w' := by
  by_cases h0 : n = 0
  · subst h0
    have h := Any8.slices_Grow_room growSp none 0 0 0 w (by omega) (by omega) (by omega) (by omega)
    change Calls Try.prog 75 _ _ _ at h
    exact h.mono fun e w' ⟨he, hw⟩ => ⟨_, he, Ow.nil _ _, by rw [hw]; exact Below.refl _ _⟩
  · obtain ⟨i, hi, hz0, hz1, hz2⟩ := info_parts info23
    have h := Any8.slices_Grow_grow growSp i (.agg #[.int .i64 0, .int .i64 0]) hi hz0 (by omega) none 0 0 n [] w (by omega) (by omega) (by rw [hz2]; omega) (by omega) (by simp) (by simp) (by simp)
    change Calls Try.prog 75 _ _ _ at h
    refine h.mono fun e w' ⟨he, hw⟩ => ⟨_, he, ?_, by rw [hw]; exact ((Below.refl _ w).drew).alloc (by simp) _⟩
    have hg : n ≤ grownCap w n 0 23 := grownCap_ge w n 0 23
    have hm : grownCap w n 0 23 ≤ maxLen := grownCap_le_maxLen w n 0 23 (by simp only [maxLen]; omega)
    rw [hw]
    obtain ⟨G, hG⟩ : ∃ G, G = grownCap w n 0 23 := ⟨_, rfl⟩
    have := World.ownsRow_made w.drew ((#[] : Array Value) ++ Builtin.zeroCells #[.int .i64 0, .int .i64 0] n ++ Builtin.zeroCells #[.int .i64 0, .int .i64 0] (G - n)) G (base := w.heap.size) (e := 23) (size := 2) (by simp) (by omega) (by simp [Builtin.zeroCells]; omega)
    unfold Ow
    simpa [growSp_ren, Value.cells, hG] using this

set_option maxRecDepth 100000 in
set_option maxHeartbeats 2000000 in
theorem concat_any (va vb : Value) (a b : List Sp) (c : Nat) (w : World) (hc : w.heap[c]? = some (.cells #[va, vb] 29)) (hra : Rd w va a) (hrb : Rd w vb b) (hla : a.length ≤ 2199023255552) (hlb : b.length ≤ 2199023255552) :
    Calls Try.prog 54 #[.slice (some ⟨c, 0, none⟩) 2 2] w fun e w' => ∃ v', e = .returned v' ∧ Ow w' w.heap.size v' (a ++ b) ∧ Below w.heap.size w w' := by
  have C := Lib.hid hc
  have k0 : w.cell? ⟨c, 0, none⟩ = some va := by rw [cell_of_row _ _ _ _ _ _ hc]; rfl
  have k1 : w.cell? ⟨c, 1, none⟩ = some vb := by rw [cell_of_row _ _ _ _ _ _ hc]; rfl
  have RA := Lib.hid hra
  have RB := Lib.hid hrb
  obtain ⟨aa, ca, rfl, ha1, ha2, _⟩ := hra.shape
  obtain ⟨ab, cb, rfl, hb1, hb2, _⟩ := hrb.shape
  clear hra hrb hc
  obtain ⟨n, hn⟩ : ∃ n, n = a.length := ⟨_, rfl⟩
  obtain ⟨m, hm⟩ : ∃ m, m = b.length := ⟨_, rfl⟩
  have N := Lib.hid hn
  have M := Lib.hid hm
  rw [← hn] at RA ha1 hla C k0
  rw [← hm] at RB hb1 hlb C k1
  clear hn hm
  have w1 : IntKind.i64.wrap (n : Int) = (n : Int) := IntWalk.i64_in _ (by omega)
  go_enter Try.func54, Try.ntmps54
  go_wp2_with fail
  have G := grow_any (n + m) w (by omega)
  rw [Int.natCast_add] at G
  refine wp_loop_rounds 3 ?_
  rw [rounds_succ]
  go_wp2_with fail
  rw [rounds_succ]
  go_wp2_with fail
  rw [rounds_succ]
  go_wp2_with fail
  refine G.mono ?_
  rintro e w4 ⟨v4, rfl, o4, b4⟩
  have k0' : w4.cell? ⟨c, 0, none⟩ = some (.slice aa n ca) := by rw [cell_of_row _ _ _ _ _ _ (heap_keep b4 C.out)]; rfl
  have k1' : w4.cell? ⟨c, 1, none⟩ = some (.slice ab m cb) := by rw [cell_of_row _ _ _ _ _ _ (heap_keep b4 C.out)]; rfl
  have C4 := Lib.hid (heap_keep b4 C.out)
  have O4 := Lib.hid o4
  have B4 := Lib.hid b4
  have RA4 := Lib.hid (RA.out.below b4)
  have RB4 := Lib.hid (RB.out.below b4)
  clear o4 b4 k0 k1 G
  go_wp2_with fail
  refine wp_loop_rounds 3 ?_
  rw [rounds_succ]
  go_wp2_with (at_builtin; refine wpList_append_sp rfl _ _ rfl w.heap.size _ _ [] a rfl O4.out rfl RA4.out B4.out.size (by simp [← N.out]; omega) ?_)
  intro v5 w5 o5 b5
  have O5 := Lib.hid o5
  have b05 := B4.out.trans b5
  have B5 := Lib.hid b05
  have RB5 := Lib.hid (RB.out.below b05)
  have k1'' : w5.cell? ⟨c, 1, none⟩ = some (.slice ab m cb) := by rw [cell_of_row _ _ _ _ _ _ (heap_keep b05 C.out)]; rfl
  clear o5 b5 b05 k0' k1' O4 B4 RA4 RB4 C4
  go_wp2_with fail
  rw [rounds_succ]
  go_wp2_with (at_builtin; refine wpList_append_sp rfl _ _ rfl w.heap.size _ _ a b rfl O5.out rfl RB5.out B5.out.size (by rw [← N.out, ← M.out]; omega) ?_)
  intro v6 w6 o6 b6
  have O6 := Lib.hid o6
  have B6 := Lib.hid (B5.out.trans b6)
  clear o6 b6 k1'' O5 B5 RB5
  go_wp2_with fail
  rw [rounds_succ]
  go_wp2_with fail
  go_ret
  exact ⟨_, rfl, O6.out, B6.out⟩

set_option maxRecDepth 100000 in
set_option maxHeartbeats 2000000 in
/-- two sets together -/
theorem or_any (va vb : Value) (a b : List Sp) (w : World) (hra : Rd w va a) (hrb : Rd w vb b) (hla : a.length ≤ 2199023255552) (hlb : b.length ≤ 2199023255552) :
    Calls Try.prog 19 #[va, vb] w fun e w' => ∃ v', e = .returned v' ∧ Ow w' w.heap.size v' (orL a b) ∧ Below w.heap.size w w' := by
  have RA := Lib.hid hra
  have RB := Lib.hid hrb
  obtain ⟨aa, ca, rfl, _, _, _⟩ := hra.shape
  obtain ⟨ab, cb, rfl, _, _, _⟩ := hrb.shape
  obtain ⟨n, hn⟩ : ∃ n, n = a.length := ⟨_, rfl⟩
  obtain ⟨m, hm⟩ : ∃ m, m = b.length := ⟨_, rfl⟩
  have N := Lib.hid hn
  have M := Lib.hid hm
  rw [← hn] at RA hla
  rw [← hm] at RB hlb
  rw [← hn, ← hm]
  clear hn hm hra hrb
  go_enter Try.func19, Try.ntmps19
  go_wp2_with fail
  have hb0 := (Below.refl _ w).alloc (Nat.le_refl _) (.cells #[.slice aa n ca, .slice ab m cb] 29)
  refine (concat_any _ _ a b w.heap.size _ (heap_alloc_new _ _) (RA.out.below hb0) (RB.out.below hb0) (by rw [← N.out]; exact hla) (by rw [← M.out]; exact hlb)).mono ?_
  rintro e w1 ⟨v3, rfl, o3, b3⟩
  have O3 := Lib.hid o3
  have B3 := Lib.hid (hb0.trans (b3.mono (by simp)))
  clear o3 b3 hb0
  go_wp2_with fail
  refine (of_any v3 (a ++ b) w1 O3.out.rd (by rw [List.length_append, ← N.out, ← M.out]; omega)).mono ?_
  rintro e w2 ⟨v4, rfl, o4, b4⟩
  have O4 := Lib.hid o4
  have B4 := Lib.hid b4
  clear o4 b4
  go_wp2_with fail
  go_ret
  exact ⟨_, rfl, O4.out.mono B3.out.size, B3.out.trans (B4.out.mono B3.out.size)⟩
end Go.Proofs.Ytjnhkfjhkhbneaa
