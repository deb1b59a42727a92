/- What slices.DeleteFunc answers at spans: what is empty goes. -/
import Derived.Test.YtjnhkfjhkhbneaaSets3
namespace Go.Proofs.Ytjnhkfjhkhbneaa
open Go.RowKit SpanP

set_option maxRecDepth 100000 in
set_option maxHeartbeats 2000000 in
theorem delete_any (v : Value) (l : List Sp) (B : Nat) (w : World) (ho : Ow w B v l) (hB : B ≤ w.heap.size) (hlen : l.length ≤ 4398046511104) :
    Calls Try.prog 57 #[v, .func (.func 15) #[] #[]] w fun e w' => ∃ v', e = .returned v' ∧ Ow w' B v' (l.filter neS) ∧ Below B w w' := by
  rcases ho.parts with ⟨rfl, rfl⟩ | ⟨g, cap, rfl, hg, hlt, h1, h2⟩
  · clear ho
    go_enter Try.func57, Try.ntmps57
    go_wp2_with (go_at_call 77; refine (indexF_none _).mono ?_; rintro e w' ⟨rfl, hb⟩)
    go_ret
    exact ⟨_, rfl, Ow.nil _ _, hb.mono hB⟩
  · have K := indexF_any g 0 cap l w ho.rd hlt hlen
    have H := Lib.hid ho
    clear ho
    have hB := Lib.hid hB
    have hcap : cap ≤ 9223372036854775807 := by unfold maxLen at h2; exact h2
    obtain ⟨n, hn⟩ : ∃ n, n = l.length := ⟨_, rfl⟩
    rcases idxE_cases l with ⟨e1, e2⟩ | ⟨k, hk, e1, e2⟩
    · rw [e1] at K
      rw [e2]
      rw [← hn] at K H h1 hlen ⊢
      have A := Lib.hid hn
      clear hn e1 e2
      go_enter Try.func57, Try.ntmps57
      go_wp2_with (go_at_call 77; refine K.mono ?_; rintro e w' ⟨rfl, hb⟩)
      go_ret
      exact ⟨_, rfl, H.out.kept hb, hb.mono hB⟩
    · rw [e1] at K
      rw [← hn] at K H h1 hlen hk ⊢
      have A := Lib.hid (And.intro hn e2)
      clear hn e1 e2
      have hne : ((k : Int) == -1) = false := beq_eq_false_iff_ne.2 (by omega)
      go_enter Try.func57, Try.ntmps57
      go_wp2_with (go_at_call 77; refine K.mono ?_; rintro e w1 ⟨rfl, hb⟩)
      go_loopg [5, 6, 7] n (fun gg s5 s6 _ wr => ∃ (i j : Nat) (m : List Sp), s5 = .int .i64 i ∧ s6 = .int .i64 j ∧ j ≤ n ∧ n - j ≤ gg ∧ Hid (Del l m i j) ∧ Hid (Ow wr B (.slice (some ⟨g, 0, none⟩) n cap) m) ∧ Hid (Below B w wr))
      case atStart => exact ⟨k, k + 1, l, rfl, by go_num, by omega, by omega, Lib.hid (Del.start (by rw [← A.out.1]; exact hk) A.out.2), Lib.hid (H.out.kept hb), Lib.hid (hb.mono hB)⟩
      case round =>
        obtain ⟨i, j, m, rfl, rfl, hj, hgg, hD, hO, hbw⟩ := hrel
        have hi := hD.out.1
        have hbs : w.heap.size ≤ wr.heap.size := hbw.out.size
        by_cases hjn : j < n
        · have hjl : j < l.length := by rw [← A.out.1]; exact hjn
          obtain ⟨hjm, hx⟩ := hD.out.at hjl
          have c0 := hO.out.cell0 j hjm
          have c1 := hO.out.cell1 j hjm
          obtain ⟨x, hxe⟩ : ∃ x, m[j] = x := ⟨_, rfl⟩
          rw [hxe] at c0 c1
          have X := Lib.hid (show ∃ h : j < l.length, l[j] = x from ⟨hjl, by rw [← hx, hxe]⟩)
          clear hjl hxe hx hjm
          obtain ⟨f, t⟩ := x
          dsimp only at c0 c1
          have hjz : (j : Int) < (n : Int) := by omega
          go_wp2_with fail
          cases hq : emptyB f t with
          | true =>
            refine (empty_as f t _ hq _).mono ?_
            rintro e w3 ⟨rfl, hb3⟩
            have O3 := Lib.hid (hO.out.kept (((Below.refl _ _).alloc (Nat.le_refl _) _).trans (hb3.mono (by simp))))
            have b3 := Lib.hid (hbw.out.trans ((((Below.refl _ _).alloc (Nat.le_refl _) _).trans (hb3.mono (by simp))).mono (Nat.le_trans hB.out hbs)))
            clear hb3 hO hbw c0 c1
            go_wp2_with fail
            go_roundg (n - (j + 1))
            case measure => omega
            case rel =>
              obtain ⟨hjl, hx⟩ := X.out
              exact ⟨i, j + 1, m, rfl, by go_num, by omega, Nat.le_refl _, Lib.hid (hD.out.skip hjl (by rw [hx, neS]; simp [hq])), O3, b3⟩
          | false =>
            refine (empty_as f t _ hq _).mono ?_
            rintro e w3 ⟨rfl, hb3⟩
            have O3 := Lib.hid (hO.out.kept (((Below.refl _ _).alloc (Nat.le_refl _) _).trans (hb3.mono (by simp))))
            have b3 := Lib.hid (hbw.out.trans ((((Below.refl _ _).alloc (Nat.le_refl _) _).trans (hb3.mono (by simp))).mono (Nat.le_trans hB.out hbs)))
            have hr3 := heap_keep hb3 (heap_alloc_new wr (.cells #[.int .i64 f, .int .i64 t] 23))
            have v0 : w3.cell? ⟨wr.heap.size, 0, none⟩ = some (.int .i64 f) := by rw [cell_of_row _ _ _ _ _ _ hr3]; rfl
            have v1 : w3.cell? ⟨wr.heap.size, 1, none⟩ = some (.int .i64 t) := by rw [cell_of_row _ _ _ _ _ _ hr3]; rfl
            obtain ⟨y, z, ci0, ci1⟩ : ∃ y z : Int, w3.cell? ⟨g, i * 2, none⟩ = some (.int .i64 y) ∧ w3.cell? ⟨g, i * 2 + 1, none⟩ = some (.int .i64 z) := by
              have him : i < m.length := by have := O3.out.len; omega
              exact ⟨_, _, O3.out.cell0 i him, O3.out.cell1 i him⟩
            have fi0 : w3.frozen? ⟨g, i * 2, none⟩ = false := O3.out.frozen _
            have fi1 : w3.frozen? ⟨g, i * 2 + 1, none⟩ = false := O3.out.frozen _
            have him : (i : Int) < (n : Int) := by omega
            clear hb3 hr3 hO hbw c0 c1
            go_wp2_with fail
            go_roundg (n - (j + 1))
            case measure => omega
            case rel =>
              obtain ⟨hjl, hx⟩ := X.out
              have D := hD.out.keep hjl (by rw [hx, neS]; simp [hq])
              rw [hx] at D
              exact ⟨i + 1, j + 1, _, by go_num, by go_num, by omega, Nat.le_refl _, Lib.hid D, Lib.hid (O3.out.stored i (f, t)), Lib.hid ((b3.out.setCell hg _).setCell hg _)⟩
        · obtain rfl : j = n := by omega
          have hjz : ¬ (j : Int) < (j : Int) := by omega
          have hij : (i : Int) ≤ (j : Int) := by omega
          clear hlen
          have hml := hO.out.len
          obtain ⟨w4, hrun, O4, b4⟩ := run_clear_sp (c := cap - i) 0 hO.out i (by omega)
          rw [← hml] at hrun
          have hD2 := Lib.hid (show m.take i = l.filter neS from Del.done (by rw [← A.out.1]; exact hD.out))
          have R := Lib.hid (And.intro O4 (hbw.out.trans b4))
          clear O4 b4 hml hD hO
          go_wp2_with fail
          go_ret
          refine ⟨_, rfl, ?_, R.out.2⟩
          rw [← hD2.out]
          exact R.out.1
end Go.Proofs.Ytjnhkfjhkhbneaa
