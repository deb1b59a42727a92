/- What spans.Out and spans.In answer. -/
import Derived.Test.YtjnhkfjhkhbneaaSets9
import Derived.Test.YtjnhkfjhkhbneaaPlain5
namespace Go.Proofs.Ytjnhkfjhkhbneaa
open Go.RowKit SpanP

theorem Rd.lit' (w : World) (f t : Int) (g : Nat) (hg : g = w.heap.size) : Rd (w.alloc (.cells #[.int .i64 f, .int .i64 t] 23)) (.slice (some ⟨g, 0, none⟩) 1 1) [(f, t)] := by
  subst hg; exact Rd.lit w f t

theorem wrongN_two {n f t : Int} (hw : widthB n = true) : wrongN n [f, t] = if (boundB f && boundB t) = true then 0 else 7 := by
  unfold wrongN; rw [if_pos hw]; simp

set_option maxRecDepth 100000 in
set_option maxHeartbeats 4000000 in
theorem whole_any (g : Nat) (turn : Sp → Sp) (n : Int) (eg : ∀ args w, (callFunc g args).run Try.prog w = .ok (.enter g args) w)
    (hok : ∀ f t w, wrongN n [f, t] = 0 → Calls Try.prog g #[.agg #[.int .i64 f, .int .i64 t], .int .i64 n] w fun e w' => e = .returned (.tuple #[.agg #[.int .i64 (turn (f, t)).1, .int .i64 (turn (f, t)).2], .int .i64 0]) ∧ Below w.heap.size w w')
    (hbad : ∀ f t w, wrongN n [f, t] = 7 → Calls Try.prog g #[.agg #[.int .i64 f, .int .i64 t], .int .i64 n] w fun e w' => e = .returned (.tuple #[.agg #[.int .i64 0, .int .i64 0], .int .i64 7]) ∧ Below w.heap.size w w')
    (v : Value) (l : List Sp) (w : World) (hw : widthB n = true) (hr : Rd w v l) (hlen : l.length ≤ 4398046511104) :
    Calls Try.prog 69 #[v, .int .i64 n, .func (.func g) #[] #[]] w fun e w' =>
      (badL l = false ∧ ∃ v', e = .returned (.tuple #[v', .int .i64 0]) ∧ Ow w' w.heap.size v' (ofL (turnL turn l)) ∧ Below w.heap.size w w') ∨
      (badL l = true ∧ e = .returned (.tuple #[.slice none 0 0, .int .i64 7]) ∧ Below w.heap.size w w') := by
  have R := Lib.hid hr
  have K1 := Lib.hid hok
  have K2 := Lib.hid hbad
  have W := Lib.hid hw
  obtain ⟨aa, ca, rfl, ha1, ha2, hfa⟩ := hr.shape
  have FA := Lib.hid hfa
  unfold maxLen at ha2
  obtain ⟨m, hm⟩ : ∃ m, m = l.length := ⟨_, rfl⟩
  have M := Lib.hid hm
  rw [← hm] at R ha1 hlen ⊢
  have wd := width_any n
  rw [hw] at wd
  clear hm hr hfa hok hbad hw
  go_enter Try.func69, Try.ntmps69
  go_wp2_with (go_at_call 29; refine (wd _).mono ?_; rintro e w' ⟨rfl, rfl⟩)
  go_loopg [8, 10, 11, 12, 18] m (fun gg s8 _ _ _ s18 wr => ∃ (k : Nat) (vo : Value), s8 = vo ∧ s18 = .int .i64 k ∧ k ≤ m ∧ m - k ≤ gg ∧ Hid (badL (l.take k) = false) ∧ Hid (Ow wr w.heap.size vo (turnL turn (l.take k))) ∧ Hid (Below w.heap.size w wr))
  case atStart => exact ⟨0, .slice none 0 0, rfl, rfl, by omega, by omega, Lib.hid rfl, Lib.hid (Ow.nil _ _), Lib.hid (Below.refl _ _)⟩
  case round =>
    obtain ⟨k, vo, rfl, rfl, hk, hgg, hD, hO, hB⟩ := hrel
    by_cases hkm : k < m
    · have hkl : k < l.length := by rw [← M.out]; exact hkm
      obtain ⟨b, off, rfl⟩ := FA.out (by intro h; rw [h] at hkl; simp at hkl)
      have c0 := (R.out.below hB.out).cell0 k hkl
      have c1 := (R.out.below hB.out).cell1 k hkl
      obtain ⟨x, hx⟩ : ∃ x, l[k] = x := ⟨_, rfl⟩
      rw [hx] at c0 c1
      have X := Lib.hid (show ∃ h : k < l.length, l[k] = x from ⟨hkl, hx⟩)
      clear hx hkl
      obtain ⟨f, t⟩ := x
      dsimp only at c0 c1
      have hkz : (k : Int) < (m : Int) := by omega
      have hlo : (turnL turn (l.take k)).length ≤ k := Nat.le_trans (turnL_length _ _) (by simp; omega)
      go_wp2_with fail
      cases hq : emptyB f t with
      | true =>
        refine (empty_as f t _ hq _).mono ?_
        rintro e w3 ⟨rfl, hb3⟩
        have b3 := ((Below.refl _ _).alloc (Nat.le_refl _) _).trans (hb3.mono (by simp))
        have O3 := Lib.hid (hO.out.kept b3)
        have B3 := Lib.hid (hB.out.trans (b3.mono hB.out.size))
        clear hb3 b3 hO hB c0 c1
        go_wp2_with fail
        go_roundg (m - (k + 1))
        case measure => omega
        case rel =>
          obtain ⟨h1, h2⟩ := X.out
          have hn : neS l[k] = false := by rw [h2, neS]; simp [hq]
          exact ⟨k + 1, _, rfl, by go_num, by omega, Nat.le_refl _, Lib.hid (badL_step h1 hD.out (by rw [badS, hn]; rfl)), Lib.hid (by rw [turnL_skip h1 hn]; exact O3.out), B3⟩
      | false =>
        refine (empty_as f t _ hq _).mono ?_
        rintro e w3 ⟨rfl, hb3⟩
        have hr3 := heap_keep hb3 (heap_alloc_new wr (.cells #[.int .i64 f, .int .i64 t] 23))
        have v0 : w3.cell? ⟨wr.heap.size, 0, none⟩ = some (.int .i64 f) := by rw [cell_of_row _ _ _ _ _ _ hr3]; rfl
        have v1 : w3.cell? ⟨wr.heap.size, 1, none⟩ = some (.int .i64 t) := by rw [cell_of_row _ _ _ _ _ _ hr3]; rfl
        have b3 := ((Below.refl _ _).alloc (Nat.le_refl _) _).trans (hb3.mono (by simp))
        have O3 := Lib.hid (hO.out.kept b3)
        have B3 := Lib.hid (hB.out.trans (b3.mono hB.out.size))
        clear hb3 b3 hO hB c0 c1
        by_cases hbd : (boundB f && boundB t) = true
        · have hw0 : wrongN n [f, t] = 0 := by rw [wrongN_two W.out, if_pos hbd]
          have K3 := K1.out f t w3 hw0
          obtain ⟨x0, hx0⟩ : ∃ x0, (turn (f, t)).1 = x0 := ⟨_, rfl⟩
          obtain ⟨x1, hx1⟩ : ∃ x1, (turn (f, t)).2 = x1 := ⟨_, rfl⟩
          rw [hx0, hx1] at K3
          have T := Lib.hid (show turn (f, t) = (x0, x1) from Prod.ext hx0 hx1)
          clear hx0 hx1
          clear hw0 hr3
          go_wp2_with fail
          refine K3.mono ?_
          rintro e w4 ⟨rfl, b4⟩
          have O4 := Lib.hid (O3.out.kept b4)
          have B4 := Lib.hid (B3.out.trans (b4.mono B3.out.size))
          have hb5 := (Below.refl _ w4).alloc (Nat.le_refl _) (.cells #[.int .i64 x0, .int .i64 x1] 23)
          have O5 := Lib.hid (O4.out.kept hb5)
          have B5 := Lib.hid (B4.out.trans (hb5.mono B4.out.size))
          clear b4 K3 hb5
          go_wp2_with (at_builtin; refine wpList_append_sp rfl _ _ rfl w.heap.size _ _ (turnL turn (l.take k)) [(x0, x1)] rfl (O5.out.alloc _) rfl (Rd.lit' _ _ _ _ (by simp)) (Nat.le_trans B5.out.size ((Below.refl _ _).alloc (Nat.le_refl _) _).size) (by rw [List.length_singleton]; omega) ?_)
          intro v' w' o' b'
          have O' := Lib.hid o'
          have B' := Lib.hid (B5.out.trans (((Below.refl _ _).alloc B5.out.size _).trans b'))
          clear o' b' O3 B3 O4 B4 O5 B5 v0 v1
          go_wp2_with fail
          go_roundg (m - (k + 1))
          case measure => omega
          case rel =>
            obtain ⟨h1, h2⟩ := X.out
            have hn : neS l[k] = true := by rw [h2, neS]; simp [hq]
            refine ⟨k + 1, _, rfl, by go_num, by omega, Nat.le_refl _, Lib.hid (badL_step h1 hD.out (by rw [badS, h2]; simp [hbd])), Lib.hid ?_, B'⟩
            rw [turnL_step h1 hn, h2, T.out]; exact O'.out
        · have hw7 : wrongN n [f, t] = 7 := by rw [wrongN_two W.out, if_neg hbd]
          have K3 := K2.out f t w3 hw7
          clear hw7 hr3
          go_wp2_with fail
          refine K3.mono ?_
          rintro e w4 ⟨rfl, b4⟩
          have B4 := Lib.hid (B3.out.trans (b4.mono B3.out.size))
          have hb5 := (Below.refl _ w4).alloc (Nat.le_refl _) (.cells #[.int .i64 0, .int .i64 0] 23)
          have B5 := Lib.hid (B4.out.trans (hb5.mono B4.out.size))
          clear b4 K3 hb5
          go_wp2_with fail
          refine bodyPost_ret (v := .tuple #[.slice none 0 0, .int .i64 7]) (by simp [results, Try.results69, go_sem]) rfl ?_
          obtain ⟨h1, h2⟩ := X.out
          have hn : neS l[k] = true := by rw [h2, neS]; simp [hq]
          exact .inr ⟨badL_at h1 (by rw [badS, hn, h2]; cases hb1 : boundB f <;> cases hb2 : boundB t <;> simp_all), rfl, B5.out⟩
    · obtain rfl : k = m := by omega
      have hkz : ¬ (k : Int) < (k : Int) := by omega
      have hal := hD.out
      have hol := hO.out
      rw [List.take_of_length_le (by rw [← M.out]; exact Nat.le_refl _)] at hal hol
      have A := Lib.hid hal
      have O := Lib.hid hol
      have hlo : (turnL turn l).length ≤ k := by rw [M.out]; exact turnL_length _ _
      clear hal hol hD hO
      go_wp2_with fail
      refine (of_any _ (turnL turn l) wr O.out.rd (by omega)).mono ?_
      rintro e w2 ⟨v2, rfl, o2, b2⟩
      have O2 := Lib.hid (o2.mono hB.out.size)
      have B2 := Lib.hid (hB.out.trans (b2.mono hB.out.size))
      clear o2 b2 hB O
      go_wp2_with fail
      refine bodyPost_ret (v := .tuple #[v2, .int .i64 0]) (by simp [results, Try.results69, go_sem]) rfl ?_
      exact .inl ⟨A.out, _, rfl, O2.out, B2.out⟩
end Go.Proofs.Ytjnhkfjhkhbneaa
