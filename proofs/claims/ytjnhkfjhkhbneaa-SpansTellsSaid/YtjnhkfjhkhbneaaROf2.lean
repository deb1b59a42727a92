/- What the document's of answers, at 2. -/
import Derived.Test.YtjnhkfjhkhbneaaROf0
import Derived.Deep.AppendLies
namespace Go.Proofs.Ytjnhkfjhkhbneaa
open Go.RowKit SpanP
set_option maxRecDepth 100000 in
set_option maxHeartbeats 8000000 in
theorem rof2_any (va vb : Value) (a b : List Sp) (w : World) (hra : Rd w va a) (hrb : Rd w vb b) (hlen : (a ++ b).length ≤ 100) :
    Calls Try.prog 74 #[va, vb, .int .i64 2] w (OfPost (opL 2 a b) w) := by
  have RA := Lib.hid hra
  have RB := Lib.hid hrb
  have LA := Lib.hid (show a.length ≤ 100 by rw [List.length_append] at hlen; omega)
  have LB := Lib.hid (show b.length ≤ 100 by rw [List.length_append] at hlen; omega)
  have LAB := Lib.hid hlen
  clear hra hrb hlen
  go_enter Try.func74, Try.ntmps74
  go_wp2_with (at_builtin; refine wpList_append_sp rfl _ _ rfl w.heap.size _ _ [] a rfl (Ow.nil _ _) rfl RA.out (Nat.le_refl _) (by have := LA.out; simp only [List.length_nil]; omega) ?_)
  intro v1 w1 o1 b1
  have O1 := Lib.hid (show Ow w1 w.heap.size v1 a by simpa using o1)
  have B1 := Lib.hid b1
  clear o1 b1
  go_wp2_with (at_builtin; refine wpList_append_sp rfl _ _ rfl w.heap.size _ _ a b rfl O1.out rfl (RB.out.below B1.out) B1.out.size (by have := LA.out; have := LB.out; omega) ?_)
  intro v2 w2 o2 b2
  have X2 := Lib.hid o2.rd
  have B2 := Lib.hid (B1.out.trans b2)
  clear o2 b2 O1 B1
  go_wp2_with fail
  refine (ends_any v2 (a ++ b) w2 X2.out LAB.out).mono ?_
  rintro e w3 ⟨v3, c, rfl, o3, e3, b3⟩
  have B3 := Lib.hid (B2.out.trans (b3.mono B2.out.size))
  have C3 := Lib.hid o3
  have CP := Lib.hid (cut_op 2 e3)
  obtain ⟨ac, cc, rfl, hc1, hc2, hac⟩ := o3.shape
  have AC := Lib.hid hac
  unfold maxLen at hc2
  obtain ⟨nc, hnc⟩ : ∃ m, m = c.length := ⟨_, rfl⟩
  have NC := Lib.hid hnc
  have hnc2 : nc ≤ 200 := by rw [hnc]; have h1 := endsP_rise e3; have h2 := LAB.out; omega
  rw [← hnc] at C3 hc1 ⊢
  clear o3 e3 b3 hac hnc X2 B2
  obtain ⟨f, hf⟩ : ∃ f : Int → Bool, f = fun t => opB 2 (hasL a t) (hasL b t) := ⟨_, rfl⟩
  rw [← hf] at CP
  have FF := Lib.hid hf
  clear hf
  go_wp2_with fail
  go_loopg [8, 9] nc (fun gg s8 s9 wr => ∃ (i : Nat) (out : List Sp), s9 = .int .i64 i ∧ i ≤ nc - 1 ∧ nc - i ≤ gg ∧ Hid (Ow wr w3.heap.size s8 out) ∧ Hid (InvP c f i out) ∧ Hid (Below w3.heap.size w3 wr))
  case atStart => exact ⟨0, [], rfl, by omega, by omega, Lib.hid (Ow.nil _ _), Lib.hid (InvP.start CP.out), Lib.hid (Below.refl _ _)⟩
  case round =>
    obtain ⟨i, out, rfl, hi, hgg, hO, hI, hB⟩ := hrel
    by_cases hin : i + 1 < nc
    · have hil : i + 1 < c.length := by rw [← NC.out]; exact hin
      obtain ⟨g, rfl⟩ := AC.out (by intro h; rw [h] at hil; simp at hil)
      obtain ⟨x, hx⟩ : ∃ x, c[i]'(by omega) = x := ⟨_, rfl⟩
      obtain ⟨y, hy⟩ : ∃ y, c[i + 1] = y := ⟨_, rfl⟩
      have CX := Lib.hid (show ∀ W, Below w3.heap.size w3 W → W.cell? ⟨g, i, none⟩ = some (.int .i64 x) from fun W h => by rw [← hx]; exact (C3.out.kept h).cell i (by omega))
      have CY := Lib.hid (show ∀ W, Below w3.heap.size w3 W → W.cell? ⟨g, i + 1, none⟩ = some (.int .i64 y) from fun W h => by rw [← hy]; exact (C3.out.kept h).cell (i + 1) hil)
      have X := Lib.hid (show c[i]? = some x by rw [← hx]; exact List.getElem?_eq_getElem _)
      have Y := Lib.hid (show c[i + 1]? = some y by rw [← hy]; exact List.getElem?_eq_getElem _)
      clear hx hy hil
      obtain ⟨p, hp⟩ : ∃ p, hasL a x = p := ⟨_, rfl⟩
      obtain ⟨q, hq⟩ : ∃ q, hasL b x = q := ⟨_, rfl⟩
      have FX := Lib.hid (show f x = opB 2 p q by rw [FF.out, ← hp, ← hq])
      have H1 := Lib.hid (show ∀ u : Up wr.heap.size wr, Calls Try.prog 52 #[va, .int .i64 x] u.w fun e w' => e = .returned (.bool p) ∧ u.w = w' from
        fun u => rhas_any va a x p hp u.w (((RA.out.below B3.out).below hB.out).below u.below) (Nat.le_trans LA.out (by decide)))
      have H2 := Lib.hid (show ∀ u : Up wr.heap.size wr, Calls Try.prog 52 #[vb, .int .i64 x] u.w fun e w' => e = .returned (.bool q) ∧ u.w = w' from
        fun u => rhas_any vb b x q hq u.w (((RB.out.below B3.out).below hB.out).below u.below) (Nat.le_trans LB.out (by decide)))
      clear hp hq
      have c0 := fun u : Up wr.heap.size wr => CX.out u.w (hB.out.trans (u.below.mono hB.out.size))
      have hiz : (i : Int) + 1 < (nc : Int) := by omega
      have hiz0 : (i : Int) < (nc : Int) := by omega
      have hi0 : (0 : Int) ≤ (i : Int) := by omega
      have hi1 : (0 : Int) ≤ (i : Int) + 1 := by omega
      have hwi : IntKind.i64.wrap ((i : Int) + 1) = (i : Int) + 1 := IntWalk.i64_in _ (by omega)
      go_wp2_with fail
      refine wp_region_up wr.heap.size wr (by kernel_rfl) (by kernel_rfl) (Below.refl _ _) ?_
      repeat (go_big_quiet_step (first | with_reducible exact Calls.same _ (H1.out _) | with_reducible exact Calls.same _ (H2.out _)))
      refine wpQuiet_nil ?_
      rintro wu ⟨⟨_, hu⟩, rfl⟩
      have B4 := Lib.hid (hB.out.trans (hu.mono hB.out.size))
      have O4 := Lib.hid (hO.out.kept hu)
      clear hu hB hO c0 H1 H2
      cases p
      · cases q
        · have I5 := Lib.hid (hI.out.skip CP.out X.out Y.out (by rw [FX.out]; rfl))
          go_wp2_with fail
          go_roundg (nc - (i + 1))
          case measure => omega
          case rel => exact ⟨i + 1, out, by go_num, by omega, Nat.le_refl _, O4, I5, B4⟩
        · have I5 := Lib.hid (hI.out.skip CP.out X.out Y.out (by rw [FX.out]; rfl))
          go_wp2_with fail
          go_roundg (nc - (i + 1))
          case measure => omega
          case rel => exact ⟨i + 1, out, by go_num, by omega, Nat.le_refl _, O4, I5, B4⟩
      · cases q
        · have OL := Lib.hid (show out.length ≤ 200 by have h := hI.out.2.2.2; omega)
          have d0 := fun u : Up wu.heap.size wu => CX.out u.w (B4.out.trans (u.below.mono B4.out.size))
          rcases snoc_cases out with rfl | ⟨r, z, rfl⟩
          · have I5 := Lib.hid (hI.out.more CP.out X.out Y.out (by rw [FX.out]; rfl) (fun r z h => by simp at h))
            rcases O4.out.parts with ⟨rfl, _⟩ | ⟨g2, cap2, rfl, _, _, _, hcap2⟩
            · go_wp2_with fail
              refine wp_region_up wu.heap.size wu (by kernel_rfl) (by kernel_rfl) (Below.refl _ _) ?_
              repeat (go_big_quiet_step (fail))
              refine wpQuiet_nil ?_
              rintro wv ⟨⟨_, hu⟩, rfl⟩
              clear d0
              have B5 := Lib.hid (B4.out.trans (hu.mono B4.out.size))
              have O5 := Lib.hid (O4.out.kept hu)
              have c0 := CX.out wv B5.out
              have c1 := CY.out wv B5.out
              clear hu O4 B4
              go_wp2_with fail
              have O6 := Lib.hid (O5.out.kept (Below.refl _ _).drew)
              have B6 := Lib.hid B5.out.drew
              have RL := Lib.hid (show Rd (wv.drew.alloc (.cells #[.int .i64 x, .int .i64 y] 23)) (.slice (some ⟨wv.heap.size, 0, none⟩) 1 1) [(x, y)] from Rd.lit wv.drew x y)
              have B8 := Lib.hid (B6.out.trans ((bone wv.drew (.cells #[.int .i64 x, .int .i64 y] 23)).mono B6.out.size))
              have O8 := Lib.hid (show Ow (wv.drew.alloc (.cells #[.int .i64 x, .int .i64 y] 23)) w3.heap.size _ [] from O6.out.alloc _)
              have S8 := Lib.hid (show w3.heap.size ≤ (wv.drew.alloc (.cells #[.int .i64 x, .int .i64 y] 23)).heap.size from B8.out.size)
              have L8 := Lib.hid (show ([]).length + ([(x, y)] : List Sp).length ≤ 4398046511104 from Nat.le_trans (Nat.add_le_add_right OL.out 1) (by decide))
              go_region_held3 (fun w' => w'.cell? ⟨g, i, none⟩ = some (.int .i64 x) ∧ w'.cell? ⟨g, i + 1, none⟩ = some (.int .i64 y))
                (first
                  | exact ⟨c0, c1⟩
                  | exact ⟨CX.out _ (B8.out.trans b7), CY.out _ (B8.out.trans b7)⟩
                  | exact ⟨CX.out _ B8.out, CY.out _ B8.out⟩)
                (first
                  | (refine step_append_sp rfl (.tmp 96) (.tmp 107) rfl w3.heap.size _ _ [] [(x, y)] (by rfl) O8.out (by rfl) RL.out S8.out L8.out ?_; intro v7 w7 o7 b7)
                  | fail)
              have O7 := Lib.hid o7
              have B7 := Lib.hid (B8.out.trans b7)
              have I5 := Lib.hid (show InvP c f (i + 1) ([] ++ [(x, y)]) from I5.out)
              clear o7 b7 O6 B6 O8 B8 RL S8 L8 c0 c1
              go_wp2_with fail
              go_roundg (nc - (i + 1))
              case measure => omega
              case rel => exact ⟨i + 1, _, by go_num, by omega, Nat.le_refl _, O7, by first | exact I5 | (have h := I5.out; simp only [List.append_assoc, List.singleton_append] at h; exact Lib.hid h), B7⟩
            · simp only [List.length_nil] at O4 ⊢
              have hcap3 : cap2 ≤ 9223372036854775807 := by unfold maxLen at hcap2; exact hcap2
              clear hcap2
              go_wp2_with fail
              refine wp_region_up wu.heap.size wu (by kernel_rfl) (by kernel_rfl) (Below.refl _ _) ?_
              repeat (go_big_quiet_step (fail))
              refine wpQuiet_nil ?_
              rintro wv ⟨⟨_, hu⟩, rfl⟩
              clear d0
              have B5 := Lib.hid (B4.out.trans (hu.mono B4.out.size))
              have O5 := Lib.hid (O4.out.kept hu)
              have c0 := CX.out wv B5.out
              have c1 := CY.out wv B5.out
              clear hu O4 B4
              go_wp2_with fail
              have O6 := Lib.hid (O5.out.kept (Below.refl _ _).drew)
              have B6 := Lib.hid B5.out.drew
              have RL := Lib.hid (show Rd (wv.drew.alloc (.cells #[.int .i64 x, .int .i64 y] 23)) (.slice (some ⟨wv.heap.size, 0, none⟩) 1 1) [(x, y)] from Rd.lit wv.drew x y)
              have B8 := Lib.hid (B6.out.trans ((bone wv.drew (.cells #[.int .i64 x, .int .i64 y] 23)).mono B6.out.size))
              have O8 := Lib.hid (show Ow (wv.drew.alloc (.cells #[.int .i64 x, .int .i64 y] 23)) w3.heap.size _ [] from O6.out.alloc _)
              have S8 := Lib.hid (show w3.heap.size ≤ (wv.drew.alloc (.cells #[.int .i64 x, .int .i64 y] 23)).heap.size from B8.out.size)
              have L8 := Lib.hid (show ([]).length + ([(x, y)] : List Sp).length ≤ 4398046511104 from Nat.le_trans (Nat.add_le_add_right OL.out 1) (by decide))
              go_region_held3 (fun w' => w'.cell? ⟨g, i, none⟩ = some (.int .i64 x) ∧ w'.cell? ⟨g, i + 1, none⟩ = some (.int .i64 y))
                (first
                  | exact ⟨c0, c1⟩
                  | exact ⟨CX.out _ (B8.out.trans b7), CY.out _ (B8.out.trans b7)⟩
                  | exact ⟨CX.out _ B8.out, CY.out _ B8.out⟩)
                (first
                  | (refine step_append_sp rfl (.tmp 96) (.tmp 107) rfl w3.heap.size _ _ [] [(x, y)] (by rfl) O8.out (by rfl) RL.out S8.out L8.out ?_; intro v7 w7 o7 b7)
                  | fail)
              have O7 := Lib.hid o7
              have B7 := Lib.hid (B8.out.trans b7)
              have I5 := Lib.hid (show InvP c f (i + 1) ([] ++ [(x, y)]) from I5.out)
              clear o7 b7 O6 B6 O8 B8 RL S8 L8 c0 c1
              go_wp2_with fail
              go_roundg (nc - (i + 1))
              case measure => omega
              case rel => exact ⟨i + 1, _, by go_num, by omega, Nat.le_refl _, O7, by first | exact I5 | (have h := I5.out; simp only [List.append_assoc, List.singleton_append] at h; exact Lib.hid h), B7⟩
          · obtain ⟨g2, cap2, rfl, hg1, hg2, hg3, hg4, hz, hfz⟩ := O4.out.shape
            have OL2 := Lib.hid (show r.length ≤ 200 by have h := OL.out; rw [List.length_append] at h; omega)
            have hcap3 : cap2 ≤ 9223372036854775807 := by unfold maxLen at hg4; exact hg4
            obtain ⟨m, hm⟩ : ∃ m, m = r.length := ⟨_, rfl⟩
            have hm2 : m ≤ 200 := by rw [hm]; exact OL2.out
            have M := Lib.hid hm
            have Z4 := Lib.hid (show ∀ u : Up wu.heap.size wu, u.w.cell? ⟨g2, m * 2 + 1, none⟩ = some (.int .i64 z.2) from fun u => by
              obtain ⟨g', c', e, _, _, _, _, h, _⟩ := (O4.out.kept u.below).shape
              simp only [Value.slice.injEq, Option.some.injEq, Addr.mk.injEq, and_true] at e
              rw [hm, e.1]; exact h)
            rw [← hm] at O4 hz hfz hg3 ⊢
            clear hm hg4 hz hfz
            have hwm : IntKind.i64.wrap (m : Int) = (m : Int) := IntWalk.i64_in _ (by omega)
            have hm0 : (0 : Int) ≤ (m : Int) := by omega
            have hm1 : (m : Int) < (m : Int) + 1 := by omega
            have hdm : decide ((0 : Int) < (m : Int) + 1) = true := decide_eq_true (by omega)
            obtain ⟨zf, zt⟩ := z
            have d1 := Z4.out
            dsimp only at d1
            by_cases hzx : zt = x
            · subst hzx
              have I5 := Lib.hid (hI.out.join CP.out X.out Y.out (by rw [FX.out]; rfl) rfl)
              go_wp2_with fail
              refine wp_region_up wu.heap.size wu (by kernel_rfl) (by kernel_rfl) (Below.refl _ _) ?_
              repeat (go_big_quiet_step (fail))
              refine wpQuiet_nil ?_
              rintro wv ⟨⟨_, hu⟩, rfl⟩
              clear d0 d1
              have B5 := Lib.hid (B4.out.trans (hu.mono B4.out.size))
              have O5 := Lib.hid (O4.out.kept hu)
              have c1 := CY.out wv B5.out
              have e1 := Z4.out ⟨wv, hu⟩
              dsimp only at e1
              have e2 : wv.frozen? ⟨g2, m * 2 + 1, none⟩ = false := O5.out.frozen _
              clear hu O4 B4
              go_wp2_with fail
              have O6 := Lib.hid (show Ow (wv.setCell ⟨g2, m * 2 + 1, none⟩ (.int .i64 y)) w3.heap.size (.slice (some ⟨g2, 0, none⟩) (m + 1) cap2) (r ++ [(zf, y)]) by
                have h := O5.out
                rw [M.out] at h ⊢
                exact h.last y)
              have B6 := Lib.hid (show Below w3.heap.size w3 (wv.setCell ⟨g2, m * 2 + 1, none⟩ (.int .i64 y)) from B5.out.setCell hg1 _)
              go_roundg (nc - (i + 1))
              case measure => omega
              case rel => exact ⟨i + 1, _, by go_num, by omega, Nat.le_refl _, O6, I5, B6⟩
            · have I5 := Lib.hid (hI.out.more CP.out X.out Y.out (by rw [FX.out]; rfl) (fun r' z' h => by
                have e := List.append_inj_right' h rfl
                simp only [List.cons.injEq, and_true] at e
                rw [← e]; exact hzx))
              have hze : (zt == x) = false := by simpa using hzx
              clear hzx
              go_wp2_with fail
              refine wp_region_up wu.heap.size wu (by kernel_rfl) (by kernel_rfl) (Below.refl _ _) ?_
              repeat (go_big_quiet_step (fail))
              refine wpQuiet_nil ?_
              rintro wv ⟨⟨_, hu⟩, rfl⟩
              clear d0 d1
              have B5 := Lib.hid (B4.out.trans (hu.mono B4.out.size))
              have O5 := Lib.hid (O4.out.kept hu)
              have c0 := CX.out wv B5.out
              have c1 := CY.out wv B5.out
              clear hu O4 B4
              go_wp2_with fail
              have O6 := Lib.hid (O5.out.kept (Below.refl _ _).drew)
              have B6 := Lib.hid B5.out.drew
              have RL := Lib.hid (show Rd (wv.drew.alloc (.cells #[.int .i64 x, .int .i64 y] 23)) (.slice (some ⟨wv.heap.size, 0, none⟩) 1 1) [(x, y)] from Rd.lit wv.drew x y)
              have B8 := Lib.hid (B6.out.trans ((bone wv.drew (.cells #[.int .i64 x, .int .i64 y] 23)).mono B6.out.size))
              have O8 := Lib.hid (show Ow (wv.drew.alloc (.cells #[.int .i64 x, .int .i64 y] 23)) w3.heap.size _ (r ++ [(zf, zt)]) from O6.out.alloc _)
              have S8 := Lib.hid (show w3.heap.size ≤ (wv.drew.alloc (.cells #[.int .i64 x, .int .i64 y] 23)).heap.size from B8.out.size)
              have L8 := Lib.hid (show ((r ++ [(zf, zt)])).length + ([(x, y)] : List Sp).length ≤ 4398046511104 from Nat.le_trans (Nat.add_le_add_right OL.out 1) (by decide))
              go_region_held3 (fun w' => w'.cell? ⟨g, i, none⟩ = some (.int .i64 x) ∧ w'.cell? ⟨g, i + 1, none⟩ = some (.int .i64 y))
                (first
                  | exact ⟨c0, c1⟩
                  | exact ⟨CX.out _ (B8.out.trans b7), CY.out _ (B8.out.trans b7)⟩
                  | exact ⟨CX.out _ B8.out, CY.out _ B8.out⟩)
                (first
                  | (refine step_append_sp rfl (.tmp 96) (.tmp 107) rfl w3.heap.size _ _ (r ++ [(zf, zt)]) [(x, y)] (by rfl) O8.out (by rfl) RL.out S8.out L8.out ?_; intro v7 w7 o7 b7)
                  | fail)
              have O7 := Lib.hid o7
              have B7 := Lib.hid (B8.out.trans b7)
              have I5 := Lib.hid (show InvP c f (i + 1) ((r ++ [(zf, zt)]) ++ [(x, y)]) from I5.out)
              clear o7 b7 O6 B6 O8 B8 RL S8 L8 c0 c1
              go_wp2_with fail
              go_roundg (nc - (i + 1))
              case measure => omega
              case rel => exact ⟨i + 1, _, by go_num, by omega, Nat.le_refl _, O7, by first | exact I5 | (have h := I5.out; simp only [List.append_assoc, List.singleton_append] at h; exact Lib.hid h), B7⟩
        · have I5 := Lib.hid (hI.out.skip CP.out X.out Y.out (by rw [FX.out]; rfl))
          go_wp2_with fail
          go_roundg (nc - (i + 1))
          case measure => omega
          case rel => exact ⟨i + 1, out, by go_num, by omega, Nat.le_refl _, O4, I5, B4⟩
    · have hn : ¬ i + 1 < c.length := by rw [← NC.out]; exact hin
      have E5 := Lib.hid (show out = opL 2 a b from by
        have h1 := CP.out
        have h2 := hI.out
        rw [FF.out] at h1 h2
        exact h2.all h1 (by rw [← NC.out]; exact hi) hn)
      have hiz : ¬ ((i : Int) + 1 < (nc : Int)) := by omega
      have hiz2 : (nc : Int) ≤ (i : Int) + 1 := by omega
      clear hn
      go_wp2_with fail
      go_ret
      exact ⟨_, rfl, by rw [← E5.out]; exact hO.out.mono B3.out.size, B3.out.trans (hB.out.mono B3.out.size)⟩
end Go.Proofs.Ytjnhkfjhkhbneaa
