/- The law SpansForm: its function returns true. -/
import Derived.Test.YtjnhkfjhkhbneaaSwap
namespace Go.Proofs.Ytjnhkfjhkhbneaa
open Go.RowKit SpanP

set_option maxRecDepth 100000 in
set_option maxHeartbeats 8000000 in
theorem spansForm_walk (va vb : Value) (a b : List Sp) (t : Int) (w : World) (hra : Rd w va a) (hrb : Rd w vb b) :
    Calls Try.prog 4 #[va, vb, .int .i64 t] w fun e w' => e = .returned (.bool true) ∧ Below w.heap.size w w' := by
  obtain ⟨g, hg⟩ : ∃ g, greatB [a.length, b.length] = g := ⟨_, rfl⟩
  have G := Lib.hid hg
  have RA := Lib.hid hra
  obtain ⟨aa, ca, rfl, ha1, ha2, hfa⟩ := hra.shape
  have FA := Lib.hid hfa
  clear hfa
  have RB := Lib.hid hrb
  obtain ⟨ab, cb, rfl, hb1, hb2, hfb⟩ := hrb.shape
  have FB := Lib.hid hfb
  clear hfb
  have K1 := great2 _ _ a b g hg w hra hrb
  unfold maxLen at ha2 hb2
  obtain ⟨na, hna⟩ : ∃ m, m = a.length := ⟨_, rfl⟩
  have NA := Lib.hid hna
  rw [← hna] at RA ha1 K1 ⊢
  clear hna hra
  obtain ⟨nb, hnb⟩ : ∃ m, m = b.length := ⟨_, rfl⟩
  have NB := Lib.hid hnb
  rw [← hnb] at RB hb1 K1 ⊢
  clear hnb hrb
  clear hg
  cases g with
  | true =>
    go_enter Try.func4, Try.ntmps4
    go_wp2_with fail
    refine K1.mono ?_
    rintro e w1 ⟨rfl, b1⟩
    have B1 := Lib.hid (bup (bone w _) b1)
    clear b1 K1
    go_wp2_with fail
    refine (wakes_set _).mono ?_
    rintro e wz ⟨rfl, bz⟩
    have BZ := Lib.hid (bup B1.out bz)
    clear bz
    go_wp2_with fail
    go_ret
    exact ⟨rfl, BZ.out⟩
  | false =>
    have LA := Lib.hid (great_le G.out a.length (by simp))
    have LB := Lib.hid (great_le G.out b.length (by simp))
    have hna : na ≤ 40 := by rw [NA.out]; exact LA.out
    have hnb : nb ≤ 40 := by rw [NB.out]; exact LB.out
    clear G
    go_enter Try.func4, Try.ntmps4
    go_wp2_with fail
    refine K1.mono ?_
    rintro e w1 ⟨rfl, b1⟩
    have B1 := Lib.hid (bup (bone w _) b1)
    clear b1 K1
    go_wp2_with fail
    refine (own_any _ (a) _ (RA.out.below B1.out) (Nat.le_trans LA.out (by decide : 40 ≤ 4398046511104))).mono ?_
    rintro e w2 ⟨v2, rfl, o2, b2⟩
    have B2 := Lib.hid b2
    have X2 := Lib.hid o2.rd
    clear o2 b2
    go_wp2_with fail
    refine (own_any _ (b) _ (RB.out.below (bup B1.out B2.out)) (Nat.le_trans LB.out (by decide : 40 ≤ 4398046511104))).mono ?_
    rintro e w3 ⟨v3, rfl, o3, b3⟩
    have B3 := Lib.hid b3
    have X3 := Lib.hid o3.rd
    clear o3 b3
    go_wp2_with fail
    have NL3 := Lib.hid (show (orL (a) (b)).length ≤ 80 from Nat.le_trans (orL_length _ _) (Nat.add_le_add LA.out LB.out))
    refine (or_any _ _ (a) (b) _ (X2.out.below B3.out) X3.out (Nat.le_trans LA.out (by decide : 40 ≤ 2199023255552)) (Nat.le_trans LB.out (by decide : 40 ≤ 2199023255552))).mono ?_
    rintro e w4 ⟨v4, rfl, o4, b4⟩
    have B4 := Lib.hid b4
    have X4 := Lib.hid o4.rd
    clear o4 b4
    go_wp2_with fail
    clear X2 X3
    refine (own_any _ (a) _ (RA.out.below (bup (bup (bup B1.out B2.out) B3.out) B4.out)) (Nat.le_trans LA.out (by decide : 40 ≤ 4398046511104))).mono ?_
    rintro e w5 ⟨v5, rfl, o5, b5⟩
    have B5 := Lib.hid b5
    have X5 := Lib.hid o5.rd
    clear o5 b5
    go_wp2_with fail
    refine (own_any _ (b) _ (RB.out.below (bup (bup (bup (bup B1.out B2.out) B3.out) B4.out) B5.out)) (Nat.le_trans LB.out (by decide : 40 ≤ 4398046511104))).mono ?_
    rintro e w6 ⟨v6, rfl, o6, b6⟩
    have B6 := Lib.hid b6
    have X6 := Lib.hid o6.rd
    clear o6 b6
    go_wp2_with fail
    have NL4 := Lib.hid (show (andL (a) (b)).length ≤ 1600 from Nat.le_trans (andL_length _ _) (Nat.mul_le_mul LA.out LB.out))
    refine (and_set _ _ (a) (b) _ (X5.out.below B6.out) X6.out (Nat.le_trans LA.out (by decide : 40 ≤ 4398046511104)) (Nat.le_trans LB.out (by decide : 40 ≤ 4398046511104)) (Nat.le_trans (Nat.mul_le_mul LA.out LB.out) (by decide : 40 * 40 ≤ 4398046511104))).mono ?_
    rintro e w7 ⟨v7, rfl, o7, b7⟩
    have B7 := Lib.hid b7
    have X7 := Lib.hid o7.rd
    clear o7 b7
    go_wp2_with fail
    clear X5 X6
    refine (own_any _ (a) _ (RA.out.below (bup (bup (bup (bup (bup (bup B1.out B2.out) B3.out) B4.out) B5.out) B6.out) B7.out)) (Nat.le_trans LA.out (by decide : 40 ≤ 4398046511104))).mono ?_
    rintro e w8 ⟨v8, rfl, o8, b8⟩
    have B8 := Lib.hid b8
    have X8 := Lib.hid o8.rd
    clear o8 b8
    go_wp2_with fail
    refine (own_any _ (b) _ (RB.out.below (bup (bup (bup (bup (bup (bup (bup B1.out B2.out) B3.out) B4.out) B5.out) B6.out) B7.out) B8.out)) (Nat.le_trans LB.out (by decide : 40 ≤ 4398046511104))).mono ?_
    rintro e w9 ⟨v9, rfl, o9, b9⟩
    have B9 := Lib.hid b9
    have X9 := Lib.hid o9.rd
    clear o9 b9
    go_wp2_with fail
    have NL5 := Lib.hid (show (minusL (a) (b)).length ≤ 80 from Nat.le_trans (minusL_length _ _) (Nat.add_le_add LA.out LB.out))
    refine (minus_any _ _ (a) (b) _ (X8.out.below B9.out) X9.out (Nat.le_trans LA.out (by decide : 40 ≤ 1099511627776)) (Nat.le_trans LB.out (by decide : 40 ≤ 1099511627776))).mono ?_
    rintro e w10 ⟨v10, rfl, o10, b10⟩
    have B10 := Lib.hid b10
    have X10 := Lib.hid o10
    clear o10 b10
    go_wp2_with fail
    clear X8 X9
    have NL6 := Lib.hid (show (ofL (a)).length ≤ 40 from Nat.le_trans (ofL_length _) LA.out)
    refine (of_any _ (a) _ (RA.out.below (bup (bup (bup (bup (bup (bup (bup (bup (bup B1.out B2.out) B3.out) B4.out) B5.out) B6.out) B7.out) B8.out) B9.out) B10.out)) (Nat.le_trans LA.out (by decide : 40 ≤ 4398046511104))).mono ?_
    rintro e w11 ⟨v11, rfl, o11, b11⟩
    have B11 := Lib.hid b11
    have X11 := Lib.hid o11.rd
    clear o11 b11
    go_wp2_with fail
    go_loopg [11, 13] na (fun gg s11 s13 wr => ∃ (k : Nat) (p : Bool), s11 = .bool p ∧ s13 = .int .i64 k ∧ k ≤ na ∧ na - k ≤ gg ∧ Hid (hasL (a.take k) t = p) ∧ Hid (Below w11.heap.size w11 wr))
    case atStart => exact ⟨0, false, rfl, rfl, by omega, by omega, Lib.hid rfl, Lib.hid (Below.refl _ _)⟩
    case round =>
      obtain ⟨k, p, rfl, rfl, hk, hgg, hP, hB⟩ := hrel
      by_cases hkn : k < na
      · have hkl : k < a.length := by rw [← NA.out]; exact hkn
        obtain ⟨bb, ob, rfl⟩ := FA.out (by intro h; rw [h] at hkl; simp at hkl)
        have rr := RA.out.below (bup (bup (bup (bup (bup (bup (bup (bup (bup (bup (bup B1.out B2.out) B3.out) B4.out) B5.out) B6.out) B7.out) B8.out) B9.out) B10.out) B11.out) hB.out)
        have c0 := rr.cell0 k hkl
        have c1 := rr.cell1 k hkl
        obtain ⟨x, hx⟩ : ∃ x, a[k] = x := ⟨_, rfl⟩
        rw [hx] at c0 c1
        have X := Lib.hid (show hasL (a.take (k + 1)) t = (hasL (a.take k) t || hasB x.1 x.2 t) by rw [hasL_take hkl, hx])
        clear hx hkl rr
        obtain ⟨f, u⟩ := x
        dsimp only at c0 c1 X
        have hkz : (k : Int) < (na : Int) := by omega
        cases p with
        | true =>
          go_wp2_with fail
          go_roundg (na - (k + 1))
          case measure => omega
          case rel => exact ⟨k + 1, true, rfl, by go_num, by omega, Nat.le_refl _, Lib.hid (by rw [X.out, hP.out]; rfl), hB⟩
        | false =>
          obtain ⟨q, hq⟩ : ∃ q, hasB f u t = q := ⟨_, rfl⟩
          have Q := Lib.hid hq
          clear hq
          go_wp2_with fail
          refine (has_as f u t q Q.out _).mono ?_
          rintro e wy ⟨rfl, by2⟩
          have hB' := Lib.hid (bup hB.out by2)
          clear by2 hB c0 c1
          go_wp2_with fail
          go_roundg (na - (k + 1))
          case measure => omega
          case rel => exact ⟨k + 1, q, rfl, by go_num, by omega, Nat.le_refl _, Lib.hid (by rw [X.out, hP.out, Q.out]; rfl), hB'⟩
      · obtain rfl : k = na := by omega
        have hkz : ¬ (k : Int) < (k : Int) := by omega
        have hp := hP.out
        rw [show a.take k = a from List.take_of_length_le (by rw [← NA.out]; exact Nat.le_refl _)] at hp
        have Tp := Lib.hid hp
        obtain ⟨w12, hw⟩ : ∃ x, x = wr := ⟨_, rfl⟩
        subst hw
        have B12 := hB
        clear hp hP hB hgg
        go_wp2_with fail
        go_loopg [12, 14] nb (fun gg s12 s14 wr => ∃ (k : Nat) (p : Bool), s12 = .bool p ∧ s14 = .int .i64 k ∧ k ≤ nb ∧ nb - k ≤ gg ∧ Hid (hasL (b.take k) t = p) ∧ Hid (Below w12.heap.size w12 wr))
        case atStart => exact ⟨0, false, rfl, rfl, by omega, by omega, Lib.hid rfl, Lib.hid (Below.refl _ _)⟩
        case round =>
          obtain ⟨i, q, rfl, rfl, hk, hgg, hP, hB⟩ := hrel
          by_cases hkn : i < nb
          · have hkl : i < b.length := by rw [← NB.out]; exact hkn
            obtain ⟨bb, ob, rfl⟩ := FB.out (by intro h; rw [h] at hkl; simp at hkl)
            have rr := RB.out.below (bup (bup (bup (bup (bup (bup (bup (bup (bup (bup (bup (bup B1.out B2.out) B3.out) B4.out) B5.out) B6.out) B7.out) B8.out) B9.out) B10.out) B11.out) B12.out) hB.out)
            have c0 := rr.cell0 i hkl
            have c1 := rr.cell1 i hkl
            obtain ⟨x, hx⟩ : ∃ x, b[i] = x := ⟨_, rfl⟩
            rw [hx] at c0 c1
            have X := Lib.hid (show hasL (b.take (i + 1)) t = (hasL (b.take i) t || hasB x.1 x.2 t) by rw [hasL_take hkl, hx])
            clear hx hkl rr
            obtain ⟨f, u⟩ := x
            dsimp only at c0 c1 X
            have hkz : (i : Int) < (nb : Int) := by omega
            cases q with
            | true =>
              go_wp2_with fail
              go_roundg (nb - (i + 1))
              case measure => omega
              case rel => exact ⟨i + 1, true, rfl, by go_num, by omega, Nat.le_refl _, Lib.hid (by rw [X.out, hP.out]; rfl), hB⟩
            | false =>
              obtain ⟨q, hq⟩ : ∃ q, hasB f u t = q := ⟨_, rfl⟩
              have Q := Lib.hid hq
              clear hq
              go_wp2_with fail
              refine (has_as f u t q Q.out _).mono ?_
              rintro e wy ⟨rfl, by2⟩
              have hB' := Lib.hid (bup hB.out by2)
              clear by2 hB c0 c1
              go_wp2_with fail
              go_roundg (nb - (i + 1))
              case measure => omega
              case rel => exact ⟨i + 1, q, rfl, by go_num, by omega, Nat.le_refl _, Lib.hid (by rw [X.out, hP.out, Q.out]; rfl), hB'⟩
          · obtain rfl : i = nb := by omega
            have hkz : ¬ (i : Int) < (i : Int) := by omega
            have hq := hP.out
            rw [show b.take i = b from List.take_of_length_le (by rw [← NB.out]; exact Nat.le_refl _)] at hq
            have Tq := Lib.hid hq
            obtain ⟨w13, hw⟩ : ∃ x, x = wr := ⟨_, rfl⟩
            subst hw
            have B13 := hB
            clear hq hP hB hgg
            go_wp2_with fail
            have PF := Lib.hid (show hasL (ofL a) t = p by rw [hasL_ofL, Tp.out])
            have PO := Lib.hid (show hasL (orL a b) t = (p || q) by rw [hasL_orL, Tp.out, Tq.out])
            have PC := Lib.hid (show hasL (andL a b) t = (p && q) by rw [hasL_andL, Tp.out, Tq.out])
            have PM := Lib.hid (show hasL (minusL a b) t = (p && !q) by rw [hasL_minusL, Tp.out, Tq.out])
            cases p <;> cases q
            all_goals
              refine (form_any _ (orL (a) (b)) (orL_form a b) _ (X4.out.below (bup (bup (bup (bup (bup (bup (bup (bup B5.out B6.out) B7.out) B8.out) B9.out) B10.out) B11.out) B12.out) B13.out))).mono ?_
              rintro e w14 ⟨rfl, b14⟩
              have B14 := Lib.hid b14
              clear b14
              go_wp2_with fail
              refine (form_any _ (andL (a) (b)) (andL_form a b) _ (X7.out.below (bup (bup (bup (bup (bup (bup B8.out B9.out) B10.out) B11.out) B12.out) B13.out) B14.out))).mono ?_
              rintro e w15 ⟨rfl, b15⟩
              have B15 := Lib.hid b15
              clear b15
              go_wp2_with fail
              refine (form_any _ (minusL (a) (b)) (minusL_form a b) _ (X10.out.below (bup (bup (bup (bup B11.out B12.out) B13.out) B14.out) B15.out))).mono ?_
              rintro e w16 ⟨rfl, b16⟩
              have B16 := Lib.hid b16
              clear b16
              go_wp2_with fail
              refine (form_any _ (ofL (a)) (ofL_form a) _ (X11.out.below (bup (bup (bup (bup B12.out B13.out) B14.out) B15.out) B16.out))).mono ?_
              rintro e w17 ⟨rfl, b17⟩
              have B17 := Lib.hid b17
              clear b17
              go_wp2_with fail
              refine (hasl_any _ (a) t _ Tp.out _ (RA.out.below (bup (bup (bup (bup (bup (bup (bup (bup (bup (bup (bup (bup (bup (bup (bup (bup B1.out B2.out) B3.out) B4.out) B5.out) B6.out) B7.out) B8.out) B9.out) B10.out) B11.out) B12.out) B13.out) B14.out) B15.out) B16.out) B17.out)) (Nat.le_trans LA.out (by decide : 40 ≤ 4398046511104))).mono ?_
              rintro e w18 ⟨rfl, b18⟩
              have B18 := Lib.hid b18
              clear b18
              go_wp2_with fail
              refine (hasl_any _ (ofL (a)) t _ PF.out _ (X11.out.below (bup (bup (bup (bup (bup (bup B12.out B13.out) B14.out) B15.out) B16.out) B17.out) B18.out)) (Nat.le_trans NL6.out (by decide : 40 ≤ 4398046511104))).mono ?_
              rintro e w19 ⟨rfl, b19⟩
              have B19 := Lib.hid b19
              clear b19
              go_wp2_with fail
              refine (hasl_any _ (orL (a) (b)) t _ PO.out _ (X4.out.below (bup (bup (bup (bup (bup (bup (bup (bup (bup (bup (bup (bup (bup (bup B5.out B6.out) B7.out) B8.out) B9.out) B10.out) B11.out) B12.out) B13.out) B14.out) B15.out) B16.out) B17.out) B18.out) B19.out)) (Nat.le_trans NL3.out (by decide : 80 ≤ 4398046511104))).mono ?_
              rintro e w20 ⟨rfl, b20⟩
              have B20 := Lib.hid b20
              clear b20
              go_wp2_with fail
              refine (hasl_any _ (andL (a) (b)) t _ PC.out _ (X7.out.below (bup (bup (bup (bup (bup (bup (bup (bup (bup (bup (bup (bup B8.out B9.out) B10.out) B11.out) B12.out) B13.out) B14.out) B15.out) B16.out) B17.out) B18.out) B19.out) B20.out)) (Nat.le_trans NL4.out (by decide : 1600 ≤ 4398046511104))).mono ?_
              rintro e w21 ⟨rfl, b21⟩
              have B21 := Lib.hid b21
              clear b21
              go_wp2_with fail
              refine (hasl_any _ (minusL (a) (b)) t _ PM.out _ (X10.out.below (bup (bup (bup (bup (bup (bup (bup (bup (bup (bup B11.out B12.out) B13.out) B14.out) B15.out) B16.out) B17.out) B18.out) B19.out) B20.out) B21.out)) (Nat.le_trans NL5.out (by decide : 80 ≤ 4398046511104))).mono ?_
              rintro e w22 ⟨rfl, b22⟩
              have B22 := Lib.hid b22
              clear b22
              go_wp2_with fail
              refine (own_any _ (a) _ (RA.out.below (bup (bup (bup (bup (bup (bup (bup (bup (bup (bup (bup (bup (bup (bup (bup (bup (bup (bup (bup (bup (bup B1.out B2.out) B3.out) B4.out) B5.out) B6.out) B7.out) B8.out) B9.out) B10.out) B11.out) B12.out) B13.out) B14.out) B15.out) B16.out) B17.out) B18.out) B19.out) B20.out) B21.out) B22.out)) (Nat.le_trans LA.out (by decide : 40 ≤ 4398046511104))).mono ?_
              rintro e wx ⟨vr, rfl, ox, bx⟩
              have BX := Lib.hid bx
              have OX := Lib.hid ox
              clear ox bx
              obtain ⟨ar, cr, rfl, hr1, hr2, _⟩ := OX.out.rd.shape
              unfold maxLen at hr2
              rw [← NA.out] at OX hr1 ⊢
              have hquo : Int.tdiv (k : Int) 2 = ((k / 2 : Nat) : Int) := by rw [Int.tdiv_eq_ediv_of_nonneg (by omega)]; omega
              go_wp2_with fail
              go_loopg [16] (k / 2) (fun gg s16 wr => ∃ (j : Nat) (m : List Sp), s16 = .int .i64 j ∧ j ≤ k / 2 ∧ k / 2 - j ≤ gg ∧ Hid (SameIn m a) ∧ Hid (Ow wr w22.heap.size (.slice ar k cr) m) ∧ Hid (Below w22.heap.size w22 wr))
              case atStart => exact ⟨0, a, rfl, by omega, by omega, Lib.hid (SameIn.refl a), OX, BX⟩
              case round =>
                obtain ⟨j, m, rfl, hj, hgj, hPm, hOm, hBm⟩ := hrel
                by_cases hjk : j < k / 2
                · have hlm : m.length = k := by rw [hPm.out.2, ← NA.out]
                  obtain ⟨y, hy⟩ : ∃ y, y = k - 1 - j := ⟨_, rfl⟩
                  obtain ⟨g, hg0, hBg, hlt, hc⟩ := Ow.cells hOm.out (by omega)
                  subst hg0
                  obtain ⟨c0, c1⟩ := hc j (by omega)
                  obtain ⟨c2, c3⟩ := hc y (by omega)
                  clear hc
                  have hfz := fun o => hOm.out.frozen o
                  obtain ⟨x, hx⟩ : ∃ x, x = m[j]'(by omega) := ⟨_, rfl⟩
                  obtain ⟨z, hz⟩ : ∃ z, z = m[y]'(by omega) := ⟨_, rfl⟩
                  rw [← hx] at c0 c1
                  rw [← hz] at c2 c3
                  have hjz : (j : Int) < ((k / 2 : Nat) : Int) := by omega
                  have hw1 : IntKind.i64.wrap ((k : Int) - 1) = (k : Int) - 1 := IntWalk.i64_in _ (by omega)
                  have hw2 : IntKind.i64.wrap ((k : Int) - 1 - (j : Int)) = (y : Int) := by rw [IntWalk.i64_in _ (by omega)]; omega
                  have hsub : (k : Int) - 1 - (j : Int) = (y : Int) := by omega
                  have hb1 : (0 : Int) ≤ (j : Int) := by omega
                  have hb2 : (j : Int) < (k : Int) := by omega
                  have hb3 : (0 : Int) ≤ (y : Int) := by omega
                  have hb4 : (y : Int) < (k : Int) := by omega
                  have HX := Lib.hid (show m[j]? = some x by rw [hx]; exact List.getElem?_eq_getElem _)
                  have HZ := Lib.hid (show m[y]? = some z by rw [hz]; exact List.getElem?_eq_getElem _)
                  have HY := Lib.hid hy
                  have HLM := Lib.hid hlm
                  clear hx hz hy hlm
                  go_wp2_with fail
                  go_region
                  obtain ⟨ho, hb⟩ := Ow.swap hOm.out HLM.out hBg j y x z
                  have HO := Lib.hid ho
                  have HB := Lib.hid (hBm.out.trans hb)
                  have HS := Lib.hid (hPm.out.swap (by have := HY.out; omega) HX.out HZ.out)
                  have HL := Lib.hid (show ((m.set j z).set y x).length = k by rw [List.length_set, List.length_set]; exact HLM.out)
                  clear ho hb hPm hOm hBm hfz c0 c1 c2 c3 hw1 hw2 hsub
                  go_wp2_with fail
                  go_roundg (k / 2 - (j + 1))
                  case measure => omega
                  case rel => exact ⟨j + 1, _, by go_num, by omega, Nat.le_refl _, HS, HO, HB⟩
                · obtain rfl : j = k / 2 := by omega
                  have hjz : ¬ ((k / 2 : Nat) : Int) < ((k / 2 : Nat) : Int) := by omega
                  have LM := Lib.hid (show m.length ≤ 40 by rw [hPm.out.2]; exact LA.out)
                  clear hgj hj
                  go_wp2_with (at_builtin; refine wpList_append_sp rfl _ _ rfl w22.heap.size _ _ m a rfl hOm.out rfl (RA.out.below (bup (bup (bup (bup (bup (bup (bup (bup (bup (bup (bup (bup (bup (bup (bup (bup (bup (bup (bup (bup (bup (bup B1.out B2.out) B3.out) B4.out) B5.out) B6.out) B7.out) B8.out) B9.out) B10.out) B11.out) B12.out) B13.out) B14.out) B15.out) B16.out) B17.out) B18.out) B19.out) B20.out) B21.out) B22.out) hBm.out)) hBm.out.size (Nat.le_trans (Nat.add_le_add LM.out LA.out) (by decide : 80 ≤ 4398046511104)) ?_)
                  intro v23 w23 o23 b23
                  have B23 := Lib.hid (hBm.out.trans b23)
                  have X23 := Lib.hid o23.rd
                  clear o23 b23
                  go_wp2_with fail
                  have NLM := Lib.hid (show (m ++ a).length ≤ 80 by rw [List.length_append]; exact Nat.add_le_add LM.out LA.out)
                  have NL8 := Lib.hid (show (ofL (m ++ a)).length ≤ 80 from Nat.le_trans (ofL_length _) NLM.out)
                  refine (of_any _ (m ++ a) _ X23.out (Nat.le_trans NLM.out (by decide : 80 ≤ 4398046511104))).mono ?_
                  rintro e w24 ⟨v24, rfl, o24, b24⟩
                  have B24 := Lib.hid b24
                  have X24 := Lib.hid o24.rd
                  clear o24 b24
                  go_wp2_with fail
                  refine (equal_any _ _ (ofL (m ++ a)) (ofL (a)) true (decide_eq_true (ofL_ext fun t => hPm.out.has t)) _ X24.out (X11.out.below (bup (bup (bup (bup (bup (bup (bup (bup (bup (bup (bup (bup B12.out B13.out) B14.out) B15.out) B16.out) B17.out) B18.out) B19.out) B20.out) B21.out) B22.out) B23.out) B24.out))).mono ?_
                  rintro e w25 ⟨rfl, b25⟩
                  have B25 := Lib.hid b25
                  clear b25
                  go_wp2_with fail
                  have NL9 := Lib.hid (show (ofL (ofL (a))).length ≤ 40 from Nat.le_trans (ofL_length _) NL6.out)
                  refine (of_any _ (ofL (a)) _ (X11.out.below (bup (bup (bup (bup (bup (bup (bup (bup (bup (bup (bup (bup (bup B12.out B13.out) B14.out) B15.out) B16.out) B17.out) B18.out) B19.out) B20.out) B21.out) B22.out) B23.out) B24.out) B25.out)) (Nat.le_trans NL6.out (by decide : 40 ≤ 4398046511104))).mono ?_
                  rintro e w26 ⟨v26, rfl, o26, b26⟩
                  have B26 := Lib.hid b26
                  have X26 := Lib.hid o26.rd
                  clear o26 b26
                  go_wp2_with fail
                  refine (equal_any _ _ (ofL (ofL (a))) (ofL (a)) true (decide_eq_true (ofL_of_form (ofL_form a))) _ X26.out (X11.out.below (bup (bup (bup (bup (bup (bup (bup (bup (bup (bup (bup (bup (bup (bup B12.out B13.out) B14.out) B15.out) B16.out) B17.out) B18.out) B19.out) B20.out) B21.out) B22.out) B23.out) B24.out) B25.out) B26.out))).mono ?_
                  rintro e w27 ⟨rfl, b27⟩
                  have B27 := Lib.hid b27
                  clear b27
                  go_wp2_with fail
                  refine (same_any _ _ (a) (ofL (a)) true (decide_eq_true (ofL_of_form (ofL_form a)).symm) _ (RA.out.below (bup (bup (bup (bup (bup (bup (bup (bup (bup (bup (bup (bup (bup (bup (bup (bup (bup (bup (bup (bup (bup (bup (bup (bup (bup (bup B1.out B2.out) B3.out) B4.out) B5.out) B6.out) B7.out) B8.out) B9.out) B10.out) B11.out) B12.out) B13.out) B14.out) B15.out) B16.out) B17.out) B18.out) B19.out) B20.out) B21.out) B22.out) B23.out) B24.out) B25.out) B26.out) B27.out)) (X11.out.below (bup (bup (bup (bup (bup (bup (bup (bup (bup (bup (bup (bup (bup (bup (bup B12.out B13.out) B14.out) B15.out) B16.out) B17.out) B18.out) B19.out) B20.out) B21.out) B22.out) B23.out) B24.out) B25.out) B26.out) B27.out)) (Nat.le_trans LA.out (by decide : 40 ≤ 4398046511104)) (Nat.le_trans NL6.out (by decide : 40 ≤ 4398046511104))).mono ?_
                  rintro e w28 ⟨rfl, b28⟩
                  have B28 := Lib.hid b28
                  clear b28
                  go_wp2_with fail
                  refine (wakes_set _).mono ?_
                  rintro e w29 ⟨rfl, b29⟩
                  have B29 := Lib.hid b29
                  clear b29
                  go_wp2_with fail
                  go_ret
                  exact ⟨rfl, (bup (bup (bup (bup (bup (bup (bup (bup (bup (bup (bup (bup (bup (bup (bup (bup (bup (bup (bup (bup (bup (bup (bup (bup (bup (bup (bup (bup B1.out B2.out) B3.out) B4.out) B5.out) B6.out) B7.out) B8.out) B9.out) B10.out) B11.out) B12.out) B13.out) B14.out) B15.out) B16.out) B17.out) B18.out) B19.out) B20.out) B21.out) B22.out) B23.out) B24.out) B25.out) B26.out) B27.out) B28.out) B29.out)⟩
end Go.Proofs.Ytjnhkfjhkhbneaa
