/- The law SpansTells: its function returns true. -/
import Derived.Test.YtjnhkfjhkhbneaaROut
namespace Go.Proofs.Ytjnhkfjhkhbneaa
open Go.RowKit SpanP

set_option maxRecDepth 100000 in
set_option maxHeartbeats 8000000 in
theorem spansTells_walk (va vb : Value) (a b : List Sp) (n t : Int) (w : World) (hra : Rd w va a) (hrb : Rd w vb b) :
    Calls Try.prog 12 #[va, vb, .int .i64 n, .int .i64 t] w fun e w' => e = .returned (.bool true) ∧ Below w.heap.size w w' := by
  obtain ⟨g, hg⟩ : ∃ g, greatB [a.length, b.length] = g := ⟨_, rfl⟩
  have G := Lib.hid hg
  have RA := Lib.hid hra
  obtain ⟨aa, ca, rfl, ha1, ha2, hfa⟩ := hra.shape
  have FA := Lib.hid hfa
  clear hfa
  have RB := Lib.hid hrb
  obtain ⟨ab, cb, rfl, hb1, hb2, hfb⟩ := hrb.shape
  have FB := Lib.hid hfb
  clear hfb
  have K1 := great2 _ _ a b g hg w hra hrb
  unfold maxLen at ha2 hb2
  obtain ⟨na, hna⟩ : ∃ m, m = a.length := ⟨_, rfl⟩
  have NA := Lib.hid hna
  rw [← hna] at RA ha1 K1 ⊢
  clear hna hra
  obtain ⟨nb, hnb⟩ : ∃ m, m = b.length := ⟨_, rfl⟩
  have NB := Lib.hid hnb
  rw [← hnb] at RB hb1 K1 ⊢
  clear hnb hrb
  clear hg
  cases g with
  | true =>
    go_enter Try.func12, Try.ntmps12
    go_wp2_with fail
    refine K1.mono ?_
    rintro e w1 ⟨rfl, b1⟩
    have B1 := Lib.hid (bup (bone w _) b1)
    clear b1 K1
    go_wp2_with fail
    refine (wakes_set _).mono ?_
    rintro e wz ⟨rfl, bz⟩
    have BZ := Lib.hid (bup B1.out bz)
    clear bz
    go_wp2_with fail
    go_ret
    exact ⟨rfl, BZ.out⟩
  | false =>
    have LA := Lib.hid (great_le G.out a.length (by simp))
    have LB := Lib.hid (great_le G.out b.length (by simp))
    have hna : na ≤ 40 := by rw [NA.out]; exact LA.out
    have hnb : nb ≤ 40 := by rw [NB.out]; exact LB.out
    clear G
    obtain ⟨x, hx⟩ : ∃ x, errW a n = x := ⟨_, rfl⟩
    have EX := Lib.hid hx
    clear hx
    obtain ⟨r, hr⟩ : ∃ r, hasL a t = r := ⟨_, rfl⟩
    have RR := Lib.hid hr
    clear hr
    obtain ⟨s, hs⟩ : ∃ s, decide (ofL a = ofL b) = s := ⟨_, rfl⟩
    have SS := Lib.hid hs
    clear hs
    go_enter Try.func12, Try.ntmps12
    go_wp2_with fail
    refine K1.mono ?_
    rintro e w1 ⟨rfl, b1⟩
    have B1 := Lib.hid (bup (bone w _) b1)
    clear b1 K1
    go_wp2_with fail
    refine (own_any _ (a) _ (RA.out.below B1.out) (Nat.le_trans LA.out (by decide : 40 ≤ 4398046511104))).mono ?_
    rintro e w2 ⟨v2, rfl, o2, b2⟩
    have B2 := Lib.hid b2
    have X2 := Lib.hid o2.rd
    clear o2 b2
    go_wp2_with fail
    refine (own_any _ (b) _ (RB.out.below (bup B1.out B2.out)) (Nat.le_trans LB.out (by decide : 40 ≤ 4398046511104))).mono ?_
    rintro e w3 ⟨v3, rfl, o3, b3⟩
    have B3 := Lib.hid b3
    have X3 := Lib.hid o3.rd
    clear o3 b3
    go_wp2_with fail
    by_cases hx0 : x = 0
    · subst hx0
      have NL3 := Lib.hid (show (wOutL (a) n).length ≤ 40 from Nat.le_trans (wOutL_length _ _) LA.out)
      refine (outs_ok _ (a) n _ EX.out (X2.out.below B3.out) (Nat.le_trans LA.out (by decide : 40 ≤ 4398046511104))).mono ?_
      rintro e w4 ⟨v4, rfl, o4, b4⟩
      have B4 := Lib.hid b4
      have X4 := Lib.hid o4.rd
      clear o4 b4
      go_wp2_with fail
      have NL4 := Lib.hid (show (wInL (a) n).length ≤ 40 from Nat.le_trans (wInL_length _ _) LA.out)
      refine (ins_ok _ (a) n _ EX.out (X2.out.below (bup B3.out B4.out)) (Nat.le_trans LA.out (by decide : 40 ≤ 4398046511104))).mono ?_
      rintro e w5 ⟨v5, rfl, o5, b5⟩
      have B5 := Lib.hid b5
      have X5 := Lib.hid o5.rd
      clear o5 b5
      go_wp2_with fail
      refine (routs_ok _ (a) n _ EX.out (RA.out.below (bup (bup (bup (bup B1.out B2.out) B3.out) B4.out) B5.out)) (Nat.le_trans LA.out (by decide : 40 ≤ 50))).mono ?_
      rintro e w6 ⟨v6, rfl, o6, b6⟩
      have B6 := Lib.hid b6
      have X6 := Lib.hid o6.rd
      clear o6 b6
      go_wp2_with fail
      refine (rins_ok _ (a) n _ EX.out (RA.out.below (bup (bup (bup (bup (bup B1.out B2.out) B3.out) B4.out) B5.out) B6.out)) (Nat.le_trans LA.out (by decide : 40 ≤ 50))).mono ?_
      rintro e w7 ⟨v7, rfl, o7, b7⟩
      have B7 := Lib.hid b7
      have X7 := Lib.hid o7.rd
      clear o7 b7
      go_wp2_with fail
      have NL5 := Lib.hid (show (ofL (a)).length ≤ 40 from Nat.le_trans (ofL_length _) LA.out)
      refine (of_any _ (a) _ (X2.out.below (bup (bup (bup (bup B3.out B4.out) B5.out) B6.out) B7.out)) (Nat.le_trans LA.out (by decide : 40 ≤ 4398046511104))).mono ?_
      rintro e w8 ⟨v8, rfl, o8, b8⟩
      have B8 := Lib.hid b8
      have X8 := Lib.hid o8.rd
      clear o8 b8
      go_wp2_with fail
      refine (rofs_any _ (a) _ (RA.out.below (bup (bup (bup (bup (bup (bup (bup B1.out B2.out) B3.out) B4.out) B5.out) B6.out) B7.out) B8.out)) (Nat.le_trans LA.out (by decide : 40 ≤ 100))).mono ?_
      rintro e w9 ⟨v9, rfl, o9, b9⟩
      have B9 := Lib.hid b9
      have X9 := Lib.hid o9.rd
      clear o9 b9
      go_wp2_with fail
      refine (rsame_any _ _ (ofL (a)) (ofL (a)) true (decide_eq_true rfl) _ (X8.out.below B9.out) X9.out).mono ?_
      rintro e w10 ⟨rfl, b10⟩
      have B10 := Lib.hid b10
      clear b10
      go_wp2_with fail
      clear X8 X9
      have NL6 := Lib.hid (show (orL (a) (b)).length ≤ 80 from Nat.le_trans (orL_length _ _) (Nat.add_le_add LA.out LB.out))
      refine (or_any _ _ (a) (b) _ (X2.out.below (bup (bup (bup (bup (bup (bup (bup B3.out B4.out) B5.out) B6.out) B7.out) B8.out) B9.out) B10.out)) (X3.out.below (bup (bup (bup (bup (bup (bup B4.out B5.out) B6.out) B7.out) B8.out) B9.out) B10.out)) (Nat.le_trans LA.out (by decide : 40 ≤ 2199023255552)) (Nat.le_trans LB.out (by decide : 40 ≤ 2199023255552))).mono ?_
      rintro e w11 ⟨v11, rfl, o11, b11⟩
      have B11 := Lib.hid b11
      have X11 := Lib.hid o11.rd
      clear o11 b11
      go_wp2_with fail
      refine (rors_any _ _ (a) (b) _ (RA.out.below (bup (bup (bup (bup (bup (bup (bup (bup (bup (bup B1.out B2.out) B3.out) B4.out) B5.out) B6.out) B7.out) B8.out) B9.out) B10.out) B11.out)) (RB.out.below (bup (bup (bup (bup (bup (bup (bup (bup (bup (bup B1.out B2.out) B3.out) B4.out) B5.out) B6.out) B7.out) B8.out) B9.out) B10.out) B11.out)) (Nat.le_trans LA.out (by decide : 40 ≤ 50)) (Nat.le_trans LB.out (by decide : 40 ≤ 50))).mono ?_
      rintro e w12 ⟨v12, rfl, o12, b12⟩
      have B12 := Lib.hid b12
      have X12 := Lib.hid o12.rd
      clear o12 b12
      go_wp2_with fail
      refine (rsame_any _ _ (orL (a) (b)) (orL (a) (b)) true (decide_eq_true rfl) _ (X11.out.below B12.out) X12.out).mono ?_
      rintro e w13 ⟨rfl, b13⟩
      have B13 := Lib.hid b13
      clear b13
      go_wp2_with fail
      clear X11 X12
      have NL7 := Lib.hid (show (andL (a) (b)).length ≤ 1600 from Nat.le_trans (andL_length _ _) (Nat.mul_le_mul LA.out LB.out))
      refine (and_set _ _ (a) (b) _ (X2.out.below (bup (bup (bup (bup (bup (bup (bup (bup (bup (bup B3.out B4.out) B5.out) B6.out) B7.out) B8.out) B9.out) B10.out) B11.out) B12.out) B13.out)) (X3.out.below (bup (bup (bup (bup (bup (bup (bup (bup (bup B4.out B5.out) B6.out) B7.out) B8.out) B9.out) B10.out) B11.out) B12.out) B13.out)) (Nat.le_trans LA.out (by decide : 40 ≤ 4398046511104)) (Nat.le_trans LB.out (by decide : 40 ≤ 4398046511104)) (Nat.le_trans (Nat.mul_le_mul LA.out LB.out) (by decide : 40 * 40 ≤ 4398046511104))).mono ?_
      rintro e w14 ⟨v14, rfl, o14, b14⟩
      have B14 := Lib.hid b14
      have X14 := Lib.hid o14.rd
      clear o14 b14
      go_wp2_with fail
      refine (rands_any _ _ (a) (b) _ (RA.out.below (bup (bup (bup (bup (bup (bup (bup (bup (bup (bup (bup (bup (bup B1.out B2.out) B3.out) B4.out) B5.out) B6.out) B7.out) B8.out) B9.out) B10.out) B11.out) B12.out) B13.out) B14.out)) (RB.out.below (bup (bup (bup (bup (bup (bup (bup (bup (bup (bup (bup (bup (bup B1.out B2.out) B3.out) B4.out) B5.out) B6.out) B7.out) B8.out) B9.out) B10.out) B11.out) B12.out) B13.out) B14.out)) (Nat.le_trans LA.out (by decide : 40 ≤ 50)) (Nat.le_trans LB.out (by decide : 40 ≤ 50))).mono ?_
      rintro e w15 ⟨v15, rfl, o15, b15⟩
      have B15 := Lib.hid b15
      have X15 := Lib.hid o15.rd
      clear o15 b15
      go_wp2_with fail
      refine (rsame_any _ _ (andL (a) (b)) (andL (a) (b)) true (decide_eq_true rfl) _ (X14.out.below B15.out) X15.out).mono ?_
      rintro e w16 ⟨rfl, b16⟩
      have B16 := Lib.hid b16
      clear b16
      go_wp2_with fail
      clear X14 X15
      have NL8 := Lib.hid (show (minusL (a) (b)).length ≤ 80 from Nat.le_trans (minusL_length _ _) (Nat.add_le_add LA.out LB.out))
      refine (minus_any _ _ (a) (b) _ (X2.out.below (bup (bup (bup (bup (bup (bup (bup (bup (bup (bup (bup (bup (bup B3.out B4.out) B5.out) B6.out) B7.out) B8.out) B9.out) B10.out) B11.out) B12.out) B13.out) B14.out) B15.out) B16.out)) (X3.out.below (bup (bup (bup (bup (bup (bup (bup (bup (bup (bup (bup (bup B4.out B5.out) B6.out) B7.out) B8.out) B9.out) B10.out) B11.out) B12.out) B13.out) B14.out) B15.out) B16.out)) (Nat.le_trans LA.out (by decide : 40 ≤ 1099511627776)) (Nat.le_trans LB.out (by decide : 40 ≤ 1099511627776))).mono ?_
      rintro e w17 ⟨v17, rfl, o17, b17⟩
      have B17 := Lib.hid b17
      have X17 := Lib.hid o17
      clear o17 b17
      go_wp2_with fail
      refine (rminuss_any _ _ (a) (b) _ (RA.out.below (bup (bup (bup (bup (bup (bup (bup (bup (bup (bup (bup (bup (bup (bup (bup (bup B1.out B2.out) B3.out) B4.out) B5.out) B6.out) B7.out) B8.out) B9.out) B10.out) B11.out) B12.out) B13.out) B14.out) B15.out) B16.out) B17.out)) (RB.out.below (bup (bup (bup (bup (bup (bup (bup (bup (bup (bup (bup (bup (bup (bup (bup (bup B1.out B2.out) B3.out) B4.out) B5.out) B6.out) B7.out) B8.out) B9.out) B10.out) B11.out) B12.out) B13.out) B14.out) B15.out) B16.out) B17.out)) (Nat.le_trans LA.out (by decide : 40 ≤ 50)) (Nat.le_trans LB.out (by decide : 40 ≤ 50))).mono ?_
      rintro e w18 ⟨v18, rfl, o18, b18⟩
      have B18 := Lib.hid b18
      have X18 := Lib.hid o18.rd
      clear o18 b18
      go_wp2_with fail
      refine (rsame_any _ _ (minusL (a) (b)) (minusL (a) (b)) true (decide_eq_true rfl) _ (X17.out.below B18.out) X18.out).mono ?_
      rintro e w19 ⟨rfl, b19⟩
      have B19 := Lib.hid b19
      clear b19
      go_wp2_with fail
      clear X17 X18
      refine (rsame_any _ _ (wOutL (a) n) (wOutL (a) n) true (decide_eq_true rfl) _ (X4.out.below (bup (bup (bup (bup (bup (bup (bup (bup (bup (bup (bup (bup (bup (bup B5.out B6.out) B7.out) B8.out) B9.out) B10.out) B11.out) B12.out) B13.out) B14.out) B15.out) B16.out) B17.out) B18.out) B19.out)) (X6.out.below (bup (bup (bup (bup (bup (bup (bup (bup (bup (bup (bup (bup B7.out B8.out) B9.out) B10.out) B11.out) B12.out) B13.out) B14.out) B15.out) B16.out) B17.out) B18.out) B19.out))).mono ?_
      rintro e w20 ⟨rfl, b20⟩
      have B20 := Lib.hid b20
      clear b20
      go_wp2_with fail
      clear X4 X6
      refine (rsame_any _ _ (wInL (a) n) (wInL (a) n) true (decide_eq_true rfl) _ (X5.out.below (bup (bup (bup (bup (bup (bup (bup (bup (bup (bup (bup (bup (bup (bup B6.out B7.out) B8.out) B9.out) B10.out) B11.out) B12.out) B13.out) B14.out) B15.out) B16.out) B17.out) B18.out) B19.out) B20.out)) (X7.out.below (bup (bup (bup (bup (bup (bup (bup (bup (bup (bup (bup (bup B8.out B9.out) B10.out) B11.out) B12.out) B13.out) B14.out) B15.out) B16.out) B17.out) B18.out) B19.out) B20.out))).mono ?_
      rintro e w21 ⟨rfl, b21⟩
      have B21 := Lib.hid b21
      clear b21
      go_wp2_with fail
      clear X5 X7
      refine (hasl_any _ (a) t r RR.out _ (X2.out.below (bup (bup (bup (bup (bup (bup (bup (bup (bup (bup (bup (bup (bup (bup (bup (bup (bup (bup B3.out B4.out) B5.out) B6.out) B7.out) B8.out) B9.out) B10.out) B11.out) B12.out) B13.out) B14.out) B15.out) B16.out) B17.out) B18.out) B19.out) B20.out) B21.out)) (Nat.le_trans LA.out (by decide : 40 ≤ 4398046511104))).mono ?_
      rintro e w22 ⟨rfl, b22⟩
      have B22 := Lib.hid b22
      clear b22
      go_wp2_with fail
      refine (rhas_any _ (a) t r RR.out w22 (RA.out.below (bup (bup (bup (bup (bup (bup (bup (bup (bup (bup (bup (bup (bup (bup (bup (bup (bup (bup (bup (bup (bup B1.out B2.out) B3.out) B4.out) B5.out) B6.out) B7.out) B8.out) B9.out) B10.out) B11.out) B12.out) B13.out) B14.out) B15.out) B16.out) B17.out) B18.out) B19.out) B20.out) B21.out) B22.out)) (Nat.le_trans LA.out (by decide : 40 ≤ 100000))).mono ?_
      rintro e w23 ⟨rfl, b23⟩
      have B23 := Lib.hid (show Below w22.heap.size w22 w23 by rw [← b23]; exact Below.refl _ _)
      clear b23
      go_wp2_with fail
      refine (same_any _ _ (a) (b) s SS.out _ (X2.out.below (bup (bup (bup (bup (bup (bup (bup (bup (bup (bup (bup (bup (bup (bup (bup (bup (bup (bup (bup (bup B3.out B4.out) B5.out) B6.out) B7.out) B8.out) B9.out) B10.out) B11.out) B12.out) B13.out) B14.out) B15.out) B16.out) B17.out) B18.out) B19.out) B20.out) B21.out) B22.out) B23.out)) (X3.out.below (bup (bup (bup (bup (bup (bup (bup (bup (bup (bup (bup (bup (bup (bup (bup (bup (bup (bup (bup B4.out B5.out) B6.out) B7.out) B8.out) B9.out) B10.out) B11.out) B12.out) B13.out) B14.out) B15.out) B16.out) B17.out) B18.out) B19.out) B20.out) B21.out) B22.out) B23.out)) (Nat.le_trans LA.out (by decide : 40 ≤ 4398046511104)) (Nat.le_trans LB.out (by decide : 40 ≤ 4398046511104))).mono ?_
      rintro e w24 ⟨rfl, b24⟩
      have B24 := Lib.hid b24
      clear b24
      go_wp2_with fail
      refine (rofs_any _ (a) _ (RA.out.below (bup (bup (bup (bup (bup (bup (bup (bup (bup (bup (bup (bup (bup (bup (bup (bup (bup (bup (bup (bup (bup (bup (bup B1.out B2.out) B3.out) B4.out) B5.out) B6.out) B7.out) B8.out) B9.out) B10.out) B11.out) B12.out) B13.out) B14.out) B15.out) B16.out) B17.out) B18.out) B19.out) B20.out) B21.out) B22.out) B23.out) B24.out)) (Nat.le_trans LA.out (by decide : 40 ≤ 100))).mono ?_
      rintro e w25 ⟨v25, rfl, o25, b25⟩
      have B25 := Lib.hid b25
      have X25 := Lib.hid o25.rd
      clear o25 b25
      go_wp2_with fail
      refine (rofs_any _ (b) _ (RB.out.below (bup (bup (bup (bup (bup (bup (bup (bup (bup (bup (bup (bup (bup (bup (bup (bup (bup (bup (bup (bup (bup (bup (bup (bup B1.out B2.out) B3.out) B4.out) B5.out) B6.out) B7.out) B8.out) B9.out) B10.out) B11.out) B12.out) B13.out) B14.out) B15.out) B16.out) B17.out) B18.out) B19.out) B20.out) B21.out) B22.out) B23.out) B24.out) B25.out)) (Nat.le_trans LB.out (by decide : 40 ≤ 100))).mono ?_
      rintro e w26 ⟨v26, rfl, o26, b26⟩
      have B26 := Lib.hid b26
      have X26 := Lib.hid o26.rd
      clear o26 b26
      go_wp2_with fail
      refine (rsame_any _ _ (ofL (a)) (ofL (b)) s SS.out _ (X25.out.below B26.out) X26.out).mono ?_
      rintro e w27 ⟨rfl, b27⟩
      have B27 := Lib.hid b27
      clear b27
      go_wp2_with fail
      clear X25 X26
      refine (rsame_any _ _ (a) (a) true (decide_eq_true rfl) _ (X2.out.below (bup (bup (bup (bup (bup (bup (bup (bup (bup (bup (bup (bup (bup (bup (bup (bup (bup (bup (bup (bup (bup (bup (bup (bup B3.out B4.out) B5.out) B6.out) B7.out) B8.out) B9.out) B10.out) B11.out) B12.out) B13.out) B14.out) B15.out) B16.out) B17.out) B18.out) B19.out) B20.out) B21.out) B22.out) B23.out) B24.out) B25.out) B26.out) B27.out)) (RA.out.below (bup (bup (bup (bup (bup (bup (bup (bup (bup (bup (bup (bup (bup (bup (bup (bup (bup (bup (bup (bup (bup (bup (bup (bup (bup (bup B1.out B2.out) B3.out) B4.out) B5.out) B6.out) B7.out) B8.out) B9.out) B10.out) B11.out) B12.out) B13.out) B14.out) B15.out) B16.out) B17.out) B18.out) B19.out) B20.out) B21.out) B22.out) B23.out) B24.out) B25.out) B26.out) B27.out))).mono ?_
      rintro e w28 ⟨rfl, b28⟩
      have B28 := Lib.hid b28
      clear b28
      go_wp2_with fail
      refine (rsame_any _ _ (b) (b) true (decide_eq_true rfl) _ (X3.out.below (bup (bup (bup (bup (bup (bup (bup (bup (bup (bup (bup (bup (bup (bup (bup (bup (bup (bup (bup (bup (bup (bup (bup (bup B4.out B5.out) B6.out) B7.out) B8.out) B9.out) B10.out) B11.out) B12.out) B13.out) B14.out) B15.out) B16.out) B17.out) B18.out) B19.out) B20.out) B21.out) B22.out) B23.out) B24.out) B25.out) B26.out) B27.out) B28.out)) (RB.out.below (bup (bup (bup (bup (bup (bup (bup (bup (bup (bup (bup (bup (bup (bup (bup (bup (bup (bup (bup (bup (bup (bup (bup (bup (bup (bup (bup B1.out B2.out) B3.out) B4.out) B5.out) B6.out) B7.out) B8.out) B9.out) B10.out) B11.out) B12.out) B13.out) B14.out) B15.out) B16.out) B17.out) B18.out) B19.out) B20.out) B21.out) B22.out) B23.out) B24.out) B25.out) B26.out) B27.out) B28.out))).mono ?_
      rintro e w29 ⟨rfl, b29⟩
      have B29 := Lib.hid b29
      clear b29
      go_wp2_with fail
      refine (wakes_set _).mono ?_
      rintro e w30 ⟨rfl, b30⟩
      have B30 := Lib.hid b30
      clear b30
      go_wp2_with fail
      go_ret
      exact ⟨rfl, (bup (bup (bup (bup (bup (bup (bup (bup (bup (bup (bup (bup (bup (bup (bup (bup (bup (bup (bup (bup (bup (bup (bup (bup (bup (bup (bup (bup (bup B1.out B2.out) B3.out) B4.out) B5.out) B6.out) B7.out) B8.out) B9.out) B10.out) B11.out) B12.out) B13.out) B14.out) B15.out) B16.out) B17.out) B18.out) B19.out) B20.out) B21.out) B22.out) B23.out) B24.out) B25.out) B26.out) B27.out) B28.out) B29.out) B30.out)⟩
    · have HX := Lib.hid (show (x != 0) = true by simpa using hx0)
      clear hx0
      refine (outs_bad _ (a) n x _ EX.out HX.out (X2.out.below B3.out) (Nat.le_trans LA.out (by decide : 40 ≤ 4398046511104))).mono ?_
      rintro e w4 ⟨rfl, b4⟩
      have B4 := Lib.hid b4
      clear b4
      go_wp2_with fail
      refine (ins_bad _ (a) n x _ EX.out HX.out (X2.out.below (bup B3.out B4.out)) (Nat.le_trans LA.out (by decide : 40 ≤ 4398046511104))).mono ?_
      rintro e w5 ⟨rfl, b5⟩
      have B5 := Lib.hid b5
      clear b5
      go_wp2_with fail
      refine (routs_bad _ (a) n x _ EX.out HX.out (RA.out.below (bup (bup (bup (bup B1.out B2.out) B3.out) B4.out) B5.out)) (Nat.le_trans LA.out (by decide : 40 ≤ 50))).mono ?_
      rintro e w6 ⟨rfl, b6⟩
      have B6 := Lib.hid b6
      clear b6
      go_wp2_with fail
      refine (rins_bad _ (a) n x _ EX.out HX.out (RA.out.below (bup (bup (bup (bup (bup B1.out B2.out) B3.out) B4.out) B5.out) B6.out)) (Nat.le_trans LA.out (by decide : 40 ≤ 50))).mono ?_
      rintro e w7 ⟨rfl, b7⟩
      have B7 := Lib.hid b7
      clear b7
      go_wp2_with fail
      have NL3 := Lib.hid (show (ofL (a)).length ≤ 40 from Nat.le_trans (ofL_length _) LA.out)
      refine (of_any _ (a) _ (X2.out.below (bup (bup (bup (bup B3.out B4.out) B5.out) B6.out) B7.out)) (Nat.le_trans LA.out (by decide : 40 ≤ 4398046511104))).mono ?_
      rintro e w8 ⟨v8, rfl, o8, b8⟩
      have B8 := Lib.hid b8
      have X8 := Lib.hid o8.rd
      clear o8 b8
      go_wp2_with fail
      refine (rofs_any _ (a) _ (RA.out.below (bup (bup (bup (bup (bup (bup (bup B1.out B2.out) B3.out) B4.out) B5.out) B6.out) B7.out) B8.out)) (Nat.le_trans LA.out (by decide : 40 ≤ 100))).mono ?_
      rintro e w9 ⟨v9, rfl, o9, b9⟩
      have B9 := Lib.hid b9
      have X9 := Lib.hid o9.rd
      clear o9 b9
      go_wp2_with fail
      refine (rsame_any _ _ (ofL (a)) (ofL (a)) true (decide_eq_true rfl) _ (X8.out.below B9.out) X9.out).mono ?_
      rintro e w10 ⟨rfl, b10⟩
      have B10 := Lib.hid b10
      clear b10
      go_wp2_with fail
      clear X8 X9
      have NL4 := Lib.hid (show (orL (a) (b)).length ≤ 80 from Nat.le_trans (orL_length _ _) (Nat.add_le_add LA.out LB.out))
      refine (or_any _ _ (a) (b) _ (X2.out.below (bup (bup (bup (bup (bup (bup (bup B3.out B4.out) B5.out) B6.out) B7.out) B8.out) B9.out) B10.out)) (X3.out.below (bup (bup (bup (bup (bup (bup B4.out B5.out) B6.out) B7.out) B8.out) B9.out) B10.out)) (Nat.le_trans LA.out (by decide : 40 ≤ 2199023255552)) (Nat.le_trans LB.out (by decide : 40 ≤ 2199023255552))).mono ?_
      rintro e w11 ⟨v11, rfl, o11, b11⟩
      have B11 := Lib.hid b11
      have X11 := Lib.hid o11.rd
      clear o11 b11
      go_wp2_with fail
      refine (rors_any _ _ (a) (b) _ (RA.out.below (bup (bup (bup (bup (bup (bup (bup (bup (bup (bup B1.out B2.out) B3.out) B4.out) B5.out) B6.out) B7.out) B8.out) B9.out) B10.out) B11.out)) (RB.out.below (bup (bup (bup (bup (bup (bup (bup (bup (bup (bup B1.out B2.out) B3.out) B4.out) B5.out) B6.out) B7.out) B8.out) B9.out) B10.out) B11.out)) (Nat.le_trans LA.out (by decide : 40 ≤ 50)) (Nat.le_trans LB.out (by decide : 40 ≤ 50))).mono ?_
      rintro e w12 ⟨v12, rfl, o12, b12⟩
      have B12 := Lib.hid b12
      have X12 := Lib.hid o12.rd
      clear o12 b12
      go_wp2_with fail
      refine (rsame_any _ _ (orL (a) (b)) (orL (a) (b)) true (decide_eq_true rfl) _ (X11.out.below B12.out) X12.out).mono ?_
      rintro e w13 ⟨rfl, b13⟩
      have B13 := Lib.hid b13
      clear b13
      go_wp2_with fail
      clear X11 X12
      have NL5 := Lib.hid (show (andL (a) (b)).length ≤ 1600 from Nat.le_trans (andL_length _ _) (Nat.mul_le_mul LA.out LB.out))
      refine (and_set _ _ (a) (b) _ (X2.out.below (bup (bup (bup (bup (bup (bup (bup (bup (bup (bup B3.out B4.out) B5.out) B6.out) B7.out) B8.out) B9.out) B10.out) B11.out) B12.out) B13.out)) (X3.out.below (bup (bup (bup (bup (bup (bup (bup (bup (bup B4.out B5.out) B6.out) B7.out) B8.out) B9.out) B10.out) B11.out) B12.out) B13.out)) (Nat.le_trans LA.out (by decide : 40 ≤ 4398046511104)) (Nat.le_trans LB.out (by decide : 40 ≤ 4398046511104)) (Nat.le_trans (Nat.mul_le_mul LA.out LB.out) (by decide : 40 * 40 ≤ 4398046511104))).mono ?_
      rintro e w14 ⟨v14, rfl, o14, b14⟩
      have B14 := Lib.hid b14
      have X14 := Lib.hid o14.rd
      clear o14 b14
      go_wp2_with fail
      refine (rands_any _ _ (a) (b) _ (RA.out.below (bup (bup (bup (bup (bup (bup (bup (bup (bup (bup (bup (bup (bup B1.out B2.out) B3.out) B4.out) B5.out) B6.out) B7.out) B8.out) B9.out) B10.out) B11.out) B12.out) B13.out) B14.out)) (RB.out.below (bup (bup (bup (bup (bup (bup (bup (bup (bup (bup (bup (bup (bup B1.out B2.out) B3.out) B4.out) B5.out) B6.out) B7.out) B8.out) B9.out) B10.out) B11.out) B12.out) B13.out) B14.out)) (Nat.le_trans LA.out (by decide : 40 ≤ 50)) (Nat.le_trans LB.out (by decide : 40 ≤ 50))).mono ?_
      rintro e w15 ⟨v15, rfl, o15, b15⟩
      have B15 := Lib.hid b15
      have X15 := Lib.hid o15.rd
      clear o15 b15
      go_wp2_with fail
      refine (rsame_any _ _ (andL (a) (b)) (andL (a) (b)) true (decide_eq_true rfl) _ (X14.out.below B15.out) X15.out).mono ?_
      rintro e w16 ⟨rfl, b16⟩
      have B16 := Lib.hid b16
      clear b16
      go_wp2_with fail
      clear X14 X15
      have NL6 := Lib.hid (show (minusL (a) (b)).length ≤ 80 from Nat.le_trans (minusL_length _ _) (Nat.add_le_add LA.out LB.out))
      refine (minus_any _ _ (a) (b) _ (X2.out.below (bup (bup (bup (bup (bup (bup (bup (bup (bup (bup (bup (bup (bup B3.out B4.out) B5.out) B6.out) B7.out) B8.out) B9.out) B10.out) B11.out) B12.out) B13.out) B14.out) B15.out) B16.out)) (X3.out.below (bup (bup (bup (bup (bup (bup (bup (bup (bup (bup (bup (bup B4.out B5.out) B6.out) B7.out) B8.out) B9.out) B10.out) B11.out) B12.out) B13.out) B14.out) B15.out) B16.out)) (Nat.le_trans LA.out (by decide : 40 ≤ 1099511627776)) (Nat.le_trans LB.out (by decide : 40 ≤ 1099511627776))).mono ?_
      rintro e w17 ⟨v17, rfl, o17, b17⟩
      have B17 := Lib.hid b17
      have X17 := Lib.hid o17
      clear o17 b17
      go_wp2_with fail
      refine (rminuss_any _ _ (a) (b) _ (RA.out.below (bup (bup (bup (bup (bup (bup (bup (bup (bup (bup (bup (bup (bup (bup (bup (bup B1.out B2.out) B3.out) B4.out) B5.out) B6.out) B7.out) B8.out) B9.out) B10.out) B11.out) B12.out) B13.out) B14.out) B15.out) B16.out) B17.out)) (RB.out.below (bup (bup (bup (bup (bup (bup (bup (bup (bup (bup (bup (bup (bup (bup (bup (bup B1.out B2.out) B3.out) B4.out) B5.out) B6.out) B7.out) B8.out) B9.out) B10.out) B11.out) B12.out) B13.out) B14.out) B15.out) B16.out) B17.out)) (Nat.le_trans LA.out (by decide : 40 ≤ 50)) (Nat.le_trans LB.out (by decide : 40 ≤ 50))).mono ?_
      rintro e w18 ⟨v18, rfl, o18, b18⟩
      have B18 := Lib.hid b18
      have X18 := Lib.hid o18.rd
      clear o18 b18
      go_wp2_with fail
      refine (rsame_any _ _ (minusL (a) (b)) (minusL (a) (b)) true (decide_eq_true rfl) _ (X17.out.below B18.out) X18.out).mono ?_
      rintro e w19 ⟨rfl, b19⟩
      have B19 := Lib.hid b19
      clear b19
      go_wp2_with fail
      clear X17 X18
      refine (rsame_any _ _ [] [] true (by decide) _ (Rd.nil _) (Rd.nil _)).mono ?_
      rintro e w20 ⟨rfl, b20⟩
      have B20 := Lib.hid b20
      clear b20
      go_wp2_with fail
      refine (rsame_any _ _ [] [] true (by decide) _ (Rd.nil _) (Rd.nil _)).mono ?_
      rintro e w21 ⟨rfl, b21⟩
      have B21 := Lib.hid b21
      clear b21
      go_wp2_with fail
      refine (hasl_any _ (a) t r RR.out _ (X2.out.below (bup (bup (bup (bup (bup (bup (bup (bup (bup (bup (bup (bup (bup (bup (bup (bup (bup (bup B3.out B4.out) B5.out) B6.out) B7.out) B8.out) B9.out) B10.out) B11.out) B12.out) B13.out) B14.out) B15.out) B16.out) B17.out) B18.out) B19.out) B20.out) B21.out)) (Nat.le_trans LA.out (by decide : 40 ≤ 4398046511104))).mono ?_
      rintro e w22 ⟨rfl, b22⟩
      have B22 := Lib.hid b22
      clear b22
      go_wp2_with fail
      refine (rhas_any _ (a) t r RR.out w22 (RA.out.below (bup (bup (bup (bup (bup (bup (bup (bup (bup (bup (bup (bup (bup (bup (bup (bup (bup (bup (bup (bup (bup B1.out B2.out) B3.out) B4.out) B5.out) B6.out) B7.out) B8.out) B9.out) B10.out) B11.out) B12.out) B13.out) B14.out) B15.out) B16.out) B17.out) B18.out) B19.out) B20.out) B21.out) B22.out)) (Nat.le_trans LA.out (by decide : 40 ≤ 100000))).mono ?_
      rintro e w23 ⟨rfl, b23⟩
      have B23 := Lib.hid (show Below w22.heap.size w22 w23 by rw [← b23]; exact Below.refl _ _)
      clear b23
      go_wp2_with fail
      refine (same_any _ _ (a) (b) s SS.out _ (X2.out.below (bup (bup (bup (bup (bup (bup (bup (bup (bup (bup (bup (bup (bup (bup (bup (bup (bup (bup (bup (bup B3.out B4.out) B5.out) B6.out) B7.out) B8.out) B9.out) B10.out) B11.out) B12.out) B13.out) B14.out) B15.out) B16.out) B17.out) B18.out) B19.out) B20.out) B21.out) B22.out) B23.out)) (X3.out.below (bup (bup (bup (bup (bup (bup (bup (bup (bup (bup (bup (bup (bup (bup (bup (bup (bup (bup (bup B4.out B5.out) B6.out) B7.out) B8.out) B9.out) B10.out) B11.out) B12.out) B13.out) B14.out) B15.out) B16.out) B17.out) B18.out) B19.out) B20.out) B21.out) B22.out) B23.out)) (Nat.le_trans LA.out (by decide : 40 ≤ 4398046511104)) (Nat.le_trans LB.out (by decide : 40 ≤ 4398046511104))).mono ?_
      rintro e w24 ⟨rfl, b24⟩
      have B24 := Lib.hid b24
      clear b24
      go_wp2_with fail
      refine (rofs_any _ (a) _ (RA.out.below (bup (bup (bup (bup (bup (bup (bup (bup (bup (bup (bup (bup (bup (bup (bup (bup (bup (bup (bup (bup (bup (bup (bup B1.out B2.out) B3.out) B4.out) B5.out) B6.out) B7.out) B8.out) B9.out) B10.out) B11.out) B12.out) B13.out) B14.out) B15.out) B16.out) B17.out) B18.out) B19.out) B20.out) B21.out) B22.out) B23.out) B24.out)) (Nat.le_trans LA.out (by decide : 40 ≤ 100))).mono ?_
      rintro e w25 ⟨v25, rfl, o25, b25⟩
      have B25 := Lib.hid b25
      have X25 := Lib.hid o25.rd
      clear o25 b25
      go_wp2_with fail
      refine (rofs_any _ (b) _ (RB.out.below (bup (bup (bup (bup (bup (bup (bup (bup (bup (bup (bup (bup (bup (bup (bup (bup (bup (bup (bup (bup (bup (bup (bup (bup B1.out B2.out) B3.out) B4.out) B5.out) B6.out) B7.out) B8.out) B9.out) B10.out) B11.out) B12.out) B13.out) B14.out) B15.out) B16.out) B17.out) B18.out) B19.out) B20.out) B21.out) B22.out) B23.out) B24.out) B25.out)) (Nat.le_trans LB.out (by decide : 40 ≤ 100))).mono ?_
      rintro e w26 ⟨v26, rfl, o26, b26⟩
      have B26 := Lib.hid b26
      have X26 := Lib.hid o26.rd
      clear o26 b26
      go_wp2_with fail
      refine (rsame_any _ _ (ofL (a)) (ofL (b)) s SS.out _ (X25.out.below B26.out) X26.out).mono ?_
      rintro e w27 ⟨rfl, b27⟩
      have B27 := Lib.hid b27
      clear b27
      go_wp2_with fail
      clear X25 X26
      refine (rsame_any _ _ (a) (a) true (decide_eq_true rfl) _ (X2.out.below (bup (bup (bup (bup (bup (bup (bup (bup (bup (bup (bup (bup (bup (bup (bup (bup (bup (bup (bup (bup (bup (bup (bup (bup B3.out B4.out) B5.out) B6.out) B7.out) B8.out) B9.out) B10.out) B11.out) B12.out) B13.out) B14.out) B15.out) B16.out) B17.out) B18.out) B19.out) B20.out) B21.out) B22.out) B23.out) B24.out) B25.out) B26.out) B27.out)) (RA.out.below (bup (bup (bup (bup (bup (bup (bup (bup (bup (bup (bup (bup (bup (bup (bup (bup (bup (bup (bup (bup (bup (bup (bup (bup (bup (bup B1.out B2.out) B3.out) B4.out) B5.out) B6.out) B7.out) B8.out) B9.out) B10.out) B11.out) B12.out) B13.out) B14.out) B15.out) B16.out) B17.out) B18.out) B19.out) B20.out) B21.out) B22.out) B23.out) B24.out) B25.out) B26.out) B27.out))).mono ?_
      rintro e w28 ⟨rfl, b28⟩
      have B28 := Lib.hid b28
      clear b28
      go_wp2_with fail
      refine (rsame_any _ _ (b) (b) true (decide_eq_true rfl) _ (X3.out.below (bup (bup (bup (bup (bup (bup (bup (bup (bup (bup (bup (bup (bup (bup (bup (bup (bup (bup (bup (bup (bup (bup (bup (bup B4.out B5.out) B6.out) B7.out) B8.out) B9.out) B10.out) B11.out) B12.out) B13.out) B14.out) B15.out) B16.out) B17.out) B18.out) B19.out) B20.out) B21.out) B22.out) B23.out) B24.out) B25.out) B26.out) B27.out) B28.out)) (RB.out.below (bup (bup (bup (bup (bup (bup (bup (bup (bup (bup (bup (bup (bup (bup (bup (bup (bup (bup (bup (bup (bup (bup (bup (bup (bup (bup (bup B1.out B2.out) B3.out) B4.out) B5.out) B6.out) B7.out) B8.out) B9.out) B10.out) B11.out) B12.out) B13.out) B14.out) B15.out) B16.out) B17.out) B18.out) B19.out) B20.out) B21.out) B22.out) B23.out) B24.out) B25.out) B26.out) B27.out) B28.out))).mono ?_
      rintro e w29 ⟨rfl, b29⟩
      have B29 := Lib.hid b29
      clear b29
      go_wp2_with fail
      refine (wakes_set _).mono ?_
      rintro e w30 ⟨rfl, b30⟩
      have B30 := Lib.hid b30
      clear b30
      go_wp2_with fail
      go_ret
      exact ⟨rfl, (bup (bup (bup (bup (bup (bup (bup (bup (bup (bup (bup (bup (bup (bup (bup (bup (bup (bup (bup (bup (bup (bup (bup (bup (bup (bup (bup (bup (bup B1.out B2.out) B3.out) B4.out) B5.out) B6.out) B7.out) B8.out) B9.out) B10.out) B11.out) B12.out) B13.out) B14.out) B15.out) B16.out) B17.out) B18.out) B19.out) B20.out) B21.out) B22.out) B23.out) B24.out) B25.out) B26.out) B27.out) B28.out) B29.out) B30.out)⟩
end Go.Proofs.Ytjnhkfjhkhbneaa
