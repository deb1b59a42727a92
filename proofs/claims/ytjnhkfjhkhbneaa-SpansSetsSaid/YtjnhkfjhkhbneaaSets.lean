/- The law SpansSets: its function returns true. -/
import Derived.Test.YtjnhkfjhkhbneaaGreat
namespace Go.Proofs.Ytjnhkfjhkhbneaa
open Go.RowKit SpanP

set_option maxRecDepth 100000 in
set_option maxHeartbeats 4000000 in
theorem spansSets_walk (va vb vc : Value) (a b c : List Sp) (w : World) (hra : Rd w va a) (hrb : Rd w vb b) (hrc : Rd w vc c) :
    Calls Try.prog 11 #[va, vb, vc] w fun e w' => e = .returned (.bool true) ∧ Below w.heap.size w w' := by
  obtain ⟨g, hg⟩ : ∃ g, greatB [a.length, b.length, c.length] = g := ⟨_, rfl⟩
  have G := Lib.hid hg
  have RA := Lib.hid hra
  obtain ⟨aa, ca, rfl, ha1, ha2, hfa⟩ := hra.shape
  have FA := Lib.hid hfa
  clear hfa
  have RB := Lib.hid hrb
  obtain ⟨ab, cb, rfl, hb1, hb2, hfb⟩ := hrb.shape
  have FB := Lib.hid hfb
  clear hfb
  have RC := Lib.hid hrc
  obtain ⟨ac, cc, rfl, hc1, hc2, hfc⟩ := hrc.shape
  have FC := Lib.hid hfc
  clear hfc
  have K1 := great3 _ _ _ a b c g hg w hra hrb hrc
  unfold maxLen at ha2 hb2 hc2
  obtain ⟨na, hna⟩ : ∃ m, m = a.length := ⟨_, rfl⟩
  have NA := Lib.hid hna
  rw [← hna] at RA ha1 K1 ⊢
  clear hna hra
  obtain ⟨nb, hnb⟩ : ∃ m, m = b.length := ⟨_, rfl⟩
  have NB := Lib.hid hnb
  rw [← hnb] at RB hb1 K1 ⊢
  clear hnb hrb
  obtain ⟨nc, hnc⟩ : ∃ m, m = c.length := ⟨_, rfl⟩
  have NC := Lib.hid hnc
  rw [← hnc] at RC hc1 K1 ⊢
  clear hnc hrc
  clear hg
  cases g with
  | true =>
    go_enter Try.func11, Try.ntmps11
    go_wp2_with fail
    refine K1.mono ?_
    rintro e w1 ⟨rfl, b1⟩
    have B1 := Lib.hid (bup (bone w _) b1)
    clear b1 K1
    go_wp2_with fail
    refine (wakes_set _).mono ?_
    rintro e w2 ⟨rfl, b2⟩
    have B2 := Lib.hid (bup B1.out b2)
    clear b2
    go_wp2_with fail
    go_ret
    exact ⟨rfl, B2.out⟩
  | false =>
    have LA := Lib.hid (great_le G.out a.length (by simp))
    have LB := Lib.hid (great_le G.out b.length (by simp))
    have LC := Lib.hid (great_le G.out c.length (by simp))
    clear G
    go_enter Try.func11, Try.ntmps11
    go_wp2_with fail
    refine K1.mono ?_
    rintro e w1 ⟨rfl, b1⟩
    have B1 := Lib.hid (bup (bone w _) b1)
    clear b1 K1
    go_wp2_with fail
    refine (own_any _ (a) _ (RA.out.below B1.out) (Nat.le_trans LA.out (by decide : 40 ≤ 4398046511104))).mono ?_
    rintro e w2 ⟨v2, rfl, o2, b2⟩
    have B2 := Lib.hid b2
    have X2 := Lib.hid o2.rd
    clear o2 b2
    go_wp2_with fail
    refine (own_any _ (b) _ (RB.out.below (bup B1.out B2.out)) (Nat.le_trans LB.out (by decide : 40 ≤ 4398046511104))).mono ?_
    rintro e w3 ⟨v3, rfl, o3, b3⟩
    have B3 := Lib.hid b3
    have X3 := Lib.hid o3.rd
    clear o3 b3
    go_wp2_with fail
    have NL4 := Lib.hid (show (orL (a) (b)).length ≤ 80 from Nat.le_trans (orL_length _ _) (Nat.add_le_add LA.out LB.out))
    refine (or_any _ _ (a) (b) _ (X2.out.below B3.out) X3.out (Nat.le_trans LA.out (by decide : 40 ≤ 2199023255552)) (Nat.le_trans LB.out (by decide : 40 ≤ 2199023255552))).mono ?_
    rintro e w4 ⟨v4, rfl, o4, b4⟩
    have B4 := Lib.hid b4
    have X4 := Lib.hid o4.rd
    clear o4 b4
    go_wp2_with fail
    clear X2 X3
    refine (own_any _ (b) _ (RB.out.below (bup (bup (bup B1.out B2.out) B3.out) B4.out)) (Nat.le_trans LB.out (by decide : 40 ≤ 4398046511104))).mono ?_
    rintro e w5 ⟨v5, rfl, o5, b5⟩
    have B5 := Lib.hid b5
    have X5 := Lib.hid o5.rd
    clear o5 b5
    go_wp2_with fail
    refine (own_any _ (a) _ (RA.out.below (bup (bup (bup (bup B1.out B2.out) B3.out) B4.out) B5.out)) (Nat.le_trans LA.out (by decide : 40 ≤ 4398046511104))).mono ?_
    rintro e w6 ⟨v6, rfl, o6, b6⟩
    have B6 := Lib.hid b6
    have X6 := Lib.hid o6.rd
    clear o6 b6
    go_wp2_with fail
    have NL5 := Lib.hid (show (orL (b) (a)).length ≤ 80 from Nat.le_trans (orL_length _ _) (Nat.add_le_add LB.out LA.out))
    refine (or_any _ _ (b) (a) _ (X5.out.below B6.out) X6.out (Nat.le_trans LB.out (by decide : 40 ≤ 2199023255552)) (Nat.le_trans LA.out (by decide : 40 ≤ 2199023255552))).mono ?_
    rintro e w7 ⟨v7, rfl, o7, b7⟩
    have B7 := Lib.hid b7
    have X7 := Lib.hid o7.rd
    clear o7 b7
    go_wp2_with fail
    clear X5 X6
    refine (equal_any _ _ (orL (a) (b)) (orL (b) (a)) true (decide_eq_true (or_comm a b)) _ (X4.out.below (bup (bup B5.out B6.out) B7.out)) X7.out).mono ?_
    rintro e w8 ⟨rfl, b8⟩
    have B8 := Lib.hid b8
    clear b8
    go_wp2_with fail
    clear X4 X7
    refine (own_any _ (a) _ (RA.out.below (bup (bup (bup (bup (bup (bup (bup B1.out B2.out) B3.out) B4.out) B5.out) B6.out) B7.out) B8.out)) (Nat.le_trans LA.out (by decide : 40 ≤ 4398046511104))).mono ?_
    rintro e w9 ⟨v9, rfl, o9, b9⟩
    have B9 := Lib.hid b9
    have X9 := Lib.hid o9.rd
    clear o9 b9
    go_wp2_with fail
    refine (own_any _ (b) _ (RB.out.below (bup (bup (bup (bup (bup (bup (bup (bup B1.out B2.out) B3.out) B4.out) B5.out) B6.out) B7.out) B8.out) B9.out)) (Nat.le_trans LB.out (by decide : 40 ≤ 4398046511104))).mono ?_
    rintro e w10 ⟨v10, rfl, o10, b10⟩
    have B10 := Lib.hid b10
    have X10 := Lib.hid o10.rd
    clear o10 b10
    go_wp2_with fail
    have NL6 := Lib.hid (show (andL (a) (b)).length ≤ 1600 from Nat.le_trans (andL_length _ _) (Nat.mul_le_mul LA.out LB.out))
    refine (and_set _ _ (a) (b) _ (X9.out.below B10.out) X10.out (Nat.le_trans LA.out (by decide : 40 ≤ 4398046511104)) (Nat.le_trans LB.out (by decide : 40 ≤ 4398046511104)) (Nat.le_trans (Nat.mul_le_mul LA.out LB.out) (by decide : 40 * 40 ≤ 4398046511104))).mono ?_
    rintro e w11 ⟨v11, rfl, o11, b11⟩
    have B11 := Lib.hid b11
    have X11 := Lib.hid o11.rd
    clear o11 b11
    go_wp2_with fail
    clear X9 X10
    refine (own_any _ (b) _ (RB.out.below (bup (bup (bup (bup (bup (bup (bup (bup (bup (bup B1.out B2.out) B3.out) B4.out) B5.out) B6.out) B7.out) B8.out) B9.out) B10.out) B11.out)) (Nat.le_trans LB.out (by decide : 40 ≤ 4398046511104))).mono ?_
    rintro e w12 ⟨v12, rfl, o12, b12⟩
    have B12 := Lib.hid b12
    have X12 := Lib.hid o12.rd
    clear o12 b12
    go_wp2_with fail
    refine (own_any _ (a) _ (RA.out.below (bup (bup (bup (bup (bup (bup (bup (bup (bup (bup (bup B1.out B2.out) B3.out) B4.out) B5.out) B6.out) B7.out) B8.out) B9.out) B10.out) B11.out) B12.out)) (Nat.le_trans LA.out (by decide : 40 ≤ 4398046511104))).mono ?_
    rintro e w13 ⟨v13, rfl, o13, b13⟩
    have B13 := Lib.hid b13
    have X13 := Lib.hid o13.rd
    clear o13 b13
    go_wp2_with fail
    have NL7 := Lib.hid (show (andL (b) (a)).length ≤ 1600 from Nat.le_trans (andL_length _ _) (Nat.mul_le_mul LB.out LA.out))
    refine (and_set _ _ (b) (a) _ (X12.out.below B13.out) X13.out (Nat.le_trans LB.out (by decide : 40 ≤ 4398046511104)) (Nat.le_trans LA.out (by decide : 40 ≤ 4398046511104)) (Nat.le_trans (Nat.mul_le_mul LB.out LA.out) (by decide : 40 * 40 ≤ 4398046511104))).mono ?_
    rintro e w14 ⟨v14, rfl, o14, b14⟩
    have B14 := Lib.hid b14
    have X14 := Lib.hid o14.rd
    clear o14 b14
    go_wp2_with fail
    clear X12 X13
    refine (equal_any _ _ (andL (a) (b)) (andL (b) (a)) true (decide_eq_true (and_comm a b)) _ (X11.out.below (bup (bup B12.out B13.out) B14.out)) X14.out).mono ?_
    rintro e w15 ⟨rfl, b15⟩
    have B15 := Lib.hid b15
    clear b15
    go_wp2_with fail
    clear X11 X14
    refine (own_any _ (a) _ (RA.out.below (bup (bup (bup (bup (bup (bup (bup (bup (bup (bup (bup (bup (bup (bup B1.out B2.out) B3.out) B4.out) B5.out) B6.out) B7.out) B8.out) B9.out) B10.out) B11.out) B12.out) B13.out) B14.out) B15.out)) (Nat.le_trans LA.out (by decide : 40 ≤ 4398046511104))).mono ?_
    rintro e w16 ⟨v16, rfl, o16, b16⟩
    have B16 := Lib.hid b16
    have X16 := Lib.hid o16.rd
    clear o16 b16
    go_wp2_with fail
    refine (own_any _ (b) _ (RB.out.below (bup (bup (bup (bup (bup (bup (bup (bup (bup (bup (bup (bup (bup (bup (bup B1.out B2.out) B3.out) B4.out) B5.out) B6.out) B7.out) B8.out) B9.out) B10.out) B11.out) B12.out) B13.out) B14.out) B15.out) B16.out)) (Nat.le_trans LB.out (by decide : 40 ≤ 4398046511104))).mono ?_
    rintro e w17 ⟨v17, rfl, o17, b17⟩
    have B17 := Lib.hid b17
    have X17 := Lib.hid o17.rd
    clear o17 b17
    go_wp2_with fail
    refine (or_any _ _ (a) (b) _ (X16.out.below B17.out) X17.out (Nat.le_trans LA.out (by decide : 40 ≤ 2199023255552)) (Nat.le_trans LB.out (by decide : 40 ≤ 2199023255552))).mono ?_
    rintro e w18 ⟨v18, rfl, o18, b18⟩
    have B18 := Lib.hid b18
    have X18 := Lib.hid o18.rd
    clear o18 b18
    go_wp2_with fail
    clear X16 X17
    refine (own_any _ (c) _ (RC.out.below (bup (bup (bup (bup (bup (bup (bup (bup (bup (bup (bup (bup (bup (bup (bup (bup (bup B1.out B2.out) B3.out) B4.out) B5.out) B6.out) B7.out) B8.out) B9.out) B10.out) B11.out) B12.out) B13.out) B14.out) B15.out) B16.out) B17.out) B18.out)) (Nat.le_trans LC.out (by decide : 40 ≤ 4398046511104))).mono ?_
    rintro e w19 ⟨v19, rfl, o19, b19⟩
    have B19 := Lib.hid b19
    have X19 := Lib.hid o19.rd
    clear o19 b19
    go_wp2_with fail
    have NL8 := Lib.hid (show (orL (orL (a) (b)) (c)).length ≤ 120 from Nat.le_trans (orL_length _ _) (Nat.add_le_add NL4.out LC.out))
    refine (or_any _ _ (orL (a) (b)) (c) _ (X18.out.below B19.out) X19.out (Nat.le_trans NL4.out (by decide : 80 ≤ 2199023255552)) (Nat.le_trans LC.out (by decide : 40 ≤ 2199023255552))).mono ?_
    rintro e w20 ⟨v20, rfl, o20, b20⟩
    have B20 := Lib.hid b20
    have X20 := Lib.hid o20.rd
    clear o20 b20
    go_wp2_with fail
    clear X18 X19
    refine (own_any _ (a) _ (RA.out.below (bup (bup (bup (bup (bup (bup (bup (bup (bup (bup (bup (bup (bup (bup (bup (bup (bup (bup (bup B1.out B2.out) B3.out) B4.out) B5.out) B6.out) B7.out) B8.out) B9.out) B10.out) B11.out) B12.out) B13.out) B14.out) B15.out) B16.out) B17.out) B18.out) B19.out) B20.out)) (Nat.le_trans LA.out (by decide : 40 ≤ 4398046511104))).mono ?_
    rintro e w21 ⟨v21, rfl, o21, b21⟩
    have B21 := Lib.hid b21
    have X21 := Lib.hid o21.rd
    clear o21 b21
    go_wp2_with fail
    refine (own_any _ (b) _ (RB.out.below (bup (bup (bup (bup (bup (bup (bup (bup (bup (bup (bup (bup (bup (bup (bup (bup (bup (bup (bup (bup B1.out B2.out) B3.out) B4.out) B5.out) B6.out) B7.out) B8.out) B9.out) B10.out) B11.out) B12.out) B13.out) B14.out) B15.out) B16.out) B17.out) B18.out) B19.out) B20.out) B21.out)) (Nat.le_trans LB.out (by decide : 40 ≤ 4398046511104))).mono ?_
    rintro e w22 ⟨v22, rfl, o22, b22⟩
    have B22 := Lib.hid b22
    have X22 := Lib.hid o22.rd
    clear o22 b22
    go_wp2_with fail
    refine (own_any _ (c) _ (RC.out.below (bup (bup (bup (bup (bup (bup (bup (bup (bup (bup (bup (bup (bup (bup (bup (bup (bup (bup (bup (bup (bup B1.out B2.out) B3.out) B4.out) B5.out) B6.out) B7.out) B8.out) B9.out) B10.out) B11.out) B12.out) B13.out) B14.out) B15.out) B16.out) B17.out) B18.out) B19.out) B20.out) B21.out) B22.out)) (Nat.le_trans LC.out (by decide : 40 ≤ 4398046511104))).mono ?_
    rintro e w23 ⟨v23, rfl, o23, b23⟩
    have B23 := Lib.hid b23
    have X23 := Lib.hid o23.rd
    clear o23 b23
    go_wp2_with fail
    have NL9 := Lib.hid (show (orL (b) (c)).length ≤ 80 from Nat.le_trans (orL_length _ _) (Nat.add_le_add LB.out LC.out))
    refine (or_any _ _ (b) (c) _ (X22.out.below B23.out) X23.out (Nat.le_trans LB.out (by decide : 40 ≤ 2199023255552)) (Nat.le_trans LC.out (by decide : 40 ≤ 2199023255552))).mono ?_
    rintro e w24 ⟨v24, rfl, o24, b24⟩
    have B24 := Lib.hid b24
    have X24 := Lib.hid o24.rd
    clear o24 b24
    go_wp2_with fail
    clear X22 X23
    have NL10 := Lib.hid (show (orL (a) (orL (b) (c))).length ≤ 120 from Nat.le_trans (orL_length _ _) (Nat.add_le_add LA.out NL9.out))
    refine (or_any _ _ (a) (orL (b) (c)) _ (X21.out.below (bup (bup B22.out B23.out) B24.out)) X24.out (Nat.le_trans LA.out (by decide : 40 ≤ 2199023255552)) (Nat.le_trans NL9.out (by decide : 80 ≤ 2199023255552))).mono ?_
    rintro e w25 ⟨v25, rfl, o25, b25⟩
    have B25 := Lib.hid b25
    have X25 := Lib.hid o25.rd
    clear o25 b25
    go_wp2_with fail
    clear X21 X24
    refine (equal_any _ _ (orL (orL (a) (b)) (c)) (orL (a) (orL (b) (c))) true (decide_eq_true (or_assoc a b c)) _ (X20.out.below (bup (bup (bup (bup B21.out B22.out) B23.out) B24.out) B25.out)) X25.out).mono ?_
    rintro e w26 ⟨rfl, b26⟩
    have B26 := Lib.hid b26
    clear b26
    go_wp2_with fail
    clear X20 X25
    refine (own_any _ (a) _ (RA.out.below (bup (bup (bup (bup (bup (bup (bup (bup (bup (bup (bup (bup (bup (bup (bup (bup (bup (bup (bup (bup (bup (bup (bup (bup (bup B1.out B2.out) B3.out) B4.out) B5.out) B6.out) B7.out) B8.out) B9.out) B10.out) B11.out) B12.out) B13.out) B14.out) B15.out) B16.out) B17.out) B18.out) B19.out) B20.out) B21.out) B22.out) B23.out) B24.out) B25.out) B26.out)) (Nat.le_trans LA.out (by decide : 40 ≤ 4398046511104))).mono ?_
    rintro e w27 ⟨v27, rfl, o27, b27⟩
    have B27 := Lib.hid b27
    have X27 := Lib.hid o27.rd
    clear o27 b27
    go_wp2_with fail
    refine (own_any _ (b) _ (RB.out.below (bup (bup (bup (bup (bup (bup (bup (bup (bup (bup (bup (bup (bup (bup (bup (bup (bup (bup (bup (bup (bup (bup (bup (bup (bup (bup B1.out B2.out) B3.out) B4.out) B5.out) B6.out) B7.out) B8.out) B9.out) B10.out) B11.out) B12.out) B13.out) B14.out) B15.out) B16.out) B17.out) B18.out) B19.out) B20.out) B21.out) B22.out) B23.out) B24.out) B25.out) B26.out) B27.out)) (Nat.le_trans LB.out (by decide : 40 ≤ 4398046511104))).mono ?_
    rintro e w28 ⟨v28, rfl, o28, b28⟩
    have B28 := Lib.hid b28
    have X28 := Lib.hid o28.rd
    clear o28 b28
    go_wp2_with fail
    refine (and_set _ _ (a) (b) _ (X27.out.below B28.out) X28.out (Nat.le_trans LA.out (by decide : 40 ≤ 4398046511104)) (Nat.le_trans LB.out (by decide : 40 ≤ 4398046511104)) (Nat.le_trans (Nat.mul_le_mul LA.out LB.out) (by decide : 40 * 40 ≤ 4398046511104))).mono ?_
    rintro e w29 ⟨v29, rfl, o29, b29⟩
    have B29 := Lib.hid b29
    have X29 := Lib.hid o29.rd
    clear o29 b29
    go_wp2_with fail
    clear X27 X28
    refine (own_any _ (a) _ (RA.out.below (bup (bup (bup (bup (bup (bup (bup (bup (bup (bup (bup (bup (bup (bup (bup (bup (bup (bup (bup (bup (bup (bup (bup (bup (bup (bup (bup (bup B1.out B2.out) B3.out) B4.out) B5.out) B6.out) B7.out) B8.out) B9.out) B10.out) B11.out) B12.out) B13.out) B14.out) B15.out) B16.out) B17.out) B18.out) B19.out) B20.out) B21.out) B22.out) B23.out) B24.out) B25.out) B26.out) B27.out) B28.out) B29.out)) (Nat.le_trans LA.out (by decide : 40 ≤ 4398046511104))).mono ?_
    rintro e w30 ⟨v30, rfl, o30, b30⟩
    have B30 := Lib.hid b30
    have X30 := Lib.hid o30.rd
    clear o30 b30
    go_wp2_with fail
    refine (own_any _ (b) _ (RB.out.below (bup (bup (bup (bup (bup (bup (bup (bup (bup (bup (bup (bup (bup (bup (bup (bup (bup (bup (bup (bup (bup (bup (bup (bup (bup (bup (bup (bup (bup B1.out B2.out) B3.out) B4.out) B5.out) B6.out) B7.out) B8.out) B9.out) B10.out) B11.out) B12.out) B13.out) B14.out) B15.out) B16.out) B17.out) B18.out) B19.out) B20.out) B21.out) B22.out) B23.out) B24.out) B25.out) B26.out) B27.out) B28.out) B29.out) B30.out)) (Nat.le_trans LB.out (by decide : 40 ≤ 4398046511104))).mono ?_
    rintro e w31 ⟨v31, rfl, o31, b31⟩
    have B31 := Lib.hid b31
    have X31 := Lib.hid o31.rd
    clear o31 b31
    go_wp2_with fail
    have NL11 := Lib.hid (show (minusL (a) (b)).length ≤ 80 from Nat.le_trans (minusL_length _ _) (Nat.add_le_add LA.out LB.out))
    refine (minus_any _ _ (a) (b) _ (X30.out.below B31.out) X31.out (Nat.le_trans LA.out (by decide : 40 ≤ 1099511627776)) (Nat.le_trans LB.out (by decide : 40 ≤ 1099511627776))).mono ?_
    rintro e w32 ⟨v32, rfl, o32, b32⟩
    have B32 := Lib.hid b32
    have X32 := Lib.hid o32
    clear o32 b32
    go_wp2_with fail
    clear X30 X31
    have NL12 := Lib.hid (show (andL (andL (a) (b)) (minusL (a) (b))).length ≤ 128000 from Nat.le_trans (andL_length _ _) (Nat.mul_le_mul NL6.out NL11.out))
    refine (and_set _ _ (andL (a) (b)) (minusL (a) (b)) _ (X29.out.below (bup (bup B30.out B31.out) B32.out)) X32.out (Nat.le_trans NL6.out (by decide : 1600 ≤ 4398046511104)) (Nat.le_trans NL11.out (by decide : 80 ≤ 4398046511104)) (Nat.le_trans (Nat.mul_le_mul NL6.out NL11.out) (by decide : 1600 * 80 ≤ 4398046511104))).mono ?_
    rintro e w33 ⟨v33, rfl, o33, b33⟩
    rw [and_in_out] at o33
    have B33 := Lib.hid b33
    have X33 := Lib.hid o33.rd
    clear o33 b33
    obtain ⟨za33, zc33, hz33, zi33, zj33, _⟩ := X33.out.shape
    simp only [List.length_nil] at hz33
    subst hz33
    clear zi33 zj33
    go_wp2_with fail
    clear X33
    have NL13 := Lib.hid (show (orL (andL (a) (b)) (minusL (a) (b))).length ≤ 1680 from Nat.le_trans (orL_length _ _) (Nat.add_le_add NL6.out NL11.out))
    refine (or_any _ _ (andL (a) (b)) (minusL (a) (b)) _ (X29.out.below (bup (bup (bup B30.out B31.out) B32.out) B33.out)) (X32.out.below B33.out) (Nat.le_trans NL6.out (by decide : 1600 ≤ 2199023255552)) (Nat.le_trans NL11.out (by decide : 80 ≤ 2199023255552))).mono ?_
    rintro e w34 ⟨v34, rfl, o34, b34⟩
    have B34 := Lib.hid b34
    have X34 := Lib.hid o34.rd
    clear o34 b34
    go_wp2_with fail
    have NL14 := Lib.hid (show (ofL (a)).length ≤ 40 from Nat.le_trans (ofL_length _) LA.out)
    refine (of_any _ (a) _ (RA.out.below (bup (bup (bup (bup (bup (bup (bup (bup (bup (bup (bup (bup (bup (bup (bup (bup (bup (bup (bup (bup (bup (bup (bup (bup (bup (bup (bup (bup (bup (bup (bup (bup (bup B1.out B2.out) B3.out) B4.out) B5.out) B6.out) B7.out) B8.out) B9.out) B10.out) B11.out) B12.out) B13.out) B14.out) B15.out) B16.out) B17.out) B18.out) B19.out) B20.out) B21.out) B22.out) B23.out) B24.out) B25.out) B26.out) B27.out) B28.out) B29.out) B30.out) B31.out) B32.out) B33.out) B34.out)) (Nat.le_trans LA.out (by decide : 40 ≤ 4398046511104))).mono ?_
    rintro e w35 ⟨v35, rfl, o35, b35⟩
    have B35 := Lib.hid b35
    have X35 := Lib.hid o35.rd
    clear o35 b35
    go_wp2_with fail
    refine (equal_any _ _ (orL (andL (a) (b)) (minusL (a) (b))) (ofL (a)) true (decide_eq_true (or_in_out a b)) _ (X34.out.below B35.out) X35.out).mono ?_
    rintro e w36 ⟨rfl, b36⟩
    have B36 := Lib.hid b36
    clear b36
    go_wp2_with fail
    clear X34 X35
    refine (own_any _ (b) _ (RB.out.below (bup (bup (bup (bup (bup (bup (bup (bup (bup (bup (bup (bup (bup (bup (bup (bup (bup (bup (bup (bup (bup (bup (bup (bup (bup (bup (bup (bup (bup (bup (bup (bup (bup (bup (bup B1.out B2.out) B3.out) B4.out) B5.out) B6.out) B7.out) B8.out) B9.out) B10.out) B11.out) B12.out) B13.out) B14.out) B15.out) B16.out) B17.out) B18.out) B19.out) B20.out) B21.out) B22.out) B23.out) B24.out) B25.out) B26.out) B27.out) B28.out) B29.out) B30.out) B31.out) B32.out) B33.out) B34.out) B35.out) B36.out)) (Nat.le_trans LB.out (by decide : 40 ≤ 4398046511104))).mono ?_
    rintro e w37 ⟨v37, rfl, o37, b37⟩
    have B37 := Lib.hid b37
    have X37 := Lib.hid o37.rd
    clear o37 b37
    go_wp2_with fail
    have NL15 := Lib.hid (show (andL (minusL (a) (b)) (b)).length ≤ 3200 from Nat.le_trans (andL_length _ _) (Nat.mul_le_mul NL11.out LB.out))
    refine (and_set _ _ (minusL (a) (b)) (b) _ (X32.out.below (bup (bup (bup (bup B33.out B34.out) B35.out) B36.out) B37.out)) X37.out (Nat.le_trans NL11.out (by decide : 80 ≤ 4398046511104)) (Nat.le_trans LB.out (by decide : 40 ≤ 4398046511104)) (Nat.le_trans (Nat.mul_le_mul NL11.out LB.out) (by decide : 80 * 40 ≤ 4398046511104))).mono ?_
    rintro e w38 ⟨v38, rfl, o38, b38⟩
    rw [and_out] at o38
    have B38 := Lib.hid b38
    have X38 := Lib.hid o38.rd
    clear o38 b38
    clear X37
    obtain ⟨za38, zc38, hz38, zi38, zj38, _⟩ := X38.out.shape
    simp only [List.length_nil] at hz38
    subst hz38
    clear zi38 zj38
    go_wp2_with fail
    clear X38
    refine (own_any _ (a) _ (RA.out.below (bup (bup (bup (bup (bup (bup (bup (bup (bup (bup (bup (bup (bup (bup (bup (bup (bup (bup (bup (bup (bup (bup (bup (bup (bup (bup (bup (bup (bup (bup (bup (bup (bup (bup (bup (bup (bup B1.out B2.out) B3.out) B4.out) B5.out) B6.out) B7.out) B8.out) B9.out) B10.out) B11.out) B12.out) B13.out) B14.out) B15.out) B16.out) B17.out) B18.out) B19.out) B20.out) B21.out) B22.out) B23.out) B24.out) B25.out) B26.out) B27.out) B28.out) B29.out) B30.out) B31.out) B32.out) B33.out) B34.out) B35.out) B36.out) B37.out) B38.out)) (Nat.le_trans LA.out (by decide : 40 ≤ 4398046511104))).mono ?_
    rintro e w39 ⟨v39, rfl, o39, b39⟩
    have B39 := Lib.hid b39
    have X39 := Lib.hid o39.rd
    clear o39 b39
    go_wp2_with fail
    refine (own_any _ (a) _ (RA.out.below (bup (bup (bup (bup (bup (bup (bup (bup (bup (bup (bup (bup (bup (bup (bup (bup (bup (bup (bup (bup (bup (bup (bup (bup (bup (bup (bup (bup (bup (bup (bup (bup (bup (bup (bup (bup (bup (bup B1.out B2.out) B3.out) B4.out) B5.out) B6.out) B7.out) B8.out) B9.out) B10.out) B11.out) B12.out) B13.out) B14.out) B15.out) B16.out) B17.out) B18.out) B19.out) B20.out) B21.out) B22.out) B23.out) B24.out) B25.out) B26.out) B27.out) B28.out) B29.out) B30.out) B31.out) B32.out) B33.out) B34.out) B35.out) B36.out) B37.out) B38.out) B39.out)) (Nat.le_trans LA.out (by decide : 40 ≤ 4398046511104))).mono ?_
    rintro e w40 ⟨v40, rfl, o40, b40⟩
    have B40 := Lib.hid b40
    have X40 := Lib.hid o40.rd
    clear o40 b40
    go_wp2_with fail
    have NL16 := Lib.hid (show (minusL (a) (a)).length ≤ 80 from Nat.le_trans (minusL_length _ _) (Nat.add_le_add LA.out LA.out))
    refine (minus_any _ _ (a) (a) _ (X39.out.below B40.out) X40.out (Nat.le_trans LA.out (by decide : 40 ≤ 1099511627776)) (Nat.le_trans LA.out (by decide : 40 ≤ 1099511627776))).mono ?_
    rintro e w41 ⟨v41, rfl, o41, b41⟩
    rw [minus_self] at o41
    have B41 := Lib.hid b41
    have X41 := Lib.hid o41
    clear o41 b41
    clear X39 X40
    obtain ⟨za41, zc41, hz41, zi41, zj41, _⟩ := X41.out.shape
    simp only [List.length_nil] at hz41
    subst hz41
    clear zi41 zj41
    go_wp2_with fail
    clear X41 X29 X32
    refine (own_any _ (a) _ (RA.out.below (bup (bup (bup (bup (bup (bup (bup (bup (bup (bup (bup (bup (bup (bup (bup (bup (bup (bup (bup (bup (bup (bup (bup (bup (bup (bup (bup (bup (bup (bup (bup (bup (bup (bup (bup (bup (bup (bup (bup (bup B1.out B2.out) B3.out) B4.out) B5.out) B6.out) B7.out) B8.out) B9.out) B10.out) B11.out) B12.out) B13.out) B14.out) B15.out) B16.out) B17.out) B18.out) B19.out) B20.out) B21.out) B22.out) B23.out) B24.out) B25.out) B26.out) B27.out) B28.out) B29.out) B30.out) B31.out) B32.out) B33.out) B34.out) B35.out) B36.out) B37.out) B38.out) B39.out) B40.out) B41.out)) (Nat.le_trans LA.out (by decide : 40 ≤ 4398046511104))).mono ?_
    rintro e w42 ⟨v42, rfl, o42, b42⟩
    have B42 := Lib.hid b42
    have X42 := Lib.hid o42.rd
    clear o42 b42
    go_wp2_with fail
    refine (own_any _ (b) _ (RB.out.below (bup (bup (bup (bup (bup (bup (bup (bup (bup (bup (bup (bup (bup (bup (bup (bup (bup (bup (bup (bup (bup (bup (bup (bup (bup (bup (bup (bup (bup (bup (bup (bup (bup (bup (bup (bup (bup (bup (bup (bup (bup B1.out B2.out) B3.out) B4.out) B5.out) B6.out) B7.out) B8.out) B9.out) B10.out) B11.out) B12.out) B13.out) B14.out) B15.out) B16.out) B17.out) B18.out) B19.out) B20.out) B21.out) B22.out) B23.out) B24.out) B25.out) B26.out) B27.out) B28.out) B29.out) B30.out) B31.out) B32.out) B33.out) B34.out) B35.out) B36.out) B37.out) B38.out) B39.out) B40.out) B41.out) B42.out)) (Nat.le_trans LB.out (by decide : 40 ≤ 4398046511104))).mono ?_
    rintro e w43 ⟨v43, rfl, o43, b43⟩
    have B43 := Lib.hid b43
    have X43 := Lib.hid o43.rd
    clear o43 b43
    go_wp2_with fail
    refine (own_any _ (c) _ (RC.out.below (bup (bup (bup (bup (bup (bup (bup (bup (bup (bup (bup (bup (bup (bup (bup (bup (bup (bup (bup (bup (bup (bup (bup (bup (bup (bup (bup (bup (bup (bup (bup (bup (bup (bup (bup (bup (bup (bup (bup (bup (bup (bup B1.out B2.out) B3.out) B4.out) B5.out) B6.out) B7.out) B8.out) B9.out) B10.out) B11.out) B12.out) B13.out) B14.out) B15.out) B16.out) B17.out) B18.out) B19.out) B20.out) B21.out) B22.out) B23.out) B24.out) B25.out) B26.out) B27.out) B28.out) B29.out) B30.out) B31.out) B32.out) B33.out) B34.out) B35.out) B36.out) B37.out) B38.out) B39.out) B40.out) B41.out) B42.out) B43.out)) (Nat.le_trans LC.out (by decide : 40 ≤ 4398046511104))).mono ?_
    rintro e w44 ⟨v44, rfl, o44, b44⟩
    have B44 := Lib.hid b44
    have X44 := Lib.hid o44.rd
    clear o44 b44
    go_wp2_with fail
    refine (or_any _ _ (b) (c) _ (X43.out.below B44.out) X44.out (Nat.le_trans LB.out (by decide : 40 ≤ 2199023255552)) (Nat.le_trans LC.out (by decide : 40 ≤ 2199023255552))).mono ?_
    rintro e w45 ⟨v45, rfl, o45, b45⟩
    have B45 := Lib.hid b45
    have X45 := Lib.hid o45.rd
    clear o45 b45
    go_wp2_with fail
    clear X43 X44
    have NL17 := Lib.hid (show (minusL (a) (orL (b) (c))).length ≤ 120 from Nat.le_trans (minusL_length _ _) (Nat.add_le_add LA.out NL9.out))
    refine (minus_any _ _ (a) (orL (b) (c)) _ (X42.out.below (bup (bup B43.out B44.out) B45.out)) X45.out (Nat.le_trans LA.out (by decide : 40 ≤ 1099511627776)) (Nat.le_trans NL9.out (by decide : 80 ≤ 1099511627776))).mono ?_
    rintro e w46 ⟨v46, rfl, o46, b46⟩
    have B46 := Lib.hid b46
    have X46 := Lib.hid o46
    clear o46 b46
    go_wp2_with fail
    clear X42 X45
    refine (own_any _ (a) _ (RA.out.below (bup (bup (bup (bup (bup (bup (bup (bup (bup (bup (bup (bup (bup (bup (bup (bup (bup (bup (bup (bup (bup (bup (bup (bup (bup (bup (bup (bup (bup (bup (bup (bup (bup (bup (bup (bup (bup (bup (bup (bup (bup (bup (bup (bup (bup B1.out B2.out) B3.out) B4.out) B5.out) B6.out) B7.out) B8.out) B9.out) B10.out) B11.out) B12.out) B13.out) B14.out) B15.out) B16.out) B17.out) B18.out) B19.out) B20.out) B21.out) B22.out) B23.out) B24.out) B25.out) B26.out) B27.out) B28.out) B29.out) B30.out) B31.out) B32.out) B33.out) B34.out) B35.out) B36.out) B37.out) B38.out) B39.out) B40.out) B41.out) B42.out) B43.out) B44.out) B45.out) B46.out)) (Nat.le_trans LA.out (by decide : 40 ≤ 4398046511104))).mono ?_
    rintro e w47 ⟨v47, rfl, o47, b47⟩
    have B47 := Lib.hid b47
    have X47 := Lib.hid o47.rd
    clear o47 b47
    go_wp2_with fail
    refine (own_any _ (b) _ (RB.out.below (bup (bup (bup (bup (bup (bup (bup (bup (bup (bup (bup (bup (bup (bup (bup (bup (bup (bup (bup (bup (bup (bup (bup (bup (bup (bup (bup (bup (bup (bup (bup (bup (bup (bup (bup (bup (bup (bup (bup (bup (bup (bup (bup (bup (bup (bup B1.out B2.out) B3.out) B4.out) B5.out) B6.out) B7.out) B8.out) B9.out) B10.out) B11.out) B12.out) B13.out) B14.out) B15.out) B16.out) B17.out) B18.out) B19.out) B20.out) B21.out) B22.out) B23.out) B24.out) B25.out) B26.out) B27.out) B28.out) B29.out) B30.out) B31.out) B32.out) B33.out) B34.out) B35.out) B36.out) B37.out) B38.out) B39.out) B40.out) B41.out) B42.out) B43.out) B44.out) B45.out) B46.out) B47.out)) (Nat.le_trans LB.out (by decide : 40 ≤ 4398046511104))).mono ?_
    rintro e w48 ⟨v48, rfl, o48, b48⟩
    have B48 := Lib.hid b48
    have X48 := Lib.hid o48.rd
    clear o48 b48
    go_wp2_with fail
    refine (minus_any _ _ (a) (b) _ (X47.out.below B48.out) X48.out (Nat.le_trans LA.out (by decide : 40 ≤ 1099511627776)) (Nat.le_trans LB.out (by decide : 40 ≤ 1099511627776))).mono ?_
    rintro e w49 ⟨v49, rfl, o49, b49⟩
    have B49 := Lib.hid b49
    have X49 := Lib.hid o49
    clear o49 b49
    go_wp2_with fail
    clear X47 X48
    refine (own_any _ (c) _ (RC.out.below (bup (bup (bup (bup (bup (bup (bup (bup (bup (bup (bup (bup (bup (bup (bup (bup (bup (bup (bup (bup (bup (bup (bup (bup (bup (bup (bup (bup (bup (bup (bup (bup (bup (bup (bup (bup (bup (bup (bup (bup (bup (bup (bup (bup (bup (bup (bup (bup B1.out B2.out) B3.out) B4.out) B5.out) B6.out) B7.out) B8.out) B9.out) B10.out) B11.out) B12.out) B13.out) B14.out) B15.out) B16.out) B17.out) B18.out) B19.out) B20.out) B21.out) B22.out) B23.out) B24.out) B25.out) B26.out) B27.out) B28.out) B29.out) B30.out) B31.out) B32.out) B33.out) B34.out) B35.out) B36.out) B37.out) B38.out) B39.out) B40.out) B41.out) B42.out) B43.out) B44.out) B45.out) B46.out) B47.out) B48.out) B49.out)) (Nat.le_trans LC.out (by decide : 40 ≤ 4398046511104))).mono ?_
    rintro e w50 ⟨v50, rfl, o50, b50⟩
    have B50 := Lib.hid b50
    have X50 := Lib.hid o50.rd
    clear o50 b50
    go_wp2_with fail
    have NL18 := Lib.hid (show (minusL (minusL (a) (b)) (c)).length ≤ 120 from Nat.le_trans (minusL_length _ _) (Nat.add_le_add NL11.out LC.out))
    refine (minus_any _ _ (minusL (a) (b)) (c) _ (X49.out.below B50.out) X50.out (Nat.le_trans NL11.out (by decide : 80 ≤ 1099511627776)) (Nat.le_trans LC.out (by decide : 40 ≤ 1099511627776))).mono ?_
    rintro e w51 ⟨v51, rfl, o51, b51⟩
    have B51 := Lib.hid b51
    have X51 := Lib.hid o51
    clear o51 b51
    go_wp2_with fail
    clear X49 X50
    refine (equal_any _ _ (minusL (a) (orL (b) (c))) (minusL (minusL (a) (b)) (c)) true (decide_eq_true (minus_or a b c)) _ (X46.out.below (bup (bup (bup (bup B47.out B48.out) B49.out) B50.out) B51.out)) X51.out).mono ?_
    rintro e w52 ⟨rfl, b52⟩
    have B52 := Lib.hid b52
    clear b52
    go_wp2_with fail
    clear X46 X51
    refine (wakes_set _).mono ?_
    rintro e w53 ⟨rfl, b53⟩
    have B53 := Lib.hid b53
    clear b53
    go_wp2_with fail
    go_ret
    exact ⟨rfl, (bup (bup (bup (bup (bup (bup (bup (bup (bup (bup (bup (bup (bup (bup (bup (bup (bup (bup (bup (bup (bup (bup (bup (bup (bup (bup (bup (bup (bup (bup (bup (bup (bup (bup (bup (bup (bup (bup (bup (bup (bup (bup (bup (bup (bup (bup (bup (bup (bup (bup (bup (bup B1.out B2.out) B3.out) B4.out) B5.out) B6.out) B7.out) B8.out) B9.out) B10.out) B11.out) B12.out) B13.out) B14.out) B15.out) B16.out) B17.out) B18.out) B19.out) B20.out) B21.out) B22.out) B23.out) B24.out) B25.out) B26.out) B27.out) B28.out) B29.out) B30.out) B31.out) B32.out) B33.out) B34.out) B35.out) B36.out) B37.out) B38.out) B39.out) B40.out) B41.out) B42.out) B43.out) B44.out) B45.out) B46.out) B47.out) B48.out) B49.out) B50.out) B51.out) B52.out) B53.out)⟩
end Go.Proofs.Ytjnhkfjhkhbneaa
