/- The law SpansAlign: its function returns true. -/
import Derived.Test.YtjnhkfjhkhbneaaTimes
namespace Go.Proofs.Ytjnhkfjhkhbneaa
open Go.RowKit SpanP

set_option maxRecDepth 100000 in
set_option maxHeartbeats 4000000 in
theorem spansAlign_walk (va vb : Value) (a b : List Sp) (n : Int) (w : World) (hra : Rd w va a) (hrb : Rd w vb b) :
    Calls Try.prog 7 #[va, vb, .int .i64 n] w fun e w' => e = .returned (.bool true) ∧ Below w.heap.size w w' := by
  obtain ⟨g, hg⟩ : ∃ g, greatB [a.length, b.length] = g := ⟨_, rfl⟩
  have G := Lib.hid hg
  have RA := Lib.hid hra
  obtain ⟨aa, ca, rfl, ha1, ha2, hfa⟩ := hra.shape
  have FA := Lib.hid hfa
  clear hfa
  have RB := Lib.hid hrb
  obtain ⟨ab, cb, rfl, hb1, hb2, hfb⟩ := hrb.shape
  have FB := Lib.hid hfb
  clear hfb
  have K1 := great2 _ _ a b g hg w hra hrb
  unfold maxLen at ha2 hb2
  obtain ⟨na, hna⟩ : ∃ m, m = a.length := ⟨_, rfl⟩
  have NA := Lib.hid hna
  rw [← hna] at RA ha1 K1 ⊢
  clear hna hra
  obtain ⟨nb, hnb⟩ : ∃ m, m = b.length := ⟨_, rfl⟩
  have NB := Lib.hid hnb
  rw [← hnb] at RB hb1 K1 ⊢
  clear hnb hrb
  clear hg
  obtain ⟨bw, hbw⟩ : ∃ b, widthB n = b := ⟨_, rfl⟩
  have BW := Lib.hid hbw
  have CW := Lib.hid (width_is n bw hbw)
  clear hbw
  cases g with
  | true =>
    go_enter Try.func7, Try.ntmps7
    go_wp2_with fail
    refine K1.mono ?_
    rintro e w1 ⟨rfl, b1⟩
    have B1 := Lib.hid (bup (bone w _) b1)
    clear b1 K1
    go_wp2_with fail
    refine (wakes_set _).mono ?_
    rintro e wz ⟨rfl, bz⟩
    have BZ := Lib.hid (bup B1.out bz)
    clear bz
    go_wp2_with fail
    go_ret
    exact ⟨rfl, BZ.out⟩
  | false =>
    have LA := Lib.hid (great_le G.out a.length (by simp))
    have LB := Lib.hid (great_le G.out b.length (by simp))
    have hna : na ≤ 40 := by rw [NA.out]; exact LA.out
    have hnb : nb ≤ 40 := by rw [NB.out]; exact LB.out
    clear G
    cases bw with
    | false =>
      go_enter Try.func7, Try.ntmps7
      go_wp2_with fail
      refine K1.mono ?_
      rintro e w1 ⟨rfl, b1⟩
      have B1 := Lib.hid (bup (bone w _) b1)
      clear b1 K1
      go_wp2_with fail
      refine (CW.out _).mono ?_
      rintro e _ ⟨rfl, rfl⟩
      go_wp2_with fail
      refine (wakes_set _).mono ?_
      rintro e wz ⟨rfl, bz⟩
      have BZ := Lib.hid (bup B1.out bz)
      clear bz
      go_wp2_with fail
      go_ret
      exact ⟨rfl, BZ.out⟩
    | true =>
      go_enter Try.func7, Try.ntmps7
      go_wp2_with fail
      refine K1.mono ?_
      rintro e w1 ⟨rfl, b1⟩
      have B1 := Lib.hid (bup (bone w _) b1)
      clear b1 K1
      go_wp2_with fail
      refine (CW.out _).mono ?_
      rintro e _ ⟨rfl, rfl⟩
      go_wp2_with fail
      refine (own_any _ a _ (RA.out.below B1.out) (Nat.le_trans LA.out (by decide : 40 ≤ 4398046511104))).mono ?_
      rintro e wx ⟨vx, rfl, ox, bx⟩
      have OX := Lib.hid ox
      have BX := Lib.hid bx
      clear ox bx
      go_wp2_with (at_builtin; refine wpList_append_sp rfl _ _ rfl w1.heap.size _ _ a b rfl OX.out rfl (RB.out.below (bup B1.out BX.out)) BX.out.size (Nat.le_trans (Nat.add_le_add LA.out LB.out) (by decide : 80 ≤ 4398046511104)) ?_)
      intro v2 w2 o2 b2
      have B2 := Lib.hid (BX.out.trans b2)
      have X2 := Lib.hid o2.rd
      obtain ⟨al, cl, rfl, hl1, hl2, hfl⟩ := X2.out.shape
      have FL := Lib.hid hfl
      unfold maxLen at hl2
      obtain ⟨nl, hnl⟩ : ∃ m, m = (a ++ b).length := ⟨_, rfl⟩
      have NL := Lib.hid hnl
      have hnl2 : nl ≤ 80 := by rw [hnl, List.length_append]; exact Nat.add_le_add LA.out LB.out
      rw [← hnl] at X2 hl1 ⊢
      clear o2 b2 OX BX hfl hnl
      go_wp2_with fail
      go_loopg [8] nl (fun gg s8 wr => ∃ k : Nat, s8 = .int .i64 k ∧ k ≤ nl ∧ nl - k ≤ gg ∧ Hid (timesL ((a ++ b).take k)) ∧ wr = w2)
      case atStart => exact ⟨0, rfl, by omega, by omega, Lib.hid (fun s hs => by simp at hs), rfl⟩
      case round =>
        obtain ⟨k, rfl, hk, hgg, hT, rfl⟩ := hrel
        by_cases hkn : k < nl
        · have hkl : k < (a ++ b).length := by rw [← NL.out]; exact hkn
          obtain ⟨bb, ob, rfl⟩ := FL.out (by intro h; rw [h] at hkl; simp at hkl)
          have c0 := X2.out.cell0 k hkl
          have c1 := X2.out.cell1 k hkl
          obtain ⟨x, hx⟩ : ∃ x, (a ++ b)[k] = x := ⟨_, rfl⟩
          rw [hx] at c0 c1
          have X := Lib.hid (show timeB x.1 = true → timeB x.2 = true → timesL ((a ++ b).take (k + 1)) from fun h0 h1 => times_step hkl hT.out (by rw [hx]; exact h0) (by rw [hx]; exact h1))
          clear hx hkl
          obtain ⟨f, u⟩ := x
          dsimp only at c0 c1 X
          have hkz : (k : Int) < (nl : Int) := by omega
          obtain ⟨bf, hbf⟩ : ∃ b, timeB f = b := ⟨_, rfl⟩
          obtain ⟨bu, hbu⟩ : ∃ b, timeB u = b := ⟨_, rfl⟩
          have TF := Lib.hid hbf
          have TU := Lib.hid hbu
          clear hbf hbu
          cases bf with
          | false =>
            go_wp2_with fail
            refine (time_is f _ TF.out _).mono ?_
            rintro e _ ⟨rfl, rfl⟩
            go_wp2_with fail
            refine (wakes_set _).mono ?_
            rintro e wz ⟨rfl, bz⟩
            have BZ := Lib.hid (bup (bup B1.out B2.out) bz)
            clear bz
            go_wp2_with fail
            go_ret
            exact ⟨rfl, BZ.out⟩
          | true =>
            cases bu with
            | false =>
              go_wp2_with fail
              refine (time_is f _ TF.out _).mono ?_
              rintro e _ ⟨rfl, rfl⟩
              go_wp2_with fail
              refine (time_is u _ TU.out _).mono ?_
              rintro e _ ⟨rfl, rfl⟩
              go_wp2_with fail
              refine (wakes_set _).mono ?_
              rintro e wz ⟨rfl, bz⟩
              have BZ := Lib.hid (bup (bup B1.out B2.out) bz)
              clear bz
              go_wp2_with fail
              go_ret
              exact ⟨rfl, BZ.out⟩
            | true =>
              go_wp2_with fail
              refine (time_is f _ TF.out _).mono ?_
              rintro e _ ⟨rfl, rfl⟩
              go_wp2_with fail
              refine (time_is u _ TU.out _).mono ?_
              rintro e _ ⟨rfl, rfl⟩
              go_wp2_with fail
              go_roundg (nl - (k + 1))
              case measure => omega
              case rel => exact ⟨k + 1, by go_num, by omega, Nat.le_refl _, Lib.hid (X.out TF.out TU.out), rfl⟩
        · obtain rfl : k = nl := by omega
          have hkz : ¬ (k : Int) < (k : Int) := by omega
          have hTL : timesL (a ++ b) := by have h := hT.out; rwa [List.take_of_length_le (by rw [← NL.out]; exact Nat.le_refl _)] at h
          have TA := Lib.hid (show timesL a from fun s hs => hTL s (List.mem_append_left _ hs))
          have TB := Lib.hid (show timesL b from fun s hs => hTL s (List.mem_append_right _ hs))
          clear hT hTL
          have W1 := Lib.hid (widthB_iff.1 BW.out).1
          obtain ⟨F, hF⟩ : ∃ F, fl (-4611686018427387904) n = F := ⟨_, rfl⟩
          obtain ⟨C, hC⟩ : ∃ C, ce 4611686018427387903 n = C := ⟨_, rfl⟩
          have EF := Lib.hid hF
          have EC := Lib.hid hC
          have AL := Lib.hid (show allL n = [(F, C)] by unfold allL; rw [hF, hC])
          clear hF hC
          go_wp2_with fail
          refine (own_any _ (a) _ (RA.out.below (bup B1.out B2.out)) (Nat.le_trans LA.out (by decide : 40 ≤ 4398046511104))).mono ?_
          rintro e w3 ⟨v3, rfl, o3, b3⟩
          have B3 := Lib.hid b3
          have X3 := Lib.hid o3.rd
          clear o3 b3
          go_wp2_with fail
          refine (own_any _ (b) _ (RB.out.below (bup (bup B1.out B2.out) B3.out)) (Nat.le_trans LB.out (by decide : 40 ≤ 4398046511104))).mono ?_
          rintro e w4 ⟨v4, rfl, o4, b4⟩
          have B4 := Lib.hid b4
          have X4 := Lib.hid o4.rd
          clear o4 b4
          go_wp2_with fail
          have NL3 := Lib.hid (show (orL (a) (b)).length ≤ 80 from Nat.le_trans (orL_length _ _) (Nat.add_le_add LA.out LB.out))
          refine (or_any _ _ (a) (b) _ (X3.out.below B4.out) X4.out (Nat.le_trans LA.out (by decide : 40 ≤ 2199023255552)) (Nat.le_trans LB.out (by decide : 40 ≤ 2199023255552))).mono ?_
          rintro e w5 ⟨v5, rfl, o5, b5⟩
          have B5 := Lib.hid b5
          have X5 := Lib.hid o5.rd
          clear o5 b5
          go_wp2_with fail
          clear X3 X4
          have NL4 := Lib.hid (show (wOutL (orL (a) (b)) n).length ≤ 80 from Nat.le_trans (wOutL_length _ _) NL3.out)
          refine (outs_ok _ (orL (a) (b)) n _ (errW_or BW.out TA.out TB.out) X5.out (Nat.le_trans NL3.out (by decide : 80 ≤ 4398046511104))).mono ?_
          rintro e w6 ⟨v6, rfl, o6, b6⟩
          have B6 := Lib.hid b6
          have X6 := Lib.hid o6.rd
          clear o6 b6
          go_wp2_with fail
          clear X5
          refine (own_any _ (a) _ (RA.out.below (bup (bup (bup (bup (bup B1.out B2.out) B3.out) B4.out) B5.out) B6.out)) (Nat.le_trans LA.out (by decide : 40 ≤ 4398046511104))).mono ?_
          rintro e w7 ⟨v7, rfl, o7, b7⟩
          have B7 := Lib.hid b7
          have X7 := Lib.hid o7.rd
          clear o7 b7
          go_wp2_with fail
          have NL5 := Lib.hid (show (wOutL (a) n).length ≤ 40 from Nat.le_trans (wOutL_length _ _) LA.out)
          refine (outs_ok _ (a) n _ (errW_times BW.out TA.out) X7.out (Nat.le_trans LA.out (by decide : 40 ≤ 4398046511104))).mono ?_
          rintro e w8 ⟨v8, rfl, o8, b8⟩
          have B8 := Lib.hid b8
          have X8 := Lib.hid o8.rd
          clear o8 b8
          go_wp2_with fail
          clear X7
          refine (own_any _ (b) _ (RB.out.below (bup (bup (bup (bup (bup (bup (bup B1.out B2.out) B3.out) B4.out) B5.out) B6.out) B7.out) B8.out)) (Nat.le_trans LB.out (by decide : 40 ≤ 4398046511104))).mono ?_
          rintro e w9 ⟨v9, rfl, o9, b9⟩
          have B9 := Lib.hid b9
          have X9 := Lib.hid o9.rd
          clear o9 b9
          go_wp2_with fail
          have NL6 := Lib.hid (show (wOutL (b) n).length ≤ 40 from Nat.le_trans (wOutL_length _ _) LB.out)
          refine (outs_ok _ (b) n _ (errW_times BW.out TB.out) X9.out (Nat.le_trans LB.out (by decide : 40 ≤ 4398046511104))).mono ?_
          rintro e w10 ⟨v10, rfl, o10, b10⟩
          have B10 := Lib.hid b10
          have X10 := Lib.hid o10.rd
          clear o10 b10
          go_wp2_with fail
          clear X9
          refine (own_any _ (a) _ (RA.out.below (bup (bup (bup (bup (bup (bup (bup (bup (bup B1.out B2.out) B3.out) B4.out) B5.out) B6.out) B7.out) B8.out) B9.out) B10.out)) (Nat.le_trans LA.out (by decide : 40 ≤ 4398046511104))).mono ?_
          rintro e w11 ⟨v11, rfl, o11, b11⟩
          have B11 := Lib.hid b11
          have X11 := Lib.hid o11.rd
          clear o11 b11
          go_wp2_with fail
          refine (own_any _ (b) _ (RB.out.below (bup (bup (bup (bup (bup (bup (bup (bup (bup (bup B1.out B2.out) B3.out) B4.out) B5.out) B6.out) B7.out) B8.out) B9.out) B10.out) B11.out)) (Nat.le_trans LB.out (by decide : 40 ≤ 4398046511104))).mono ?_
          rintro e w12 ⟨v12, rfl, o12, b12⟩
          have B12 := Lib.hid b12
          have X12 := Lib.hid o12.rd
          clear o12 b12
          go_wp2_with fail
          have NL7 := Lib.hid (show (andL (a) (b)).length ≤ 1600 from Nat.le_trans (andL_length _ _) (Nat.mul_le_mul LA.out LB.out))
          refine (and_set _ _ (a) (b) _ (X11.out.below B12.out) X12.out (Nat.le_trans LA.out (by decide : 40 ≤ 4398046511104)) (Nat.le_trans LB.out (by decide : 40 ≤ 4398046511104)) (Nat.le_trans (Nat.mul_le_mul LA.out LB.out) (by decide : 40 * 40 ≤ 4398046511104))).mono ?_
          rintro e w13 ⟨v13, rfl, o13, b13⟩
          have B13 := Lib.hid b13
          have X13 := Lib.hid o13.rd
          clear o13 b13
          go_wp2_with fail
          clear X11 X12
          have NL8 := Lib.hid (show (wInL (andL (a) (b)) n).length ≤ 1600 from Nat.le_trans (wInL_length _ _) NL7.out)
          refine (ins_ok _ (andL (a) (b)) n _ (errW_and BW.out TA.out) X13.out (Nat.le_trans NL7.out (by decide : 1600 ≤ 4398046511104))).mono ?_
          rintro e w14 ⟨v14, rfl, o14, b14⟩
          have B14 := Lib.hid b14
          have X14 := Lib.hid o14.rd
          clear o14 b14
          go_wp2_with fail
          clear X13
          refine (own_any _ (a) _ (RA.out.below (bup (bup (bup (bup (bup (bup (bup (bup (bup (bup (bup (bup (bup B1.out B2.out) B3.out) B4.out) B5.out) B6.out) B7.out) B8.out) B9.out) B10.out) B11.out) B12.out) B13.out) B14.out)) (Nat.le_trans LA.out (by decide : 40 ≤ 4398046511104))).mono ?_
          rintro e w15 ⟨v15, rfl, o15, b15⟩
          have B15 := Lib.hid b15
          have X15 := Lib.hid o15.rd
          clear o15 b15
          go_wp2_with fail
          have NL9 := Lib.hid (show (wInL (a) n).length ≤ 40 from Nat.le_trans (wInL_length _ _) LA.out)
          refine (ins_ok _ (a) n _ (errW_times BW.out TA.out) X15.out (Nat.le_trans LA.out (by decide : 40 ≤ 4398046511104))).mono ?_
          rintro e w16 ⟨v16, rfl, o16, b16⟩
          have B16 := Lib.hid b16
          have X16 := Lib.hid o16.rd
          clear o16 b16
          go_wp2_with fail
          clear X15
          refine (own_any _ (b) _ (RB.out.below (bup (bup (bup (bup (bup (bup (bup (bup (bup (bup (bup (bup (bup (bup (bup B1.out B2.out) B3.out) B4.out) B5.out) B6.out) B7.out) B8.out) B9.out) B10.out) B11.out) B12.out) B13.out) B14.out) B15.out) B16.out)) (Nat.le_trans LB.out (by decide : 40 ≤ 4398046511104))).mono ?_
          rintro e w17 ⟨v17, rfl, o17, b17⟩
          have B17 := Lib.hid b17
          have X17 := Lib.hid o17.rd
          clear o17 b17
          go_wp2_with fail
          have NL10 := Lib.hid (show (wInL (b) n).length ≤ 40 from Nat.le_trans (wInL_length _ _) LB.out)
          refine (ins_ok _ (b) n _ (errW_times BW.out TB.out) X17.out (Nat.le_trans LB.out (by decide : 40 ≤ 4398046511104))).mono ?_
          rintro e w18 ⟨v18, rfl, o18, b18⟩
          have B18 := Lib.hid b18
          have X18 := Lib.hid o18.rd
          clear o18 b18
          go_wp2_with fail
          clear X17
          refine (floor_is _ n F (time_w (by decide) BW.out) EF.out _).mono ?_
          rintro e w19 ⟨rfl, b19⟩
          have B19 := Lib.hid b19
          clear b19
          go_wp2_with fail
          refine (ceil_is _ n C (time_w (by decide) BW.out) EC.out _).mono ?_
          rintro e w20 ⟨rfl, b20⟩
          have B20 := Lib.hid b20
          clear b20
          go_wp2_with fail
          obtain ⟨w21, hw21⟩ : ∃ x, x = w20.alloc (.cells #[.int .i64 F, .int .i64 C] 23) := ⟨_, rfl⟩
          have B21 := Lib.hid (show Below w20.heap.size w20 w21 by rw [hw21]; exact bone _ _)
          have XB := Lib.hid (show Rd w21 (.slice (some ⟨w20.heap.size, 0, none⟩) 1 1) [(F, C)] by rw [hw21]; exact Rd.lit _ _ _)
          rw [← hw21]
          clear hw21
          have LBK := Lib.hid (show ([(F, C)] : List Sp).length ≤ 1 from Nat.le_refl _)
          refine (own_any _ (a) _ (RA.out.below (bup (bup (bup (bup (bup (bup (bup (bup (bup (bup (bup (bup (bup (bup (bup (bup (bup (bup (bup (bup B1.out B2.out) B3.out) B4.out) B5.out) B6.out) B7.out) B8.out) B9.out) B10.out) B11.out) B12.out) B13.out) B14.out) B15.out) B16.out) B17.out) B18.out) B19.out) B20.out) B21.out)) (Nat.le_trans LA.out (by decide : 40 ≤ 4398046511104))).mono ?_
          rintro e w22 ⟨v22, rfl, o22, b22⟩
          have B22 := Lib.hid b22
          have X22 := Lib.hid o22.rd
          clear o22 b22
          go_wp2_with fail
          have NL12 := Lib.hid (show (minusL ([(F, C)]) (a)).length ≤ 41 from Nat.le_trans (minusL_length _ _) (Nat.add_le_add LBK.out LA.out))
          refine (minus_any _ _ ([(F, C)]) (a) _ (XB.out.below B22.out) X22.out (Nat.le_trans LBK.out (by decide : 1 ≤ 1099511627776)) (Nat.le_trans LA.out (by decide : 40 ≤ 1099511627776))).mono ?_
          rintro e w23 ⟨v23, rfl, o23, b23⟩
          have B23 := Lib.hid b23
          have X23 := Lib.hid o23
          clear o23 b23
          go_wp2_with fail
          clear X22
          have NL13 := Lib.hid (show (wInL (minusL ([(F, C)]) (a)) n).length ≤ 41 from Nat.le_trans (wInL_length _ _) NL12.out)
          refine (ins_ok _ (minusL ([(F, C)]) (a)) n _ (by rw [← AL.out]; exact errW_left BW.out) X23.out (Nat.le_trans NL12.out (by decide : 41 ≤ 4398046511104))).mono ?_
          rintro e w24 ⟨v24, rfl, o24, b24⟩
          have B24 := Lib.hid b24
          have X24 := Lib.hid o24.rd
          clear o24 b24
          go_wp2_with fail
          clear X23
          have NL14 := Lib.hid (show (orL (wOutL (a) n) (wOutL (b) n)).length ≤ 80 from Nat.le_trans (orL_length _ _) (Nat.add_le_add NL5.out NL6.out))
          refine (or_any _ _ (wOutL (a) n) (wOutL (b) n) _ (X8.out.below (bup (bup (bup (bup (bup (bup (bup (bup (bup (bup (bup (bup (bup (bup (bup B9.out B10.out) B11.out) B12.out) B13.out) B14.out) B15.out) B16.out) B17.out) B18.out) B19.out) B20.out) B21.out) B22.out) B23.out) B24.out)) (X10.out.below (bup (bup (bup (bup (bup (bup (bup (bup (bup (bup (bup (bup (bup B11.out B12.out) B13.out) B14.out) B15.out) B16.out) B17.out) B18.out) B19.out) B20.out) B21.out) B22.out) B23.out) B24.out)) (Nat.le_trans NL5.out (by decide : 40 ≤ 2199023255552)) (Nat.le_trans NL6.out (by decide : 40 ≤ 2199023255552))).mono ?_
          rintro e w25 ⟨v25, rfl, o25, b25⟩
          have B25 := Lib.hid b25
          have X25 := Lib.hid o25.rd
          clear o25 b25
          go_wp2_with fail
          refine (equal_any _ _ (wOutL (orL (a) (b)) n) (orL (wOutL (a) n) (wOutL (b) n)) true (decide_eq_true (align_out W1.out a b)) _ (X6.out.below (bup (bup (bup (bup (bup (bup (bup (bup (bup (bup (bup (bup (bup (bup (bup (bup (bup (bup B7.out B8.out) B9.out) B10.out) B11.out) B12.out) B13.out) B14.out) B15.out) B16.out) B17.out) B18.out) B19.out) B20.out) B21.out) B22.out) B23.out) B24.out) B25.out)) X25.out).mono ?_
          rintro e w26 ⟨rfl, b26⟩
          have B26 := Lib.hid b26
          clear b26
          go_wp2_with fail
          have NL15 := Lib.hid (show (andL (wInL (a) n) (wInL (b) n)).length ≤ 1600 from Nat.le_trans (andL_length _ _) (Nat.mul_le_mul NL9.out NL10.out))
          refine (and_set _ _ (wInL (a) n) (wInL (b) n) _ (X16.out.below (bup (bup (bup (bup (bup (bup (bup (bup (bup B17.out B18.out) B19.out) B20.out) B21.out) B22.out) B23.out) B24.out) B25.out) B26.out)) (X18.out.below (bup (bup (bup (bup (bup (bup (bup B19.out B20.out) B21.out) B22.out) B23.out) B24.out) B25.out) B26.out)) (Nat.le_trans NL9.out (by decide : 40 ≤ 4398046511104)) (Nat.le_trans NL10.out (by decide : 40 ≤ 4398046511104)) (Nat.le_trans (Nat.mul_le_mul NL9.out NL10.out) (by decide : 40 * 40 ≤ 4398046511104))).mono ?_
          rintro e w27 ⟨v27, rfl, o27, b27⟩
          have B27 := Lib.hid b27
          have X27 := Lib.hid o27.rd
          clear o27 b27
          go_wp2_with fail
          refine (equal_any _ _ (wInL (andL (a) (b)) n) (andL (wInL (a) n) (wInL (b) n)) true (decide_eq_true (align_in W1.out a b)) _ (X14.out.below (bup (bup (bup (bup (bup (bup (bup (bup (bup (bup (bup (bup B15.out B16.out) B17.out) B18.out) B19.out) B20.out) B21.out) B22.out) B23.out) B24.out) B25.out) B26.out) B27.out)) X27.out).mono ?_
          rintro e w28 ⟨rfl, b28⟩
          have B28 := Lib.hid b28
          clear b28
          go_wp2_with fail
          have NL16 := Lib.hid (show (minusL ([(F, C)]) (wOutL (a) n)).length ≤ 41 from Nat.le_trans (minusL_length _ _) (Nat.add_le_add LBK.out NL5.out))
          refine (minus_any _ _ ([(F, C)]) (wOutL (a) n) _ (XB.out.below (bup (bup (bup (bup (bup (bup B22.out B23.out) B24.out) B25.out) B26.out) B27.out) B28.out)) (X8.out.below (bup (bup (bup (bup (bup (bup (bup (bup (bup (bup (bup (bup (bup (bup (bup (bup (bup (bup (bup B9.out B10.out) B11.out) B12.out) B13.out) B14.out) B15.out) B16.out) B17.out) B18.out) B19.out) B20.out) B21.out) B22.out) B23.out) B24.out) B25.out) B26.out) B27.out) B28.out)) (Nat.le_trans LBK.out (by decide : 1 ≤ 1099511627776)) (Nat.le_trans NL5.out (by decide : 40 ≤ 1099511627776))).mono ?_
          rintro e w29 ⟨v29, rfl, o29, b29⟩
          have B29 := Lib.hid b29
          have X29 := Lib.hid o29
          clear o29 b29
          go_wp2_with fail
          refine (equal_any _ _ (wInL (minusL ([(F, C)]) (a)) n) (minusL ([(F, C)]) (wOutL (a) n)) true (decide_eq_true (by rw [← AL.out]; exact align_left W1.out a)) _ (X24.out.below (bup (bup (bup (bup B25.out B26.out) B27.out) B28.out) B29.out)) X29.out).mono ?_
          rintro e w30 ⟨rfl, b30⟩
          have B30 := Lib.hid b30
          clear b30
          go_wp2_with fail
          refine (wakes_set _).mono ?_
          rintro e w31 ⟨rfl, b31⟩
          have B31 := Lib.hid b31
          clear b31
          go_wp2_with fail
          go_ret
          exact ⟨rfl, (bup (bup (bup (bup (bup (bup (bup (bup (bup (bup (bup (bup (bup (bup (bup (bup (bup (bup (bup (bup (bup (bup (bup (bup (bup (bup (bup (bup (bup (bup B1.out B2.out) B3.out) B4.out) B5.out) B6.out) B7.out) B8.out) B9.out) B10.out) B11.out) B12.out) B13.out) B14.out) B15.out) B16.out) B17.out) B18.out) B19.out) B20.out) B21.out) B22.out) B23.out) B24.out) B25.out) B26.out) B27.out) B28.out) B29.out) B30.out) B31.out)⟩
end Go.Proofs.Ytjnhkfjhkhbneaa
