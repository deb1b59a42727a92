/- The law SpansWhole: its function returns true. -/
import Derived.Test.YtjnhkfjhkhbneaaTimes
namespace Go.Proofs.Ytjnhkfjhkhbneaa
open Go.RowKit SpanP

set_option maxRecDepth 100000 in
set_option maxHeartbeats 4000000 in
theorem spansWhole_walk (va : Value) (a : List Sp) (n t : Int) (w : World) (hra : Rd w va a) :
    Calls Try.prog 10 #[va, .int .i64 n, .int .i64 t] w fun e w' => e = .returned (.bool true) ∧ Below w.heap.size w w' := by
  obtain ⟨g, hg⟩ : ∃ g, greatB [a.length] = g := ⟨_, rfl⟩
  have G := Lib.hid hg
  have RA := Lib.hid hra
  obtain ⟨aa, ca, rfl, ha1, ha2, hfa⟩ := hra.shape
  have FA := Lib.hid hfa
  clear hfa
  have K1 := great1 _ a g hg w hra
  unfold maxLen at ha2
  obtain ⟨na, hna⟩ : ∃ m, m = a.length := ⟨_, rfl⟩
  have NA := Lib.hid hna
  rw [← hna] at RA ha1 K1 ⊢
  clear hna hra
  clear hg
  obtain ⟨bw, hbw⟩ : ∃ b, widthB n = b := ⟨_, rfl⟩
  have BW := Lib.hid hbw
  have CW := Lib.hid (width_is n bw hbw)
  clear hbw
  obtain ⟨bt, hbt⟩ : ∃ b, timeB t = b := ⟨_, rfl⟩
  have BT := Lib.hid hbt
  have CT := Lib.hid (time_is t bt hbt)
  clear hbt
  cases g with
  | true =>
    go_enter Try.func10, Try.ntmps10
    go_wp2_with fail
    refine K1.mono ?_
    rintro e w1 ⟨rfl, b1⟩
    have B1 := Lib.hid (bup (bone w _) b1)
    clear b1 K1
    go_wp2_with fail
    refine (wakes_set _).mono ?_
    rintro e wz ⟨rfl, bz⟩
    have BZ := Lib.hid (bup B1.out bz)
    clear bz
    go_wp2_with fail
    go_ret
    exact ⟨rfl, BZ.out⟩
  | false =>
    have LA := Lib.hid (great_le G.out a.length (by simp))
    have hna : na ≤ 40 := by rw [NA.out]; exact LA.out
    clear G
    cases bw with
    | false =>
      go_enter Try.func10, Try.ntmps10
      go_wp2_with fail
      refine K1.mono ?_
      rintro e w1 ⟨rfl, b1⟩
      have B1 := Lib.hid (bup (bone w _) b1)
      clear b1 K1
      go_wp2_with fail
      refine (CW.out _).mono ?_
      rintro e _ ⟨rfl, rfl⟩
      go_wp2_with fail
      refine (wakes_set _).mono ?_
      rintro e wz ⟨rfl, bz⟩
      have BZ := Lib.hid (bup B1.out bz)
      clear bz
      go_wp2_with fail
      go_ret
      exact ⟨rfl, BZ.out⟩
    | true =>
      cases bt with
      | false =>
        go_enter Try.func10, Try.ntmps10
        go_wp2_with fail
        refine K1.mono ?_
        rintro e w1 ⟨rfl, b1⟩
        have B1 := Lib.hid (bup (bone w _) b1)
        clear b1 K1
        go_wp2_with fail
        refine (CW.out _).mono ?_
        rintro e _ ⟨rfl, rfl⟩
        go_wp2_with fail
        refine (CT.out _).mono ?_
        rintro e _ ⟨rfl, rfl⟩
        go_wp2_with fail
        refine (wakes_set _).mono ?_
        rintro e wz ⟨rfl, bz⟩
        have BZ := Lib.hid (bup B1.out bz)
        clear bz
        go_wp2_with fail
        go_ret
        exact ⟨rfl, BZ.out⟩
      | true =>
        go_enter Try.func10, Try.ntmps10
        go_wp2_with fail
        refine K1.mono ?_
        rintro e w1 ⟨rfl, b1⟩
        have B1 := Lib.hid (bup (bone w _) b1)
        clear b1 K1
        go_wp2_with fail
        refine (CW.out _).mono ?_
        rintro e _ ⟨rfl, rfl⟩
        go_wp2_with fail
        refine (CT.out _).mono ?_
        rintro e _ ⟨rfl, rfl⟩
        go_wp2_with fail
        go_loopg [7] na (fun gg s7 wr => ∃ k : Nat, s7 = .int .i64 k ∧ k ≤ na ∧ na - k ≤ gg ∧ Hid (timesL (a.take k)) ∧ wr = w1)
        case atStart => exact ⟨0, rfl, by omega, by omega, Lib.hid (fun s hs => by simp at hs), rfl⟩
        case round =>
          obtain ⟨k, rfl, hk, hgg, hT, rfl⟩ := hrel
          by_cases hkn : k < na
          · have hkl : k < a.length := by rw [← NA.out]; exact hkn
            obtain ⟨bb, ob, rfl⟩ := FA.out (by intro h; rw [h] at hkl; simp at hkl)
            have rr := RA.out.below B1.out
            have c0 := rr.cell0 k hkl
            have c1 := rr.cell1 k hkl
            obtain ⟨x, hx⟩ : ∃ x, a[k] = x := ⟨_, rfl⟩
            rw [hx] at c0 c1
            have X := Lib.hid (show timeB x.1 = true → timeB x.2 = true → timesL (a.take (k + 1)) from fun h0 h1 => times_step hkl hT.out (by rw [hx]; exact h0) (by rw [hx]; exact h1))
            clear hx hkl rr
            obtain ⟨f, u⟩ := x
            dsimp only at c0 c1 X
            have hkz : (k : Int) < (na : Int) := by omega
            obtain ⟨bf, hbf⟩ : ∃ b, timeB f = b := ⟨_, rfl⟩
            obtain ⟨bu, hbu⟩ : ∃ b, timeB u = b := ⟨_, rfl⟩
            have TF := Lib.hid hbf
            have TU := Lib.hid hbu
            clear hbf hbu
            cases bf with
            | false =>
              go_wp2_with fail
              refine (time_is f _ TF.out _).mono ?_
              rintro e _ ⟨rfl, rfl⟩
              go_wp2_with fail
              refine (wakes_set _).mono ?_
              rintro e wz ⟨rfl, bz⟩
              have BZ := Lib.hid (bup B1.out bz)
              clear bz
              go_wp2_with fail
              go_ret
              exact ⟨rfl, BZ.out⟩
            | true =>
              cases bu with
              | false =>
                go_wp2_with fail
                refine (time_is f _ TF.out _).mono ?_
                rintro e _ ⟨rfl, rfl⟩
                go_wp2_with fail
                refine (time_is u _ TU.out _).mono ?_
                rintro e _ ⟨rfl, rfl⟩
                go_wp2_with fail
                refine (wakes_set _).mono ?_
                rintro e wz ⟨rfl, bz⟩
                have BZ := Lib.hid (bup B1.out bz)
                clear bz
                go_wp2_with fail
                go_ret
                exact ⟨rfl, BZ.out⟩
              | true =>
                go_wp2_with fail
                refine (time_is f _ TF.out _).mono ?_
                rintro e _ ⟨rfl, rfl⟩
                go_wp2_with fail
                refine (time_is u _ TU.out _).mono ?_
                rintro e _ ⟨rfl, rfl⟩
                go_wp2_with fail
                go_roundg (na - (k + 1))
                case measure => omega
                case rel => exact ⟨k + 1, by go_num, by omega, Nat.le_refl _, Lib.hid (X.out TF.out TU.out), rfl⟩
          · obtain rfl : k = na := by omega
            have hkz : ¬ (k : Int) < (k : Int) := by omega
            have TL := Lib.hid (show timesL a by have h := hT.out; rwa [List.take_of_length_le (by rw [← NA.out]; exact Nat.le_refl _)] at h)
            clear hT
            have W1 := Lib.hid (widthB_iff.1 BW.out).1
            obtain ⟨F, hF⟩ : ∃ F, fl t n = F := ⟨_, rfl⟩
            obtain ⟨T, hT⟩ : ∃ T, fl t n + n = T := ⟨_, rfl⟩
            have EF := Lib.hid hF
            have ET := Lib.hid hT
            obtain ⟨r1, hr1⟩ : ∃ r, hasL (wOutL a n) t = r := ⟨_, rfl⟩
            obtain ⟨r2, hr2⟩ : ∃ r, hasL (wInL a n) t = r := ⟨_, rfl⟩
            have R1 := Lib.hid hr1
            have R2 := Lib.hid hr2
            have Q1 := Lib.hid (show decide (0 < (andL a [(F, T)]).length) = r1 by rw [← hT, ← hF, out_bucket W1.out, hr1])
            have Q2 := Lib.hid (show decide ((minusL [(F, T)] a).length = 0) = r2 by rw [← hT, ← hF, in_bucket W1.out, hr2])
            clear hF hT hr1 hr2
            go_wp2_with fail
            refine (own_any _ (a) _ (RA.out.below B1.out) (Nat.le_trans LA.out (by decide : 40 ≤ 4398046511104))).mono ?_
            rintro e w2 ⟨v2, rfl, o2, b2⟩
            have B2 := Lib.hid b2
            have X2 := Lib.hid o2.rd
            clear o2 b2
            go_wp2_with fail
            have NL2 := Lib.hid (show (wOutL (a) n).length ≤ 40 from Nat.le_trans (wOutL_length _ _) LA.out)
            refine (outs_ok _ (a) n _ (errW_times BW.out TL.out) X2.out (Nat.le_trans LA.out (by decide : 40 ≤ 4398046511104))).mono ?_
            rintro e w3 ⟨v3, rfl, o3, b3⟩
            have B3 := Lib.hid b3
            have X3 := Lib.hid o3.rd
            clear o3 b3
            go_wp2_with fail
            clear X2
            refine (own_any _ (a) _ (RA.out.below (bup (bup B1.out B2.out) B3.out)) (Nat.le_trans LA.out (by decide : 40 ≤ 4398046511104))).mono ?_
            rintro e w4 ⟨v4, rfl, o4, b4⟩
            have B4 := Lib.hid b4
            have X4 := Lib.hid o4.rd
            clear o4 b4
            go_wp2_with fail
            have NL3 := Lib.hid (show (wInL (a) n).length ≤ 40 from Nat.le_trans (wInL_length _ _) LA.out)
            refine (ins_ok _ (a) n _ (errW_times BW.out TL.out) X4.out (Nat.le_trans LA.out (by decide : 40 ≤ 4398046511104))).mono ?_
            rintro e w5 ⟨v5, rfl, o5, b5⟩
            have B5 := Lib.hid b5
            have X5 := Lib.hid o5.rd
            clear o5 b5
            go_wp2_with fail
            clear X4
            refine (bucket_is t n F T (time_w BT.out BW.out) EF.out ET.out _).mono ?_
            rintro e w6 ⟨rfl, b6⟩
            have B6 := Lib.hid b6
            clear b6
            go_wp2_with fail
            obtain ⟨w7, hw7⟩ : ∃ x, x = w6.alloc (.cells #[.int .i64 F, .int .i64 T] 23) := ⟨_, rfl⟩
            have HS7 := Lib.hid (show w7.heap[w6.heap.size]? = some (.cells #[.int .i64 F, .int .i64 T] 23) by rw [hw7]; exact heap_alloc_new _ _)
            have B7 := Lib.hid (show Below w6.heap.size w6 w7 by rw [hw7]; exact bone _ _)
            rw [← hw7]
            clear hw7
            refine (form_any _ (wOutL (a) n) (wOutL_form _ _) _ (X3.out.below (bup (bup (bup B4.out B5.out) B6.out) B7.out))).mono ?_
            rintro e w8 ⟨rfl, b8⟩
            have B8 := Lib.hid b8
            clear b8
            go_wp2_with fail
            refine (form_any _ (wInL (a) n) (wInL_form _ _) _ (X5.out.below (bup (bup B6.out B7.out) B8.out))).mono ?_
            rintro e w9 ⟨rfl, b9⟩
            have B9 := Lib.hid b9
            clear b9
            have hs := heap_keep (bup B8.out B9.out) HS7.out
            have c0 : w9.cell? ⟨w6.heap.size, 0, none⟩ = some (.int .i64 F) := by rw [cell_of_row _ _ _ _ _ _ hs]; rfl
            have c1 : w9.cell? ⟨w6.heap.size, 1, none⟩ = some (.int .i64 T) := by rw [cell_of_row _ _ _ _ _ _ hs]; rfl
            clear hs
            go_wp2_with fail
            clear c0 c1
            obtain ⟨w10, hw10⟩ : ∃ x, x = w9.alloc (.cells #[.int .i64 F, .int .i64 T] 23) := ⟨_, rfl⟩
            have HS10 := Lib.hid (show w10.heap[w9.heap.size]? = some (.cells #[.int .i64 F, .int .i64 T] 23) by rw [hw10]; exact heap_alloc_new _ _)
            have B10 := Lib.hid (show Below w9.heap.size w9 w10 by rw [hw10]; exact bone _ _)
            have XB := Lib.hid (show Rd w10 (.slice (some ⟨w9.heap.size, 0, none⟩) 1 1) [(F, T)] by rw [hw10]; exact Rd.lit _ _ _)
            rw [← hw10]
            clear hw10
            have LBK := Lib.hid (show ([(F, T)] : List Sp).length ≤ 1 from Nat.le_refl _)
            refine (hasl_any _ (wOutL (a) n) t r1 R1.out _ (X3.out.below (bup (bup (bup (bup (bup (bup B4.out B5.out) B6.out) B7.out) B8.out) B9.out) B10.out)) (Nat.le_trans NL2.out (by decide : 40 ≤ 4398046511104))).mono ?_
            rintro e w11 ⟨rfl, b11⟩
            have B11 := Lib.hid b11
            clear b11
            go_wp2_with fail
            refine (own_any _ (a) _ (RA.out.below (bup (bup (bup (bup (bup (bup (bup (bup (bup (bup B1.out B2.out) B3.out) B4.out) B5.out) B6.out) B7.out) B8.out) B9.out) B10.out) B11.out)) (Nat.le_trans LA.out (by decide : 40 ≤ 4398046511104))).mono ?_
            rintro e w12 ⟨v12, rfl, o12, b12⟩
            have B12 := Lib.hid b12
            have X12 := Lib.hid o12.rd
            clear o12 b12
            go_wp2_with fail
            have NL5 := Lib.hid (show (andL (a) ([(F, T)])).length ≤ 40 from Nat.le_trans (andL_length _ _) (Nat.mul_le_mul LA.out LBK.out))
            refine (and_set _ _ (a) ([(F, T)]) _ X12.out (XB.out.below (bup B11.out B12.out)) (Nat.le_trans LA.out (by decide : 40 ≤ 4398046511104)) (Nat.le_trans LBK.out (by decide : 1 ≤ 4398046511104)) (Nat.le_trans (Nat.mul_le_mul LA.out LBK.out) (by decide : 40 * 1 ≤ 4398046511104))).mono ?_
            rintro e w13 ⟨v13, rfl, o13, b13⟩
            have B13 := Lib.hid b13
            have X13 := Lib.hid o13.rd
            clear o13 b13
            clear X12
            obtain ⟨za13, zc13, rfl, zi13, zj13, _⟩ := X13.out.shape
            unfold maxLen at zj13
            obtain ⟨m13, hm13⟩ : ∃ m, m = (andL (a) ([(F, T)])).length := ⟨_, rfl⟩
            rw [← hm13] at X13 zi13 Q1 ⊢
            have hq13 : decide (0 < m13) = r1 := Q1.out
            clear hm13
            go_wp2_with fail
            clear hq13
            refine (hasl_any _ (wInL (a) n) t r2 R2.out _ (X5.out.below (bup (bup (bup (bup (bup (bup (bup B6.out B7.out) B8.out) B9.out) B10.out) B11.out) B12.out) B13.out)) (Nat.le_trans NL3.out (by decide : 40 ≤ 4398046511104))).mono ?_
            rintro e w14 ⟨rfl, b14⟩
            have B14 := Lib.hid b14
            clear b14
            go_wp2_with fail
            refine (own_any _ (a) _ (RA.out.below (bup (bup (bup (bup (bup (bup (bup (bup (bup (bup (bup (bup (bup B1.out B2.out) B3.out) B4.out) B5.out) B6.out) B7.out) B8.out) B9.out) B10.out) B11.out) B12.out) B13.out) B14.out)) (Nat.le_trans LA.out (by decide : 40 ≤ 4398046511104))).mono ?_
            rintro e w15 ⟨v15, rfl, o15, b15⟩
            have B15 := Lib.hid b15
            have X15 := Lib.hid o15.rd
            clear o15 b15
            go_wp2_with fail
            have NL6 := Lib.hid (show (minusL ([(F, T)]) (a)).length ≤ 41 from Nat.le_trans (minusL_length _ _) (Nat.add_le_add LBK.out LA.out))
            refine (minus_any _ _ ([(F, T)]) (a) _ (XB.out.below (bup (bup (bup (bup B11.out B12.out) B13.out) B14.out) B15.out)) X15.out (Nat.le_trans LBK.out (by decide : 1 ≤ 1099511627776)) (Nat.le_trans LA.out (by decide : 40 ≤ 1099511627776))).mono ?_
            rintro e w16 ⟨v16, rfl, o16, b16⟩
            have B16 := Lib.hid b16
            have X16 := Lib.hid o16
            clear o16 b16
            clear X15
            obtain ⟨za16, zc16, rfl, zi16, zj16, _⟩ := X16.out.shape
            unfold maxLen at zj16
            obtain ⟨m16, hm16⟩ : ∃ m, m = (minusL ([(F, T)]) (a)).length := ⟨_, rfl⟩
            rw [← hm16] at X16 zi16 Q2 ⊢
            have hq16 : ((m16 : Int) == 0) = r2 := by rw [← Q2.out, Bool.eq_iff_iff]; simp
            clear hm16
            go_wp2_with fail
            clear hq16
            refine (own_any _ (a) _ (RA.out.below (bup (bup (bup (bup (bup (bup (bup (bup (bup (bup (bup (bup (bup (bup (bup B1.out B2.out) B3.out) B4.out) B5.out) B6.out) B7.out) B8.out) B9.out) B10.out) B11.out) B12.out) B13.out) B14.out) B15.out) B16.out)) (Nat.le_trans LA.out (by decide : 40 ≤ 4398046511104))).mono ?_
            rintro e w17 ⟨v17, rfl, o17, b17⟩
            have B17 := Lib.hid b17
            have X17 := Lib.hid o17.rd
            clear o17 b17
            go_wp2_with fail
            have NL7 := Lib.hid (show (minusL (wInL (a) n) (a)).length ≤ 80 from Nat.le_trans (minusL_length _ _) (Nat.add_le_add NL3.out LA.out))
            refine (minus_any _ _ (wInL (a) n) (a) _ (X5.out.below (bup (bup (bup (bup (bup (bup (bup (bup (bup (bup (bup B6.out B7.out) B8.out) B9.out) B10.out) B11.out) B12.out) B13.out) B14.out) B15.out) B16.out) B17.out)) X17.out (Nat.le_trans NL3.out (by decide : 40 ≤ 1099511627776)) (Nat.le_trans LA.out (by decide : 40 ≤ 1099511627776))).mono ?_
            rintro e w18 ⟨v18, rfl, o18, b18⟩
            rw [in_sub W1.out] at o18
            have B18 := Lib.hid b18
            have X18 := Lib.hid o18
            clear o18 b18
            clear X17
            obtain ⟨za18, zc18, hz18, zi18, zj18, _⟩ := X18.out.shape
            simp only [List.length_nil] at hz18
            subst hz18
            clear zi18 zj18
            go_wp2_with fail
            clear X18
            refine (own_any _ (a) _ (RA.out.below (bup (bup (bup (bup (bup (bup (bup (bup (bup (bup (bup (bup (bup (bup (bup (bup (bup B1.out B2.out) B3.out) B4.out) B5.out) B6.out) B7.out) B8.out) B9.out) B10.out) B11.out) B12.out) B13.out) B14.out) B15.out) B16.out) B17.out) B18.out)) (Nat.le_trans LA.out (by decide : 40 ≤ 4398046511104))).mono ?_
            rintro e w19 ⟨v19, rfl, o19, b19⟩
            have B19 := Lib.hid b19
            have X19 := Lib.hid o19.rd
            clear o19 b19
            go_wp2_with fail
            have NL8 := Lib.hid (show (minusL (a) (wOutL (a) n)).length ≤ 80 from Nat.le_trans (minusL_length _ _) (Nat.add_le_add LA.out NL2.out))
            refine (minus_any _ _ (a) (wOutL (a) n) _ X19.out (X3.out.below (bup (bup (bup (bup (bup (bup (bup (bup (bup (bup (bup (bup (bup (bup (bup B4.out B5.out) B6.out) B7.out) B8.out) B9.out) B10.out) B11.out) B12.out) B13.out) B14.out) B15.out) B16.out) B17.out) B18.out) B19.out)) (Nat.le_trans LA.out (by decide : 40 ≤ 1099511627776)) (Nat.le_trans NL2.out (by decide : 40 ≤ 1099511627776))).mono ?_
            rintro e w20 ⟨v20, rfl, o20, b20⟩
            rw [out_sup W1.out] at o20
            have B20 := Lib.hid b20
            have X20 := Lib.hid o20
            clear o20 b20
            clear X19
            obtain ⟨za20, zc20, hz20, zi20, zj20, _⟩ := X20.out.shape
            simp only [List.length_nil] at hz20
            subst hz20
            clear zi20 zj20
            go_wp2_with fail
            clear X20
            have NL9 := Lib.hid (show (wOutL (wOutL (a) n) n).length ≤ 40 from Nat.le_trans (wOutL_length _ _) NL2.out)
            refine (outs_ok _ (wOutL (a) n) n _ (errW_out BW.out TL.out) (X3.out.below (bup (bup (bup (bup (bup (bup (bup (bup (bup (bup (bup (bup (bup (bup (bup (bup B4.out B5.out) B6.out) B7.out) B8.out) B9.out) B10.out) B11.out) B12.out) B13.out) B14.out) B15.out) B16.out) B17.out) B18.out) B19.out) B20.out)) (Nat.le_trans NL2.out (by decide : 40 ≤ 4398046511104))).mono ?_
            rintro e w21 ⟨v21, rfl, o21, b21⟩
            have B21 := Lib.hid b21
            have X21 := Lib.hid o21.rd
            clear o21 b21
            go_wp2_with fail
            have NL10 := Lib.hid (show (wInL (wOutL (a) n) n).length ≤ 40 from Nat.le_trans (wInL_length _ _) NL2.out)
            refine (ins_ok _ (wOutL (a) n) n _ (errW_out BW.out TL.out) (X3.out.below (bup (bup (bup (bup (bup (bup (bup (bup (bup (bup (bup (bup (bup (bup (bup (bup (bup B4.out B5.out) B6.out) B7.out) B8.out) B9.out) B10.out) B11.out) B12.out) B13.out) B14.out) B15.out) B16.out) B17.out) B18.out) B19.out) B20.out) B21.out)) (Nat.le_trans NL2.out (by decide : 40 ≤ 4398046511104))).mono ?_
            rintro e w22 ⟨v22, rfl, o22, b22⟩
            have B22 := Lib.hid b22
            have X22 := Lib.hid o22.rd
            clear o22 b22
            go_wp2_with fail
            refine (equal_any _ _ (wOutL (wOutL (a) n) n) (wOutL (a) n) true (decide_eq_true (out_out W1.out a)) _ (X21.out.below B22.out) (X3.out.below (bup (bup (bup (bup (bup (bup (bup (bup (bup (bup (bup (bup (bup (bup (bup (bup (bup (bup B4.out B5.out) B6.out) B7.out) B8.out) B9.out) B10.out) B11.out) B12.out) B13.out) B14.out) B15.out) B16.out) B17.out) B18.out) B19.out) B20.out) B21.out) B22.out))).mono ?_
            rintro e w23 ⟨rfl, b23⟩
            have B23 := Lib.hid b23
            clear b23
            go_wp2_with fail
            refine (equal_any _ _ (wInL (wOutL (a) n) n) (wOutL (a) n) true (decide_eq_true (in_out W1.out a)) _ (X22.out.below B23.out) (X3.out.below (bup (bup (bup (bup (bup (bup (bup (bup (bup (bup (bup (bup (bup (bup (bup (bup (bup (bup (bup B4.out B5.out) B6.out) B7.out) B8.out) B9.out) B10.out) B11.out) B12.out) B13.out) B14.out) B15.out) B16.out) B17.out) B18.out) B19.out) B20.out) B21.out) B22.out) B23.out))).mono ?_
            rintro e w24 ⟨rfl, b24⟩
            have B24 := Lib.hid b24
            clear b24
            go_wp2_with fail
            refine (wakes_set _).mono ?_
            rintro e w25 ⟨rfl, b25⟩
            have B25 := Lib.hid b25
            clear b25
            go_wp2_with fail
            go_ret
            exact ⟨rfl, (bup (bup (bup (bup (bup (bup (bup (bup (bup (bup (bup (bup (bup (bup (bup (bup (bup (bup (bup (bup (bup (bup (bup (bup B1.out B2.out) B3.out) B4.out) B5.out) B6.out) B7.out) B8.out) B9.out) B10.out) B11.out) B12.out) B13.out) B14.out) B15.out) B16.out) B17.out) B18.out) B19.out) B20.out) B21.out) B22.out) B23.out) B24.out) B25.out)⟩
end Go.Proofs.Ytjnhkfjhkhbneaa
