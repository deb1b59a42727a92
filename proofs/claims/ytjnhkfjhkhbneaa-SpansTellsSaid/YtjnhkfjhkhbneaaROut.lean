/- What the document's Of, Or, And, Minus, Out and In answer. -/
import Derived.Test.YtjnhkfjhkhbneaaROf1
import Derived.Test.YtjnhkfjhkhbneaaROf2
namespace Go.Proofs.Ytjnhkfjhkhbneaa
open Go.RowKit SpanP

theorem badS_at {l : List Sp} {k : Nat} (hb : badL l = false) (hk : k < l.length) : badS l[k] = false := by
  cases h : badS l[k]
  · rfl
  · have := badL_at hk h; rw [hb] at this; cases this

set_option maxHeartbeats 1000000 in
theorem rofs_any (v : Value) (l : List Sp) (w : World) (hr : Rd w v l) (hlen : l.length ≤ 100) : Calls Try.prog 48 #[v] w (OfPost (ofL l) w) := by
  have K := rof0_any v (.slice none 0 0) l [] w hr (Rd.nil w) (by simpa using hlen)
  rw [opL_nil] at K
  clear hr hlen
  go_enter Try.func48, Try.ntmps48
  go_wp2_with fail
  refine K.mono ?_
  rintro e w1 ⟨v1, rfl, o1, b1⟩
  have O1 := Lib.hid o1
  have B1 := Lib.hid b1
  clear o1 b1 K
  go_wp2_with fail
  go_ret
  exact ⟨_, rfl, O1.out, B1.out⟩
set_option maxHeartbeats 1000000 in
theorem rors_any (va vb : Value) (a b : List Sp) (w : World) (hra : Rd w va a) (hrb : Rd w vb b) (hla : a.length ≤ 50) (hlb : b.length ≤ 50) : Calls Try.prog 49 #[va, vb] w (OfPost (orL a b) w) := by
  have K := rof0_any va vb a b w hra hrb (by rw [List.length_append]; omega)
  change Calls _ _ _ _ (OfPost (orL a b) w) at K
  clear hra hrb hla hlb
  go_enter Try.func49, Try.ntmps49
  go_wp2_with fail
  refine K.mono ?_
  rintro e w1 ⟨v1, rfl, o1, b1⟩
  have O1 := Lib.hid o1
  have B1 := Lib.hid b1
  clear o1 b1 K
  go_wp2_with fail
  go_ret
  exact ⟨_, rfl, O1.out, B1.out⟩
set_option maxHeartbeats 1000000 in
theorem rands_any (va vb : Value) (a b : List Sp) (w : World) (hra : Rd w va a) (hrb : Rd w vb b) (hla : a.length ≤ 50) (hlb : b.length ≤ 50) : Calls Try.prog 50 #[va, vb] w (OfPost (andL a b) w) := by
  have K := rof1_any va vb a b w hra hrb (by rw [List.length_append]; omega)
  change Calls _ _ _ _ (OfPost (andL a b) w) at K
  clear hra hrb hla hlb
  go_enter Try.func50, Try.ntmps50
  go_wp2_with fail
  refine K.mono ?_
  rintro e w1 ⟨v1, rfl, o1, b1⟩
  have O1 := Lib.hid o1
  have B1 := Lib.hid b1
  clear o1 b1 K
  go_wp2_with fail
  go_ret
  exact ⟨_, rfl, O1.out, B1.out⟩
set_option maxHeartbeats 1000000 in
theorem rminuss_any (va vb : Value) (a b : List Sp) (w : World) (hra : Rd w va a) (hrb : Rd w vb b) (hla : a.length ≤ 50) (hlb : b.length ≤ 50) : Calls Try.prog 51 #[va, vb] w (OfPost (minusL a b) w) := by
  have K := rof2_any va vb a b w hra hrb (by rw [List.length_append]; omega)
  change Calls _ _ _ _ (OfPost (minusL a b) w) at K
  clear hra hrb hla hlb
  go_enter Try.func51, Try.ntmps51
  go_wp2_with fail
  refine K.mono ?_
  rintro e w1 ⟨v1, rfl, o1, b1⟩
  have O1 := Lib.hid o1
  have B1 := Lib.hid b1
  clear o1 b1 K
  go_wp2_with fail
  go_ret
  exact ⟨_, rfl, O1.out, B1.out⟩
set_option maxRecDepth 100000 in
set_option maxHeartbeats 1000000 in
theorem rout_s (f t n F T : Int) (w : World) (hF : outF f t n = F) (hT : outT f t n = T) (hw : widthB n = true) (hb : badS (f, t) = false) :
    Calls Try.prog 40 #[.agg #[.int .i64 f, .int .i64 t], .int .i64 n] w fun e w' => e = .returned (.agg #[.int .i64 F, .int .i64 T]) ∧ Below w.heap.size w w' := by
  by_cases h : t ≤ f
  · have e1 : F = 0 := by rw [← hF, outF, if_pos h]
    have e2 : T = 0 := by rw [← hT, outT, if_pos h]
    subst e1 e2
    clear hF hT hw hb
    go_enter Try.func40, Try.ntmps40
    go_wp2
    exact bodyPost_ret (v := .agg #[.int .i64 0, .int .i64 0]) (by simp [results, Try.results40, go_sem]) rfl ⟨rfl, ((Below.refl _ _).alloc (Nat.le_refl _) _).alloc (by simp) _⟩
  · have hn := widthB_iff.1 hw
    obtain ⟨b1, b2⟩ : boundB f = true ∧ boundB t = true := by
      have h1 : neS (f, t) = true := neS_iff.2 (by show f < t; omega)
      simp only [badS, h1, Bool.true_and] at hb
      cases e1 : boundB f <;> cases e2 : boundB t <;> simp_all
    exact rout_ok f t n F T w hF hT hn.1 hn.2 (boundB_iff.1 b1) (boundB_iff.1 b2)
set_option maxRecDepth 100000 in
set_option maxHeartbeats 1000000 in
theorem rin_s (f t n F T : Int) (w : World) (hF : inF f t n = F) (hT : inT f t n = T) (hw : widthB n = true) (hb : badS (f, t) = false) :
    Calls Try.prog 41 #[.agg #[.int .i64 f, .int .i64 t], .int .i64 n] w fun e w' => e = .returned (.agg #[.int .i64 F, .int .i64 T]) ∧ Below w.heap.size w w' := by
  by_cases h : t ≤ f
  · have e1 : F = 0 := by rw [← hF, inF, if_pos h]
    have e2 : T = 0 := by rw [← hT, inT, if_pos h]
    subst e1 e2
    clear hF hT hw hb
    go_enter Try.func41, Try.ntmps41
    go_wp2
    exact bodyPost_ret (v := .agg #[.int .i64 0, .int .i64 0]) (by simp [results, Try.results41, go_sem]) rfl ⟨rfl, ((Below.refl _ _).alloc (Nat.le_refl _) _).alloc (by simp) _⟩
  · have hn := widthB_iff.1 hw
    obtain ⟨b1, b2⟩ : boundB f = true ∧ boundB t = true := by
      have h1 : neS (f, t) = true := neS_iff.2 (by show f < t; omega)
      simp only [badS, h1, Bool.true_and] at hb
      cases e1 : boundB f <;> cases e2 : boundB t <;> simp_all
    exact rin_ok f t n F T w hF hT hn.1 hn.2 (boundB_iff.1 b1) (boundB_iff.1 b2)
set_option maxRecDepth 100000 in
set_option maxHeartbeats 1000000 in
theorem routs_bad (v : Value) (l : List Sp) (n x : Int) (w : World) (he : errW l n = x) (hx : (x != 0) = true) (hr : Rd w v l) (hlen : l.length ≤ 50) :
    Calls Try.prog 45 #[v, .int .i64 n] w fun e w' => e = .returned (.tuple #[.slice none 0 0, .int .i64 x]) ∧ Below w.heap.size w w' := by
  have K := rwrong10_any v l n x he w hr (by omega)
  clear he hr
  go_enter Try.func45, Try.ntmps45
  go_wp2_with fail
  refine K.mono ?_
  rintro e w1 ⟨rfl, b1⟩
  have B1 := Lib.hid b1
  clear b1 K
  go_wp2_with fail
  refine bodyPost_ret (v := .tuple #[.slice none 0 0, .int .i64 x]) (by simp [results, Try.results45, go_sem]) rfl ⟨rfl, B1.out⟩

def RoutsPost (l : List Sp) (n : Int) (w : World) (e : Ending) (w' : World) : Prop := ∃ v', e = .returned (.tuple #[v', .int .i64 0]) ∧ Ow w' w.heap.size v' (wOutL l n) ∧ Below w.heap.size w w'
set_option maxRecDepth 100000 in
set_option maxHeartbeats 4000000 in
theorem routs_ok (v : Value) (l : List Sp) (n : Int) (w : World) (he : errW l n = 0) (hr : Rd w v l) (hlen : l.length ≤ 50) :
    Calls Try.prog 45 #[v, .int .i64 n] w (RoutsPost l n w) := by
  obtain ⟨hw, hb⟩ := errW_ok he
  have BW := Lib.hid hw
  have BL := Lib.hid hb
  have K := Lib.hid (rwrong10_any v l n 0 he w hr (by omega))
  have R := Lib.hid hr
  have LL := Lib.hid hlen
  clear hw hb he
  obtain ⟨a, cap, rfl, hm1, hm2, hfa⟩ := hr.shape
  have FA := Lib.hid hfa
  unfold maxLen at hm2
  obtain ⟨m, hm⟩ : ∃ m, m = l.length := ⟨_, rfl⟩
  have M := Lib.hid hm
  have hm3 : m ≤ 50 := by rw [hm]; exact hlen
  rw [← hm] at R hm1 K ⊢
  clear hm hfa hr hlen
  go_enter Try.func45, Try.ntmps45
  go_wp2_with fail
  refine K.out.mono ?_
  rintro e w1 ⟨rfl, b1⟩
  have B1 := Lib.hid b1
  clear b1 K
  go_wp2_with fail
  go_loopg [7, 8] m (fun gg s7 s8 wr => ∃ k : Nat, s8 = .int .i64 k ∧ k ≤ m ∧ m - k ≤ gg ∧ Hid (Ow wr w1.heap.size s7 ((l.take k).map (outS n))) ∧ Hid (Below w1.heap.size w1 wr))
  case atStart => exact ⟨0, rfl, by omega, by omega, Lib.hid (Ow.nil _ _), Lib.hid (Below.refl _ _)⟩
  case round =>
    obtain ⟨k, rfl, hk, hgg, hO, hB⟩ := hrel
    by_cases hkm : k < m
    · have hkl : k < l.length := by rw [← M.out]; exact hkm
      obtain ⟨bb, ob, rfl⟩ := FA.out (by intro h; rw [h] at hkl; simp at hkl)
      have rr := (R.out.below B1.out).below hB.out
      have c0 := rr.cell0 k hkl
      have c1 := rr.cell1 k hkl
      obtain ⟨x, hx⟩ : ∃ x, l[k] = x := ⟨_, rfl⟩
      rw [hx] at c0 c1
      have X := Lib.hid (show (l.take (k + 1)).map (outS n) = (l.take k).map (outS n) ++ [outS n x] by rw [List.take_succ_eq_append_getElem hkl, List.map_append, hx]; rfl)
      have Y := Lib.hid (show badS x = false by rw [← hx]; exact badS_at BL.out hkl)
      clear hx hkl rr
      obtain ⟨f, t⟩ := x
      dsimp only at c0 c1
      obtain ⟨F, hF⟩ : ∃ F, outF f t n = F := ⟨_, rfl⟩
      obtain ⟨T, hT⟩ : ∃ T, outT f t n = T := ⟨_, rfl⟩
      have X2 := Lib.hid (show (l.take (k + 1)).map (outS n) = (l.take k).map (outS n) ++ [(F, T)] by rw [X.out, ← hF, ← hT]; rfl)
      have CC := Lib.hid (fun w => rout_s f t n F T w hF hT BW.out Y.out)
      have LM := Lib.hid (show ((l.take k).map (outS n)).length ≤ 50 by rw [List.length_map, List.length_take]; omega)
      have hkz : (k : Int) < (m : Int) := by omega
      clear hF hT X Y
      go_wp2_with fail
      refine (CC.out _).mono ?_
      rintro e w5 ⟨rfl, b5⟩
      have B5 := Lib.hid (hB.out.trans (b5.mono hB.out.size))
      have O5 := Lib.hid (hO.out.kept b5)
      clear b5 hB hO c0 c1
      go_wp2_with (at_builtin; refine wpList_append_sp rfl _ _ rfl w1.heap.size _ _ ((l.take k).map (outS n)) [(F, T)] rfl (O5.out.alloc _) rfl (Rd.lit _ _ _) (Nat.le_trans B5.out.size (bone _ _).size) (Nat.le_trans (Nat.add_le_add_right LM.out 1) (by decide)) ?_)
      intro v6 w6 o6 b6
      have O6 := Lib.hid (show Ow w6 w1.heap.size v6 ((l.take (k + 1)).map (outS n)) by rw [X2.out, List.map_take]; exact o6)
      have B6 := Lib.hid (B5.out.trans (((bone w5 _).mono B5.out.size).trans b6))
      clear o6 b6 O5 B5
      go_wp2_with fail
      go_roundg (m - (k + 1))
      case measure => omega
      case rel => exact ⟨k + 1, by go_num, by omega, Nat.le_refl _, O6, B6⟩
    · obtain rfl : k = m := by omega
      have hkz : ¬ (k : Int) < (k : Int) := by omega
      have O5 := Lib.hid (show Ow wr w1.heap.size u7 (l.map (outS n)) by have h := hO.out; rwa [List.take_of_length_le (by rw [← M.out]; exact Nat.le_refl _)] at h)
      have LM := Lib.hid (show (l.map (outS n)).length ≤ 100 by rw [List.length_map, ← M.out]; omega)
      clear hO
      go_wp2_with fail
      refine (rofs_any _ (l.map (outS n)) wr O5.out.rd LM.out).mono ?_
      rintro e w6 ⟨v6, rfl, o6, b6⟩
      rw [out_map] at o6
      have B6 := Lib.hid (bup (bup B1.out hB.out) b6)
      have O6 := Lib.hid (o6.mono (Nat.le_trans B1.out.size hB.out.size))
      clear o6 b6 hB
      go_wp2_with fail
      refine bodyPost_ret (v := .tuple #[v6, .int .i64 0]) (by simp [results, Try.results45, go_sem]) rfl ⟨v6, rfl, O6.out, B6.out⟩
set_option maxRecDepth 100000 in
set_option maxHeartbeats 1000000 in
theorem rins_bad (v : Value) (l : List Sp) (n x : Int) (w : World) (he : errW l n = x) (hx : (x != 0) = true) (hr : Rd w v l) (hlen : l.length ≤ 50) :
    Calls Try.prog 46 #[v, .int .i64 n] w fun e w' => e = .returned (.tuple #[.slice none 0 0, .int .i64 x]) ∧ Below w.heap.size w w' := by
  have K := rwrong10_any v l n x he w hr (by omega)
  clear he hr
  go_enter Try.func46, Try.ntmps46
  go_wp2_with fail
  refine K.mono ?_
  rintro e w1 ⟨rfl, b1⟩
  have B1 := Lib.hid b1
  clear b1 K
  go_wp2_with fail
  refine bodyPost_ret (v := .tuple #[.slice none 0 0, .int .i64 x]) (by simp [results, Try.results46, go_sem]) rfl ⟨rfl, B1.out⟩

def RinsPost (l : List Sp) (n : Int) (w : World) (e : Ending) (w' : World) : Prop := ∃ v', e = .returned (.tuple #[v', .int .i64 0]) ∧ Ow w' w.heap.size v' (wInL l n) ∧ Below w.heap.size w w'
set_option maxRecDepth 100000 in
set_option maxHeartbeats 4000000 in
theorem rins_ok (v : Value) (l : List Sp) (n : Int) (w : World) (he : errW l n = 0) (hr : Rd w v l) (hlen : l.length ≤ 50) :
    Calls Try.prog 46 #[v, .int .i64 n] w (RinsPost l n w) := by
  obtain ⟨hw, hb⟩ := errW_ok he
  have BW := Lib.hid hw
  have BL := Lib.hid (badL_ofL hb)
  have K := Lib.hid (rwrong10_any v l n 0 he w hr (by omega))
  have R := Lib.hid hr
  have LL := Lib.hid hlen
  clear hw hb he
  clear hr hlen
  go_enter Try.func46, Try.ntmps46
  go_wp2_with fail
  refine K.out.mono ?_
  rintro e w1 ⟨rfl, b1⟩
  have B1 := Lib.hid b1
  clear b1 K
  go_wp2_with fail
  refine (rofs_any v l w1 (R.out.below B1.out) (Nat.le_trans LL.out (by decide))).mono ?_
  rintro e w2 ⟨vf, rfl, o2, b2⟩
  have B2 := Lib.hid (bup B1.out b2)
  have R2 := Lib.hid o2.rd
  obtain ⟨a, cap, rfl, hm1, hm2, hfa⟩ := o2.rd.shape
  have FA := Lib.hid hfa
  unfold maxLen at hm2
  obtain ⟨m, hm⟩ : ∃ m, m = (ofL l).length := ⟨_, rfl⟩
  have M := Lib.hid hm
  have hm3 : m ≤ 50 := by rw [hm]; exact Nat.le_trans (ofL_length l) LL.out
  rw [← hm] at R2 hm1 ⊢
  clear hm hfa o2 b2
  go_wp2_with fail
  go_loopg [7, 9] m (fun gg s7 s8 wr => ∃ k : Nat, s8 = .int .i64 k ∧ k ≤ m ∧ m - k ≤ gg ∧ Hid (Ow wr w2.heap.size s7 (((ofL l).take k).map (inS n))) ∧ Hid (Below w2.heap.size w2 wr))
  case atStart => exact ⟨0, rfl, by omega, by omega, Lib.hid (Ow.nil _ _), Lib.hid (Below.refl _ _)⟩
  case round =>
    obtain ⟨k, rfl, hk, hgg, hO, hB⟩ := hrel
    by_cases hkm : k < m
    · have hkl : k < (ofL l).length := by rw [← M.out]; exact hkm
      obtain ⟨bb, ob, rfl⟩ := FA.out (by intro h; rw [h] at hkl; simp at hkl)
      have rr := R2.out.below hB.out
      have c0 := rr.cell0 k hkl
      have c1 := rr.cell1 k hkl
      obtain ⟨x, hx⟩ : ∃ x, (ofL l)[k] = x := ⟨_, rfl⟩
      rw [hx] at c0 c1
      have X := Lib.hid (show ((ofL l).take (k + 1)).map (inS n) = ((ofL l).take k).map (inS n) ++ [inS n x] by rw [List.take_succ_eq_append_getElem hkl, List.map_append, hx]; rfl)
      have Y := Lib.hid (show badS x = false by rw [← hx]; exact badS_at BL.out hkl)
      clear hx hkl rr
      obtain ⟨f, t⟩ := x
      dsimp only at c0 c1
      obtain ⟨F, hF⟩ : ∃ F, inF f t n = F := ⟨_, rfl⟩
      obtain ⟨T, hT⟩ : ∃ T, inT f t n = T := ⟨_, rfl⟩
      have X2 := Lib.hid (show ((ofL l).take (k + 1)).map (inS n) = ((ofL l).take k).map (inS n) ++ [(F, T)] by rw [X.out, ← hF, ← hT]; rfl)
      have CC := Lib.hid (fun w => rin_s f t n F T w hF hT BW.out Y.out)
      have LM := Lib.hid (show (((ofL l).take k).map (inS n)).length ≤ 50 by rw [List.length_map, List.length_take]; omega)
      have hkz : (k : Int) < (m : Int) := by omega
      clear hF hT X Y
      go_wp2_with fail
      refine (CC.out _).mono ?_
      rintro e w5 ⟨rfl, b5⟩
      have B5 := Lib.hid (hB.out.trans (b5.mono hB.out.size))
      have O5 := Lib.hid (hO.out.kept b5)
      clear b5 hB hO c0 c1
      go_wp2_with (at_builtin; refine wpList_append_sp rfl _ _ rfl w2.heap.size _ _ (((ofL l).take k).map (inS n)) [(F, T)] rfl (O5.out.alloc _) rfl (Rd.lit _ _ _) (Nat.le_trans B5.out.size (bone _ _).size) (Nat.le_trans (Nat.add_le_add_right LM.out 1) (by decide)) ?_)
      intro v6 w6 o6 b6
      have O6 := Lib.hid (show Ow w6 w2.heap.size v6 (((ofL l).take (k + 1)).map (inS n)) by rw [X2.out, List.map_take]; exact o6)
      have B6 := Lib.hid (B5.out.trans (((bone w5 _).mono B5.out.size).trans b6))
      clear o6 b6 O5 B5
      go_wp2_with fail
      go_roundg (m - (k + 1))
      case measure => omega
      case rel => exact ⟨k + 1, by go_num, by omega, Nat.le_refl _, O6, B6⟩
    · obtain rfl : k = m := by omega
      have hkz : ¬ (k : Int) < (k : Int) := by omega
      have O5 := Lib.hid (show Ow wr w2.heap.size u7 ((ofL l).map (inS n)) by have h := hO.out; rwa [List.take_of_length_le (by rw [← M.out]; exact Nat.le_refl _)] at h)
      have LM := Lib.hid (show ((ofL l).map (inS n)).length ≤ 100 by rw [List.length_map, ← M.out]; omega)
      clear hO
      go_wp2_with fail
      refine (rofs_any _ ((ofL l).map (inS n)) wr O5.out.rd LM.out).mono ?_
      rintro e w6 ⟨v6, rfl, o6, b6⟩
      rw [in_map] at o6
      have B6 := Lib.hid (bup (bup B2.out hB.out) b6)
      have O6 := Lib.hid (o6.mono (Nat.le_trans B2.out.size hB.out.size))
      clear o6 b6 hB
      go_wp2_with fail
      refine bodyPost_ret (v := .tuple #[v6, .int .i64 0]) (by simp [results, Try.results46, go_sem]) rfl ⟨v6, rfl, O6.out, B6.out⟩
end Go.Proofs.Ytjnhkfjhkhbneaa
