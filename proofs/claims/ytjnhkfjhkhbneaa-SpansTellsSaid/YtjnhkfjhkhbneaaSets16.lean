/- The law's helper 'wakes' returns true. -/
import Derived.Test.YtjnhkfjhkhbneaaSets15
namespace Go.Proofs.Ytjnhkfjhkhbneaa
open Go.RowKit SpanP

theorem Rd.lits (w : World) (l : List Sp) (g : Nat) (hg : g = w.heap.size) (hl : l.length ≤ maxLen) : Rd (w.alloc (.cells (flat l).toArray 23)) (.slice (some ⟨g, 0, none⟩) l.length l.length) l := by
  subst hg
  refine .inr ⟨w.heap.size, 0, l.length, rfl, by simp, Nat.le_refl _, hl, fun j u hj => ?_⟩
  rw [cell_of_row _ _ _ _ _ _ (heap_alloc_new w _), Nat.zero_add]
  simpa using hj

theorem w_of : ofL [(5, 9), (1, 3), (3, 4), (8, 8), (7, 12)] = [(1, 4), (5, 12)] := by
  refine form_ext (ofL_form _) ⟨by decide, by decide⟩ fun t => ?_
  rw [hasL_ofL, Bool.eq_iff_iff, hasL_iff, hasL_iff]
  simp
  omega
theorem w_minus : minusL [(0, 10)] [(3, 5)] = [(0, 3), (5, 10)] := by
  refine form_ext (minusL_form _ _) ⟨by decide, by decide⟩ fun t => ?_
  rw [hasL_minusL, Bool.eq_iff_iff, Bool.and_eq_true, Bool.not_eq_true', ← Bool.not_eq_true, hasL_iff, hasL_iff, hasL_iff]
  simp
  omega
theorem w_in : wInL [(3, 7), (7, 12)] 5 = [(5, 10)] := by
  have h : ofL [(3, 7), (7, 12)] = [(3, 12)] := by
    refine form_ext (ofL_form _) ⟨by decide, by decide⟩ fun t => ?_
    rw [hasL_ofL, Bool.eq_iff_iff, hasL_iff, hasL_iff]
    simp
    omega
  unfold wInL
  rw [h]
  have h2 : turnL (inS 5) [(3, 12)] = [(5, 10)] := by decide
  rw [h2]
  exact ofL_of_form ⟨by decide, by decide⟩
theorem w_err : errW [(3, 7), (7, 12)] 5 = 0 := by decide

theorem sp_on {w0 W : World} (h : Below w0.heap.size w0 W) (f t : Int) : Calls Try.prog 53 #[.int .i64 f, .int .i64 t] W fun e w' => e = .returned (.agg #[.int .i64 f, .int .i64 t]) ∧ Below w0.heap.size w0 w' :=
  (sp_any f t W).mono fun _ _ ⟨he, hb⟩ => ⟨he, h.trans (hb.mono h.size)⟩
theorem bup {w W W' : World} (h : Below w.heap.size w W) (k : Below W.heap.size W W') : Below w.heap.size w W' := h.trans (k.mono h.size)
theorem bone (w : World) (o : Obj) : Below w.heap.size w (w.alloc o) := (Below.refl _ w).alloc (Nat.le_refl _) _

set_option maxRecDepth 100000 in
set_option maxHeartbeats 4000000 in
theorem wakes_set (w : World) : Calls Try.prog 18 #[] w fun e w' => e = .returned (.bool true) ∧ Below w.heap.size w w' := by
  go_enter Try.func18, Try.ntmps18
  have hb := Below.refl w.heap.size w
  go_wp2_with (go_at_call 53; refine (sp_on hb _ _).mono ?_; rintro e w' ⟨rfl, hb⟩)
  refine (of_any _ [(5, 9), (1, 3), (3, 4), (8, 8), (7, 12)] _ (Rd.lits w' [(5, 9), (1, 3), (3, 4), (8, 8), (7, 12)] _ rfl (by decide)) (by decide)).mono ?_
  rintro e w1 ⟨v1, rfl, o1, b1⟩
  rw [w_of] at o1
  have R1 := Lib.hid o1.rd
  have B1 := Lib.hid (bup (bup hb (bone _ _)) b1)
  clear o1 b1 hb
  go_wp2_with fail
  refine (sp_any _ _ _).mono ?_
  rintro e wa ⟨rfl, ba⟩
  go_wp2_with fail
  refine (sp_any _ _ _).mono ?_
  rintro e wb ⟨rfl, bb⟩
  go_wp2_with fail
  have r1 := ((Rd.lits wa [(0, 10)] _ rfl (by decide)).below bb).below (bone wb (.cells (flat [(3, 5)]).toArray 23))
  refine (minus_any _ _ [(0, 10)] [(3, 5)] _ r1 (Rd.lits wb [(3, 5)] _ rfl (by decide)) (by decide) (by decide)).mono ?_
  rintro e w2 ⟨v2, rfl, o2, b2⟩
  rw [w_minus] at o2
  have hb := bup (bup (bup (bup ba (bone _ _)) bb) (bone _ _)) b2
  have R2 := Lib.hid o2
  have R1b := Lib.hid (R1.out.below hb)
  have B2 := Lib.hid (bup B1.out hb)
  clear o2 b2 hb ba bb r1
  have hb := Below.refl w2.heap.size w2
  go_wp2_with (go_at_call 53; refine (sp_on hb _ _).mono ?_; rintro e wc ⟨rfl, hb⟩)
  refine (ins_ok _ [(3, 7), (7, 12)] 5 _ w_err (Rd.lits wc [(3, 7), (7, 12)] _ rfl (by decide)) (by decide)).mono ?_
  rintro e w3 ⟨v3, rfl, o3, b3⟩
  rw [w_in] at o3
  have hb3 := bup (bup hb (bone _ _)) b3
  have R3 := Lib.hid o3.rd
  have R2b := Lib.hid (R2.out.below hb3)
  have R1c := Lib.hid (R1b.out.below hb3)
  have B3 := Lib.hid (bup B2.out hb3)
  clear o3 b3 hb hb3
  have hb := Below.refl w3.heap.size w3
  go_wp2_with (go_at_call 53; refine (sp_on hb _ _).mono ?_; rintro e wd ⟨rfl, hb⟩)
  refine (rsame_any _ _ [(1, 4), (5, 12)] [(1, 4), (5, 12)] true (by decide) _ ((R1c.out.below hb).below (bone _ _)) (Rd.lits wd [(1, 4), (5, 12)] _ rfl (by decide))).mono ?_
  rintro e w4 ⟨rfl, b4⟩
  have hb4 := bup (bup hb (bone _ _)) b4
  have R1d := Lib.hid (R1c.out.below hb4)
  have R2d := Lib.hid (R2b.out.below hb4)
  have R3d := Lib.hid (R3.out.below hb4)
  have B4 := Lib.hid (bup B3.out hb4)
  clear b4 hb hb4
  have hb := Below.refl w4.heap.size w4
  go_wp2_with (go_at_call 53; refine (sp_on hb _ _).mono ?_; rintro e wd ⟨rfl, hb⟩)
  refine (rsame_any _ _ [(0, 3), (5, 10)] [(0, 3), (5, 10)] true (by decide) _ ((R2d.out.below hb).below (bone _ _)) (Rd.lits _ [(0, 3), (5, 10)] _ rfl (by decide))).mono ?_
  rintro e w5 ⟨rfl, b5⟩
  have hb5 := bup (bup hb (bone _ _)) b5
  have R1e := Lib.hid (R1d.out.below hb5)
  have R3e := Lib.hid (R3d.out.below hb5)
  have B5 := Lib.hid (bup B4.out hb5)
  clear b5 hb hb5
  have hb := Below.refl w5.heap.size w5
  go_wp2_with (go_at_call 53; refine (sp_on hb _ _).mono ?_; rintro e wd ⟨rfl, hb⟩)
  refine (rsame_any _ _ [(5, 10)] [(5, 10)] true (by decide) _ ((R3e.out.below hb).below (bone _ _)) (Rd.lits _ [(5, 10)] _ rfl (by decide))).mono ?_
  rintro e w6 ⟨rfl, b6⟩
  have hb6 := bup (bup hb (bone _ _)) b6
  have R1f := Lib.hid (R1e.out.below hb6)
  have B6 := Lib.hid (bup B5.out hb6)
  clear b6 hb hb6
  go_wp2_with fail
  refine (hasl_any _ [(1, 4), (5, 12)] 11 true (by decide) _ R1f.out (by decide)).mono ?_
  rintro e w7 ⟨rfl, b7⟩
  have R1g := Lib.hid (R1f.out.below b7)
  have B7 := Lib.hid (bup B6.out b7)
  clear b7
  go_wp2_with fail
  refine (hasl_any _ [(1, 4), (5, 12)] 4 false (by decide) _ R1g.out (by decide)).mono ?_
  rintro e w8 ⟨rfl, b8⟩
  have B8 := Lib.hid (bup B7.out b8)
  clear b8
  go_wp2_with fail
  go_ret
  exact ⟨rfl, B8.out⟩
end Go.Proofs.Ytjnhkfjhkhbneaa
