/- The walk of CrcFour: it returns true and changes nothing that was there. Conditions: the slice reads as bytes; the numbers fit their kinds. -/
import Derived.Test.YtelecohcidgjpaaRowsW
import Derived.Deep.RegionLaw
namespace Go.Proofs.Ytelecohcidgjpaa
open Go.RowKit Go.BigFrame

/-- 'b[lo:]' -/
theorem slice_from (b off n c lo : Nat) (x : Int) (hx : x = (lo : Int)) (h : lo ≤ n) :
    ∃ ad : Addr, (ad = ⟨b, off, none⟩ ∧ c = lo ∨ ad = ⟨b, off + lo, none⟩) ∧
      ∀ W, Sem.run Try.prog (Instr.slice 22 (.slice (some ⟨b, off, none⟩) n c) (some (.int .i64 x)) none none) W = .ok (.slice (some ad) (n - lo) (c - lo)) W := by
  subst hx
  by_cases hc : c = lo
  · refine ⟨_, .inl ⟨rfl, hc⟩, fun W => ?_⟩
    go_simp
  · refine ⟨_, .inr rfl, fun W => ?_⟩
    go_simp

theorem rb_drop {w : World} {b off n c : Nat} {l : List UInt8} (hn : l.length = n) (hB : BytesAt w b off l) (lo : Nat) (h : lo ≤ n) (hle : n ≤ c) {ad : Addr} (had : ad = ⟨b, off, none⟩ ∧ c = lo ∨ ad = ⟨b, off + lo, none⟩) :
    RB w (.slice (some ad) (n - lo) (c - lo)) (l.drop lo) := by
  refine .inr ⟨ad, c - lo, by rw [List.length_drop, hn], fun i hi => ?_⟩
  rw [List.length_drop] at hi
  rcases had with ⟨_, h2⟩ | rfl
  · omega
  · rw [Addr.add_lit, show off + lo + i = off + (lo + i) by omega, hB (lo + i) (by omega)]
    have : lo + i < l.length := by omega
    simp [this]

theorem four_same {l : List UInt8} {k : Nat} {d : List UInt8} (hd : d.length = 4) (hk : k + 4 ≤ l.length) : (CrcP.sum (l.take k ++ d ++ l.drop (k + 4)) = CrcP.sum l) ↔ (l.take k ++ d ++ l.drop (k + 4) = l) := by
  have e : l = l.take k ++ (l.drop k).take 4 ++ l.drop (k + 4) := by
    rw [List.append_assoc]
    conv => lhs; rw [← List.take_append_drop k l]
    congr 1
    conv => lhs; rw [← List.take_append_drop 4 (l.drop k)]
    rw [List.drop_drop]
  have h4 : ((l.drop k).take 4).length = 4 := by simp; omega
  conv => lhs; rhs; rw [e]
  rw [CrcP.sum_four hd h4]
  conv => rhs; rhs; rw [e]
  constructor
  · intro h; rw [h]
  · intro h
    have := List.append_cancel_right h
    exact List.append_cancel_left this

theorem text_beq (l m : List UInt8) : ((⟨l.toArray⟩ : ByteArray).toList == (⟨m.toArray⟩ : ByteArray).toList) = decide (l = m) := by
  rw [ByteArray.toList_eq, ByteArray.toList_eq, Bool.eq_iff_iff, beq_iff_eq, decide_eq_true_iff]

theorem step_append {ops : Array Oper} {o : Oper} {a : Act} {w : World} {K : Act → World → Prop} {Q : Exit → Act → World → Prop} {E : Prop} (hg : o.guard = none) (s x : Operand)
    (ho : o.op = .call { callee := .builtin .append, args := #[s, x], argTypes := #[22, 22] })
    (base : Nat) (v : Value) (n : Nat) (l : List UInt8) (hs : a.eval s = v) (hown : w.ownsRow base 5 1 v n (cellsOf l))
    (v2 : Value) (l2 : List UInt8) (hx : a.eval x = v2) (h2 : RB w v2 l2) (hbytes : n + l2.length ≤ 140737488355328) (hbase : base ≤ w.heap.size)
    (h : ∀ v' w', w'.ownsRow base 5 1 v' (n + l2.length) (cellsOf (l ++ l2)) → w.grownBy w' v.ownBlock → K (a.put o.dst v') w') :
    if Region.wanted o (yielded ops a.tmps) = true then Oper.wp Try.prog o a w K Q else E := by
  have hw : Region.wanted o (yielded ops a.tmps) = true := by simp [Region.wanted, hg]
  rw [if_pos hw]
  exact op_append s x ho base v n l hs hown v2 l2 hx h2 hbytes hbase h

theorem rb_block {w : World} {g : Nat} {cs : Array Value} {t : TypeId} {fr : Nat × Nat} (hh : w.heap[g]? = some (.cells cs t fr)) (l : List UInt8) (h : cs.toList = cellsOf l) (cap : Nat) : RB w (.slice (some ⟨g, 0, none⟩) l.length cap) l := by
  refine .inr ⟨_, cap, rfl, fun i hi => ?_⟩
  rw [Addr.add_lit, cell_of_row _ _ _ _ _ _ hh, ← Array.getElem?_toList, h]
  simp [cellsOf, hi]

set_option maxHeartbeats 400000 in
theorem four_walk (a0 : Option Addr) (n0 c0 : Nat) (l0 : List UInt8) (e0 : l0.length = n0) (x : Int) (y0 y1 y2 y3 : UInt8) (w : World)
    (h0 : RB w (.slice a0 n0 c0) l0) (wx : (Lit.int .u16 x).wf = true) (b0 : n0 ≤ 140737488351232) (hle : n0 ≤ c0) :
    Calls Try.prog 4 #[.slice a0 n0 c0, .int .u16 x, .agg #[.int .u8 (y0.toNat : Int), .int .u8 (y1.toNat : Int), .int .u8 (y2.toNat : Int), .int .u8 (y3.toNat : Int)]] w fun e w' => e = .returned (.bool true) ∧ Below w.heap.size w w' := by
  have bx : 0 ≤ x ∧ x ≤ 65535 := by simpa [Lit.wf, IntKind.min, IntKind.max, IntKind.signed, IntKind.bits] using wx
  clear wx
  obtain ⟨X, rfl⟩ : ∃ X : Nat, x = (X : Int) := ⟨x.toNat, by omega⟩
  by_cases t : 4 ≤ n0 ∧ n0 ≤ 4200
  · obtain ⟨t1, t2⟩ := t
    obtain ⟨b, off, rfl, hB⟩ : ∃ b off, a0 = some ⟨b, off, none⟩ ∧ BytesAt w b off l0 := by
      rcases h0 with ⟨h1, rfl⟩ | ⟨ad, cap, h1, hc⟩
      · simp at e0; omega
      · cases h1
        obtain ⟨b, off, rfl, hb⟩ := RB.spot hc (by omega)
        exact ⟨b, off, rfl, hb⟩
    have H0 := Lib.hid h0
    have E0 := Lib.hid e0
    have HB := Lib.hid hB
    clear h0 e0 hB
    obtain ⟨k, hk⟩ : ∃ k : Nat, k = X % (n0 - 3) := ⟨_, rfl⟩
    have hk4 : k + 4 ≤ n0 := by rw [hk]; have := Nat.mod_lt X (show 0 < n0 - 3 by omega); omega
    have hkm : ((X : Int).tmod ((n0 : Int) - 3)) = (k : Int) := by
      rw [Int.tmod_eq_emod_of_nonneg (by omega), hk]
      have : ((n0 : Int) - 3) = ((n0 - 3 : Nat) : Int) := by omega
      rw [this]; rfl
    clear hk
    have hn3 : ¬ (n0 : Int) - 3 = 0 := by omega
    obtain ⟨ad9, had9, hsl⟩ := slice_from b off n0 c0 (k + 4) ((k : Int) + 4) (by omega) hk4
    have R9 : Hid (RB w (.slice (some ad9) (n0 - (k + 4)) (c0 - (k + 4))) (l0.drop (k + 4))) := Lib.hid (rb_drop E0.out HB.out (k + 4) hk4 hle had9)
    have R8 : Hid (RB w (.slice (some ⟨b, off, none⟩) k c0) (l0.take k)) := Lib.hid (rb_take H0.out k (by rw [E0.out]; omega))
    clear had9
    obtain ⟨m9, hm9⟩ : ∃ m, m = n0 - (k + 4) := ⟨_, rfl⟩
    obtain ⟨c9, hc9⟩ : ∃ c, c = c0 - (k + 4) := ⟨_, rfl⟩
    rw [← hm9, ← hc9] at R9 hsl
    have hm9b : m9 ≤ 4200 := by omega
    clear hm9 hc9
    go_enter Try.func4, Try.ntmps4
    go_wp2
    go_quiet (fail)
    have hblk : ((w.alloc (.cells #[.int .u8 (y0.toNat : Int), .int .u8 (y1.toNat : Int), .int .u8 (y2.toNat : Int), .int .u8 (y3.toNat : Int)] 28)).drewN nq).heap[w.heap.size]? = some (.cells #[.int .u8 (y0.toNat : Int), .int .u8 (y1.toNat : Int), .int .u8 (y2.toNat : Int), .int .u8 (y3.toNat : Int)] 28) := heap_alloc_new _ _
    have hbW : Below w.heap.size w ((w.alloc (.cells #[.int .u8 (y0.toNat : Int), .int .u8 (y1.toNat : Int), .int .u8 (y2.toNat : Int), .int .u8 (y3.toNat : Int)] 28)).drewN nq) := below_drewN ((Below.refl _ w).alloc (Nat.le_refl _) _) nq
    obtain ⟨W, hW⟩ : ∃ W, W = ((w.alloc (.cells #[.int .u8 (y0.toNat : Int), .int .u8 (y1.toNat : Int), .int .u8 (y2.toNat : Int), .int .u8 (y3.toNat : Int)] 28)).drewN nq) := ⟨_, rfl⟩
    rw [← hW] at hblk hbW ⊢
    clear hW
    have R5 : Hid (RB W (.slice (some ⟨w.heap.size, 0, none⟩) 4 4) [y0, y1, y2, y3]) := Lib.hid (rb_block hblk [y0, y1, y2, y3] rfl 4)
    clear hblk
    have z8 : (l0.take k).length ≤ 4200 := by rw [List.length_take]; omega
    have z9 : (l0.drop (k + 4)).length ≤ 4200 := by rw [List.length_drop, E0.out]; omega
    have z0 : l0.length ≤ 4200 := by rw [E0.out]; omega
    go_wp2
    go_region_law (first
      | (refine step_append rfl (.tmp 33) (.tmp 34) rfl W.heap.size _ 0 [] rfl (own_empty W).drew _ (l0.take k) rfl (R8.out.up (hbW.alloc hbW.size _).drew) (by omega) (by simp) ?_; intro v1 w1 hown1 hg1; simp only [Nat.zero_add, List.nil_append] at hown1; have hb1 : Below W.heap.size W w1 := ((Below.refl _ W).alloc (Nat.le_refl _) _).drew.grown hg1 (by simp) (fun k e => by cases e; exact Nat.le_refl _); clear hg1)
      | (refine step_append rfl (.tmp 35) (.tmp 36) rfl W.heap.size _ _ _ rfl hown1 _ [y0, y1, y2, y3] rfl (R5.out.up hb1) (by simp; omega) hb1.size ?_; intro v2 w2 hown2 hg2; have hb2 : Below W.heap.size W w2 := hb1.grown hg2 hb1.size (own_block hown1); clear hg2)
      | (refine step_append rfl (.tmp 37) (.tmp 38) rfl W.heap.size _ _ _ rfl hown2 _ (l0.drop (k + 4)) rfl (R9.out.up (hbW.trans (hb2.mono hbW.size))) (by simp; omega) hb2.size ?_; intro v3 w3 hown3 hg3; have hb3 : Below W.heap.size W w3 := hb2.grown hg3 hb2.size (own_block hown2); have R3 := Lib.hid (rb_own hown3); clear hg3))
    clear hown1 hown2 hown3
    have hb3' : Below w.heap.size w w3 := hbW.trans (hb3.mono hbW.size)
    obtain ⟨s3, k3⟩ : ∃ s : Int, s = ((CrcP.sum (l0.take k ++ [y0, y1, y2, y3] ++ l0.drop (k + 4))).toNat : Int) := ⟨_, rfl⟩
    obtain ⟨s0, k0⟩ : ∃ s : Int, s = ((CrcP.sum l0).toNat : Int) := ⟨_, rfl⟩
    have K3 := Lib.hid k3
    have K0 := Lib.hid k0
    clear k3 k0
    obtain ⟨t3, e3⟩ : ∃ t : ByteArray, t = ⟨(l0.take k ++ [y0, y1, y2, y3] ++ l0.drop (k + 4)).toArray⟩ := ⟨_, rfl⟩
    obtain ⟨t0, e0⟩ : ∃ t : ByteArray, t = ⟨l0.toArray⟩ := ⟨_, rfl⟩
    have htx3 : ∀ u : Up w3.heap.size w3, Sem.run Try.prog (convert 22 9 v3) u.w = .ok (.string t3) u.w := fun u => by
      rw [e3]; exact text_rb _ _ _ (R3.out.up u.below)
    have htx0 : ∀ u : Up w3.heap.size w3, Sem.run Try.prog (convert 22 9 (.slice (some ⟨b, off, none⟩) n0 c0)) u.w = .ok (.string t0) u.w := fun u => by
      rw [e0]; exact text_rb _ _ _ ((H0.out.up hb3').up u.below)
    have hlaw : ((s3 == s0) == (t3.toList == t0.toList)) = true := by
      rw [e3, e0, K3.out, K0.out, sum_beq, text_beq]
      have := four_same (l := l0) (k := k) (d := [y0, y1, y2, y3]) rfl (by rw [E0.out]; exact hk4)
      simp only [this, beq_self_eq_true]
    clear e3 e0
    go_simp
    go_wp2
    refine wp_region_up w3.heap.size w3 (by kernel_rfl) (by kernel_rfl) (Below.refl _ _) ?_
    repeat (go_big_quiet_step (first | (go_at_call_of 9 (v3); exact Calls.up _ (Up.below _).size (sum_named s3 _ K3.out _ _ (by simp; omega) (R3.out.up (Up.below _)))) | (go_at_call 9; exact Calls.up _ (Up.below _).size (sum_named s0 _ K0.out _ _ (by omega) ((H0.out.up hb3').up (Up.below _)))) | (go_at_call 8; exact Calls.up _ (Up.below _).size (told_any _))))
    refine wpQuiet_nil ?_
    rintro wu ⟨⟨_, hu⟩, rfl⟩
    have hbu : Below w.heap.size w wu := hb3'.trans (hu.mono hb3'.size)
    clear htx3 htx0 hlaw
    go_wp2
    go_ret
    exact ⟨rfl, hbu⟩
  · have H0 := Lib.hid h0
    have E0 := Lib.hid e0
    clear h0 e0
    by_cases t1 : 4 ≤ n0
    · have t2 : ¬ n0 ≤ 4200 := fun h => t ⟨t1, h⟩
      clear t
      go_enter Try.func4, Try.ntmps4
      go_wp2_with fail
      refine (told_any _).mono ?_
      rintro e w1 ⟨rfl, hb⟩
      have hbw : Below w.heap.size w w1 := ((Below.refl _ w).alloc (Nat.le_refl _) _).trans (hb.mono (by simp))
      go_wp2_with fail
      go_ret
      exact ⟨rfl, hbw⟩
    · clear t
      go_enter Try.func4, Try.ntmps4
      go_wp2_with fail
      refine (told_any _).mono ?_
      rintro e w1 ⟨rfl, hb⟩
      have hbw : Below w.heap.size w w1 := ((Below.refl _ w).alloc (Nat.le_refl _) _).trans (hb.mono (by simp))
      go_wp2_with fail
      go_ret
      exact ⟨rfl, hbw⟩

end Go.Proofs.Ytelecohcidgjpaa
