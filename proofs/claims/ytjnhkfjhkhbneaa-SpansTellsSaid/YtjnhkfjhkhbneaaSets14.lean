/- What the iterator of spans.both hands on. -/
import Derived.RangeFuncNested
import Derived.RangeFuncBound
import Derived.RangeFuncCalls
import Derived.RangeFuncLeaves
import Derived.Shelf.Abstract
import Derived.Shelf.AbstractIn
import Derived.Shelf.RegionOpen
import Derived.WalkKit
import Derived.OwnWalkIn
import Derived.TacticsInMore
import Derived.LoopNIn
import Derived.LoopIn
import Derived.Test.YtjnhkfjhkhbneaaSets13
namespace Go.Proofs.Ytjnhkfjhkhbneaa
open Go.RowKit SpanP
attribute [local go_sem] Oper.semAt_some

/-- the row that the slice in block L's cell points to -/
def rowAt (L : Nat) (W : World) : Option Nat :=
  match W.heap[L]? with
  | some (.cells c _ _) => (c[0]?).bind Value.ownBlock
  | _ => none
/-- what a round of the loop keeps -/
structure KpO (n₀ L : Nat) (A B : World) : Prop where
  below : Below n₀ A B
  cells : ∀ k cs t f, A.heap[k]? = some (.cells cs t f) → k ≠ L → rowAt L A ≠ some k → B.heap[k]? = A.heap[k]?
  row : ∀ k, rowAt L B = some k → rowAt L A = some k ∨ (A.heap.size ≤ k ∧ k < B.heap.size)
theorem rowAt_same {L : Nat} {A B : World} (h : B.heap[L]? = A.heap[L]?) : rowAt L B = rowAt L A := by unfold rowAt; rw [h]
theorem KpO.trans {n₀ L : Nat} {A B C : World} (h : KpO n₀ L A B) (k : KpO n₀ L B C) : KpO n₀ L A C where
  below := h.below.trans k.below
  cells := fun x cs t f hx h1 h2 => by
    have hlt := heap_lt hx
    have e := h.cells x cs t f hx h1 h2
    rw [k.cells x cs t f (e.trans hx) h1 (fun hr => by
      rcases h.row x hr with h' | h'
      · exact h2 h'
      · omega), e]
  row := fun x hx => by
    have s1 := h.below.size
    have s2 := k.below.size
    rcases k.row x hx with h' | h'
    · rcases h.row x h' with h'' | h''
      · exact .inl h''
      · exact .inr ⟨h''.1, by omega⟩
    · exact .inr ⟨by omega, h'.2⟩
theorem KpO.of_below {n₀ L : Nat} {A B : World} (h : Below A.heap.size A B) (hn : n₀ ≤ A.heap.size) (hL : L < A.heap.size) : KpO n₀ L A B where
  below := h.mono hn
  cells := fun k cs t f hk _ _ => h.block k (heap_lt hk)
  row := fun k hk => .inl (by rwa [rowAt_same (h.block L hL)] at hk)
theorem KpO.put {n₀ L s : Nat} (hn : n₀ ≤ s) (hL : L < s) (W : World) (l : Nat) (o o' : Obj) (hl : s ≤ l) (ho : W.heap[l]? = some o) (hc : o.isCells = false) : KpO n₀ L W (W.putObj l o') where
  below := ⟨rfl, rfl, rfl, by simp, fun k hk => World.putObj_heap_other (by omega)⟩
  cells := fun k cs t f hk _ _ => World.putObj_heap_other (fun e => by subst e; rw [hk] at ho; cases ho; cases hc)
  row := fun k hk => .inl (by rwa [rowAt_same (World.putObj_heap_other (by omega))] at hk)
theorem KpO.cell {n₀ L : Nat} {A B : World} (h : KpO n₀ L A B) {p : Addr} {v : Value} (hp : A.cell? p = some v) (h1 : p.block ≠ L) (h2 : rowAt L A ≠ some p.block) : B.cell? p = some v := by
  have hb : ∃ cs t f, A.heap[p.block]? = some (.cells cs t f) := by
    unfold World.cell? at hp
    split at hp
    · rename_i c e f he; exact ⟨c, e, f, he⟩
    · cases hp
  obtain ⟨cs, t, f, hb⟩ := hb
  rw [World.cell?_of_block (h.cells _ cs t f hb h1 h2)]
  exact hp
/-- a slice that reads as a list, in a block that no round turns -/
def RdP (L : Nat) (w : World) (v : Value) (l : List Sp) : Prop := Rd w v l ∧ ∀ k, v.ownBlock = some k → k ≠ L ∧ rowAt L w ≠ some k
theorem RdP.keep {n₀ L : Nat} {A B : World} {v : Value} {l : List Sp} (h : RdP L A v l) (hk : KpO n₀ L A B) : RdP L B v l := by
  obtain ⟨h0, h1⟩ := h
  rcases h0 with hn | ⟨b, off, cap, rfl, hlt, h2, h3, h4⟩
  · obtain ⟨rfl, rfl⟩ := hn
    exact ⟨Rd.nil _, fun k e => by cases e⟩
  · have hb := h1 b rfl
    refine ⟨.inr ⟨b, off, cap, rfl, Nat.lt_of_lt_of_le hlt hk.below.size, h2, h3, fun j u hj => hk.cell (h4 j u hj) hb.1 hb.2⟩, fun k e => ?_⟩
    have : b = k := by simpa [Value.ownBlock] using e
    subst this
    refine ⟨hb.1, fun hr => ?_⟩
    rcases hk.row b hr with h' | h'
    · exact hb.2 h'
    · omega
theorem Below.grownNone {w w' : World} (h : Below w.heap.size w w') : w.grownBy w' none := ⟨h.os, h.tape, h.output, h.size, fun k hk _ => h.block k hk⟩

theorem pairL_take_step {x : Sp} {b : List Sp} {j : Nat} (hj : j < b.length) : pairL x (b.take (j + 1)) = pairL x (b.take j) ++ [andS x b[j]].filter neS := by
  unfold pairL
  rw [List.take_succ_eq_append_getElem hj, List.map_append, List.filter_append]; rfl
theorem pairsL_take_step {a b : List Sp} {i : Nat} (hi : i < a.length) : pairsL (a.take (i + 1)) b = pairsL (a.take i) b ++ pairL a[i] b := by
  unfold pairsL
  rw [List.take_succ_eq_append_getElem hi, List.flatMap_append]; simp
theorem pairL_mono (x : Sp) (b : List Sp) (j : Nat) : (pairL x (b.take j)).length ≤ (pairL x b).length := by
  have : (pairL x (b.take j)).Sublist (pairL x b) := ((List.take_sublist j b).map _).filter _
  exact this.length_le
theorem pairsL_mono (a b : List Sp) (i : Nat) : (pairsL (a.take i) b).length ≤ (pairsL a b).length := by
  have h : pairsL a b = pairsL (a.take i) b ++ pairsL (a.drop i) b := by
    unfold pairsL
    rw [← List.flatMap_append, List.take_append_drop]
  rw [h, List.length_append]; omega
theorem pairs_lt {a b : List Sp} {i j : Nat} (hi : i < a.length) (hj : j < b.length) (hn : neS (andS a[i] b[j]) = true) : (pairsL (a.take i) b ++ pairL a[i] (b.take j)).length < (pairsL a b).length := by
  have h1 := pairsL_mono a b (i + 1)
  rw [pairsL_take_step hi, List.length_append] at h1
  have h2 := pairL_mono a[i] b (j + 1)
  rw [pairL_take_step hj, List.filter_cons_of_pos hn, List.length_append, List.filter_nil, List.length_singleton] at h2
  rw [List.length_append]; omega

set_option maxRecDepth 100000 in
set_option maxHeartbeats 4000000 in
theorem both1_in (n : Nat) (hn : 1 ≤ n) (l A B n₀ L : Nat) (va vb : Value) (a b : List Sp) (J Jx : List Sp → World → Prop) (W : World)
    (hY : ∀ pre x W, J pre W → pre.length < (pairsL a b).length → YieldAt Fence.wide (n - 1) Try.prog l #[.agg #[.int .i64 x.1, .int .i64 x.2]] W fun e W' =>
      (e = .returned (.bool true) ∧ J (pre ++ [x]) W' ∧ KpO n₀ L W W') ∨ (e = .returned (.bool false) ∧ Jx (pre ++ [x]) W'))
    (hJ : AbidesFrom W.heap.size J)
    (hn₀ : n₀ ≤ W.heap.size) (hL : L < W.heap.size) (hrow : ∀ k, rowAt L W = some k → k < W.heap.size)
    (cA : W.cell? ⟨A, 0, none⟩ = some va) (cB : W.cell? ⟨B, 0, none⟩ = some vb) (hB : B ≠ L ∧ rowAt L W ≠ some B) (hra : RdP L W va a) (hrb : RdP L W vb b) (h0 : J [] W) :
    CallsIn Fence.wide n Try.prog 76 #[.func (.yield l) #[] #[], .pointer (some ⟨A, 0, none⟩), .pointer (some ⟨B, 0, none⟩)] W fun e W' => (∃ v, e = .returned v) ∧
      ((∃ ys, ys = pairsL a b ∧ J ys W') ∨ (∃ pre, True ∧ Jx pre W')) := by
  have f13 : Fence.wide.fn 13 := trivial
  have f15 : Fence.wide.fn 15 := trivial
  have f76 : Fence.wide.fn 76 := trivial
  have RA := Lib.hid hra
  have RB := Lib.hid hrb
  obtain ⟨aa, ca, rfl, ha1, ha2, hfa⟩ := hra.1.shape
  obtain ⟨ab, cb, rfl, hb1, hb2, hfb⟩ := hrb.1.shape
  have FA := Lib.hid hfa
  have FB := Lib.hid hfb
  unfold maxLen at ha2 hb2
  obtain ⟨na, hna⟩ : ∃ m, m = a.length := ⟨_, rfl⟩
  obtain ⟨nb, hnb⟩ : ∃ m, m = b.length := ⟨_, rfl⟩
  have NA := Lib.hid hna
  have NB := Lib.hid hnb
  rw [← hna] at RA ha1 cA
  rw [← hnb] at RB hb1 cB
  have CB := Lib.hid cB
  have HB := Lib.hid hB
  have HY := Lib.hid hY
  have HJ := Lib.hid hJ
  have HR := Lib.hid hrow
  clear hna hnb hra hrb hfa hfb hY hJ cB hB hrow
  refine callsIn_of_wp Try.func76 rfl f76 ?_ rfl
  simp only [Try.ntmps76, List.size_toArray, List.length_cons, List.length_nil, Nat.reduceAdd, Nat.reduceSub, Array.replicate_succ, Array.replicate_zero, List.push_toArray, List.append_toArray, List.nil_append, List.cons_append]
  gi_wp2
  obtain ⟨W0, hW0⟩ : ∃ W0, W0 = W := ⟨_, rfl⟩
  subst hW0
  gi_loopw [11] (fun i wr => ∃ k : Nat, k ≤ na ∧ i = .int .i64 k ∧ Hid (J (pairsL (a.take k) b) wr) ∧ Hid (KpO n₀ L W0 wr)) (fun i _ => na - (intOf i).toNat)
  case atStart => exact ⟨0, Nat.zero_le _, rfl, Lib.hid (by simpa [pairsL] using h0), Lib.hid (KpO.of_below (Below.refl _ _) hn₀ hL)⟩
  case round =>
    obtain ⟨k, hk, rfl, hJs, hK⟩ := hrel
    have hsz : W0.heap.size ≤ wr.heap.size := hK.out.below.size
    by_cases hkn : k < na
    · have hkl : k < a.length := by rw [← NA.out]; exact hkn
      obtain ⟨ba, oa, rfl⟩ := FA.out (by intro h; rw [h] at hkl; simp at hkl)
      have c0 := (RA.out.keep hK.out).1.cell0 k hkl
      have c1 := (RA.out.keep hK.out).1.cell1 k hkl
      have cb0 : wr.cell? ⟨B, 0, none⟩ = some (.slice ab nb cb) := hK.out.cell CB.out HB.out.1 HB.out.2
      obtain ⟨x, hx⟩ : ∃ x, a[k] = x := ⟨_, rfl⟩
      rw [hx] at c0 c1
      have X := Lib.hid (show ∃ h : k < a.length, a[k] = x from ⟨hkl, hx⟩)
      clear hx hkl
      obtain ⟨xf, xt⟩ := x
      dsimp only at c0 c1
      have hkz : (k : Int) < (na : Int) := by omega
      have cb1 : (wr.alloc (.cells #[.int .i64 xf, .int .i64 xt] 23)).cell? ⟨B, 0, none⟩ = some (.slice ab nb cb) := Lib.cell?_alloc_some _ cb0
      gi_wp2
      obtain ⟨W1, hW1⟩ : ∃ W1, W1 = wr := ⟨_, rfl⟩
      subst hW1
      have hax := (Below.refl _ W1).alloc (Nat.le_refl _) (.cells #[.int .i64 xf, .int .i64 xt] 23)
      obtain ⟨Wx, hWx⟩ : ∃ Wx, Wx = W1.alloc (.cells #[.int .i64 xf, .int .i64 xt] 23) := ⟨_, rfl⟩
      have hxb : Wx.heap[W1.heap.size]? = some (.cells #[.int .i64 xf, .int .i64 xt] 23) := by rw [hWx]; exact heap_alloc_new _ _
      have hJx : J (pairsL (a.take k) b) Wx := by rw [hWx]; exact HJ.out _ _ _ none hJs.out (World.grownBy_alloc _ _ _) (fun r e => by cases e)
      have hKx1 : KpO n₀ L W1 Wx := by rw [hWx]; exact KpO.of_below hax (by omega) (by omega)
      have hKx := hK.out.trans hKx1
      have hxr : rowAt L Wx ≠ some W1.heap.size := by
        rw [hWx, rowAt_same (hax.block L (by omega))]
        intro e
        rcases hK.out.row _ e with h' | h'
        · have := HR.out _ h'
          omega
        · omega
      rw [← hWx]
      obtain ⟨XB, hXB⟩ : ∃ XB, XB = W1.heap.size := ⟨_, rfl⟩
      rw [← hXB] at hxb hxr ⊢
      have hXL : XB ≠ L := by omega
      have hszx : W0.heap.size ≤ Wx.heap.size := hKx.below.size
      have JX := Lib.hid hJx
      have KX := Lib.hid hKx
      have XX := Lib.hid (And.intro hxb (And.intro hXL hxr))
      clear hWx hax hxb hJx hKx hKx1 hxr hXB hXL hJs c0 c1 cb0 cb1
      gi_loopw [17] (fun j wr => ∃ m : Nat, m ≤ nb ∧ j = .int .i64 m ∧ Hid (J (pairsL (a.take k) b ++ pairL (xf, xt) (b.take m)) wr) ∧ Hid (KpO n₀ L Wx wr)) (fun j _ => nb - (intOf j).toNat)
      case atStart => exact ⟨0, Nat.zero_le _, rfl, Lib.hid (by simpa [pairL] using JX.out), Lib.hid (KpO.of_below (Below.refl _ _) (by omega) (by omega))⟩
      case round =>
        obtain ⟨m, hm, rfl, hJm, hKm⟩ := hrel
        have hszm : Wx.heap.size ≤ wr.heap.size := hKm.out.below.size
        have x0 : wr.cell? ⟨XB, 0, none⟩ = some (.int .i64 xf) := hKm.out.cell (by rw [cell_of_row _ _ _ _ _ _ XX.out.1]; rfl) XX.out.2.1 XX.out.2.2
        have x1 : wr.cell? ⟨XB, 1, none⟩ = some (.int .i64 xt) := hKm.out.cell (by rw [cell_of_row _ _ _ _ _ _ XX.out.1]; rfl) XX.out.2.1 XX.out.2.2
        by_cases hmn : m < nb
        · have hml : m < b.length := by rw [← NB.out]; exact hmn
          obtain ⟨bb, ob, rfl⟩ := FB.out (by intro h; rw [h] at hml; simp at hml)
          have d0 := ((RB.out.keep KX.out).keep hKm.out).1.cell0 m hml
          have d1 := ((RB.out.keep KX.out).keep hKm.out).1.cell1 m hml
          obtain ⟨y, hy⟩ : ∃ y, b[m] = y := ⟨_, rfl⟩
          rw [hy] at d0 d1
          have Y := Lib.hid (show ∃ h : m < b.length, b[m] = y from ⟨hml, hy⟩)
          clear hy hml
          obtain ⟨yf, yt⟩ := y
          dsimp only at d0 d1
          have hmz : (m : Int) < (nb : Int) := by omega
          have x0a : (wr.alloc (.cells #[.int .i64 yf, .int .i64 yt] 23)).cell? ⟨XB, 0, none⟩ = some (.int .i64 xf) := Lib.cell?_alloc_some _ x0
          have x1a : (wr.alloc (.cells #[.int .i64 yf, .int .i64 yt] 23)).cell? ⟨XB, 1, none⟩ = some (.int .i64 xt) := Lib.cell?_alloc_some _ x1
          obtain ⟨F, hF⟩ : ∃ F, andF xf xt yf yt = F := ⟨_, rfl⟩
          obtain ⟨T, hT⟩ : ∃ T, andT xf xt yf yt = T := ⟨_, rfl⟩
          have FT := Lib.hid (And.intro hF hT)
          clear hF hT
          gi_wp2
          have hay := (Below.refl _ wr).alloc (Nat.le_refl _) (.cells #[.int .i64 yf, .int .i64 yt] 23)
          refine (callsIn_wide.2 (and_as xf xt yf yt F T FT.out.1 FT.out.2 _)).mono ?_
          rintro e w3 ⟨rfl, b3⟩
          have h3 := hay.trans (b3.mono (by simp))
          have H3 := Lib.hid h3
          clear hay b3 h3 x0 x1 x0a x1a d0 d1
          gi_wp2
          cases hq : emptyB F T with
          | true =>
            refine (callsIn_wide.2 (empty_as F T _ hq _)).mono ?_
            rintro e w4 ⟨rfl, b4⟩
            have h4 := H3.out.trans ((((Below.refl _ w3).alloc (Nat.le_refl _) (.cells #[.int .i64 F, .int .i64 T] 23)).trans (b4.mono (by simp))).mono H3.out.size)
            have J4 := Lib.hid (HJ.out _ _ _ none hJm.out (Below.grownNone h4) (fun r e => by cases e))
            have K4 := Lib.hid (hKm.out.trans (KpO.of_below h4 (by omega) (by omega)))
            clear b4 h4 H3
            gi_wp2
            refine ⟨fun _ h => (by cases h), ?_⟩
            gi_wp2
            go_roundw
            case rel =>
              obtain ⟨h1, h2⟩ := Y.out
              refine ⟨m + 1, by omega, by simp, Lib.hid ?_, K4⟩
              rw [pairL_take_step h1, h2, List.filter_cons_of_neg (by rw [Bool.not_eq_true, neS, andS, FT.out.1, FT.out.2]; simp [hq]), List.filter_nil, List.append_nil]
              exact J4.out
            case measure => simp [intOf]; omega
          | false =>
            refine (callsIn_wide.2 (empty_as F T _ hq _)).mono ?_
            rintro e w4 ⟨rfl, b4⟩
            have h4 := H3.out.trans ((((Below.refl _ w3).alloc (Nat.le_refl _) (.cells #[.int .i64 F, .int .i64 T] 23)).trans (b4.mono (by simp))).mono H3.out.size)
            have hs4 := heap_keep b4 (heap_alloc_new w3 (.cells #[.int .i64 F, .int .i64 T] 23))
            have s0 : w4.cell? ⟨w3.heap.size, 0, none⟩ = some (.int .i64 F) := by rw [cell_of_row _ _ _ _ _ _ hs4]; rfl
            have s1 : w4.cell? ⟨w3.heap.size, 1, none⟩ = some (.int .i64 T) := by rw [cell_of_row _ _ _ _ _ _ hs4]; rfl
            have hJ4 : J (pairsL (a.take k) b ++ pairL (xf, xt) (b.take m)) w4 := HJ.out _ _ _ none hJm.out (Below.grownNone h4) (fun r e => by cases e)
            have hlt : (pairsL (a.take k) b ++ pairL (xf, xt) (b.take m)).length < (pairsL a b).length := by
              obtain ⟨g1, g2⟩ := X.out
              obtain ⟨h1, h2⟩ := Y.out
              have := pairs_lt g1 h1 (by rw [g2, h2, andS, FT.out.1, FT.out.2, neS]; simp [hq])
              rwa [g2] at this
            have K4 := Lib.hid (hKm.out.trans (KpO.of_below h4 (by omega) (by omega)))
            obtain ⟨fn, tmps, assign, body, hy, hR⟩ := HY.out _ (F, T) w4 hJ4 hlt
            dsimp only at hy
            clear b4 h4 H3 hs4 hJ4 hlt
            gi_wp2
            refine hR.mono ?_
            rintro e w5 (⟨rfl, hJ5, hk5⟩ | ⟨rfl, hJx5⟩)
            · have J5 := Lib.hid hJ5
              have K5 := Lib.hid (K4.out.trans hk5)
              clear hJ5 hk5 s0 s1
              gi_wp2
              go_roundw
              case rel =>
                obtain ⟨h1, h2⟩ := Y.out
                refine ⟨m + 1, by omega, by simp, Lib.hid ?_, K5⟩
                rw [pairL_take_step h1, h2, List.filter_cons_of_pos (by rw [neS, andS, FT.out.1, FT.out.2]; simp [hq]), List.filter_nil, ← List.append_assoc, andS, FT.out.1, FT.out.2]
                exact J5.out
              case measure => simp [intOf]; omega
            · have J5 := Lib.hid hJx5
              clear hJx5 s0 s1
              gi_wp2
              refine bodyPost_ret (results_none rfl _ _ _) rfl ?_
              exact ⟨⟨_, rfl⟩, .inr ⟨_, trivial, J5.out⟩⟩
        · obtain rfl : m = nb := by omega
          have hmz : ¬ (m : Int) < (m : Int) := by omega
          have hj := hJm.out
          have et : b.take m = b := List.take_of_length_le (by rw [← NB.out]; exact Nat.le_refl _)
          rw [et] at hj
          have JJ := Lib.hid hj
          have KK := Lib.hid (KX.out.trans hKm.out)
          clear hj hJm hKm x0 x1
          gi_wp2
          go_roundw
          case rel =>
            obtain ⟨h1, h2⟩ := X.out
            refine ⟨k + 1, by omega, by simp, Lib.hid ?_, KK⟩
            rw [pairsL_take_step h1, h2]
            exact JJ.out
          case measure => simp [intOf]; omega
    · obtain rfl : k = na := by omega
      have hkz : ¬ (k : Int) < (k : Int) := by omega
      have hj := hJs.out
      rw [List.take_of_length_le (by rw [← NA.out]; exact Nat.le_refl _)] at hj
      have JJ := Lib.hid hj
      clear hj hJs
      gi_wp2
      go_end0
      exact ⟨⟨_, rfl⟩, .inl JJ.out⟩
end Go.Proofs.Ytjnhkfjhkhbneaa
