/- What the document's put answers: a number more, in order, each once. -/
import Derived.Test.YtjnhkfjhkhbneaaInts
namespace Go.Proofs.Ytjnhkfjhkhbneaa
open Go.RowKit SpanP

theorem OwI.beside {w w' : World} {B : Nat} {v : Value} {l : List Int} {row : Option Nat} (h : OwI w B v l) (hg : w.grownBy w' row) (hrow : ∀ r, row = some r → r < B) : OwI w' B v l := by
  refine World.ownsRow.kept h hg ?_
  cases e : v.ownBlock with
  | none => exact .inl rfl
  | some k =>
    refine .inr fun e2 => ?_
    have h1 := (World.ownsRow.lt h k e).1
    have h2 := hrow k e2.symm
    omega
theorem OwI.empty {w : World} {B g n cap : Nat} {l : List Int} (h : OwI w B (.slice (some ⟨g, 0, none⟩) n cap) l) (o c : Nat) (hc : c ≤ maxLen) : RdI w (.slice (some ⟨g, o, none⟩) 0 c) [] :=
  .inr ⟨g, o, c, rfl, (World.ownsRow.lt h g rfl).2, Nat.zero_le _, hc, fun j u hj => by simp [encI] at hj⟩
theorem OwI.lt {w : World} {B g n cap : Nat} {l : List Int} (h : OwI w B (.slice (some ⟨g, 0, none⟩) n cap) l) : g < w.heap.size := (World.ownsRow.lt h g rfl).2

def PutPost (l : List Int) (n : Int) (B : Nat) (w : World) (e : Ending) (w' : World) : Prop := ∃ v' r, e = .returned v' ∧ OwI w' B v' r ∧ PutP l n r ∧ Below B w w'

set_option maxRecDepth 100000 in
set_option maxHeartbeats 4000000 in
theorem put_any (v : Value) (l : List Int) (n : Int) (B : Nat) (w : World) (ho : OwI w B v l) (hB : B ≤ w.heap.size) (hl : Rise l) (hlen : l.length ≤ 1000) :
    Calls Try.prog 92 #[v, .int .i64 n] w (PutPost l n B w) := by
  have O := Lib.hid ho
  have L := Lib.hid hl
  have HB := Lib.hid hB
  obtain ⟨a, m, cap, rfl, hm, hmc, hcm, ha⟩ : ∃ a m cap, v = .slice a m cap ∧ m = l.length ∧ m ≤ cap ∧ cap ≤ maxLen ∧ ((a = none ∧ l = [] ∧ cap = 0) ∨ ∃ g, a = some ⟨g, 0, none⟩) := by
    rcases ho.parts with ⟨rfl, rfl⟩ | ⟨g, cap, rfl, _, _, h1, h2⟩
    · exact ⟨none, 0, 0, rfl, rfl, by simp, by simp, .inl ⟨rfl, rfl, rfl⟩⟩
    · exact ⟨_, _, cap, rfl, rfl, h1, h2, .inr ⟨g, rfl⟩⟩
  have A := Lib.hid ha
  have M := Lib.hid hm
  have CM := Lib.hid hcm
  have hm1 : m ≤ 1000 := by rw [hm]; exact hlen
  have LL := Lib.hid hlen
  unfold maxLen at hcm
  clear ho hl hB ha hm hlen
  go_enter Try.func92, Try.ntmps92
  go_wp2_with fail
  go_loopg [5] m (fun gg s5 wr => ∃ k : Nat, s5 = .int .i64 k ∧ k ≤ m ∧ m - k ≤ gg ∧ Hid (∀ x ∈ l.take k, x < n) ∧ wr = w)
  case atStart => exact ⟨0, rfl, by omega, by omega, Lib.hid (by simp), rfl⟩
  case round =>
    obtain ⟨k, rfl, hk, hgg, hP, rfl⟩ := hrel
    by_cases hkm : k < m
    · have hkl : k < l.length := by rw [← M.out]; exact hkm
      obtain ⟨g, rfl⟩ : ∃ g, a = some ⟨g, 0, none⟩ := by
        rcases A.out with ⟨_, h, _⟩ | h
        · rw [h] at hkl; simp at hkl
        · exact h
      have c0 := O.out.cell k hkl
      obtain ⟨x, hx⟩ : ∃ x, l[k] = x := ⟨_, rfl⟩
      rw [hx] at c0
      have X := Lib.hid (show l[k]? = some x by rw [← hx]; exact List.getElem?_eq_getElem hkl)
      clear hx
      have hkz : (k : Int) < (m : Int) := by omega
      by_cases hxn : x < n
      · have hP' := Lib.hid (show ∀ z ∈ l.take (k + 1), z < n from fun z hz => by
          rw [List.take_succ_eq_append_getElem hkl] at hz
          rcases List.mem_append.1 hz with hz | hz
          · exact hP.out z hz
          · rw [List.mem_singleton.1 hz]
            have := X.out
            rw [List.getElem?_eq_getElem hkl] at this
            cases this; exact hxn)
        clear hkl
        go_wp2_with fail
        go_roundg (m - (k + 1))
        case measure => omega
        case rel => exact ⟨k + 1, by go_num, by omega, Nat.le_refl _, hP', rfl⟩
      · by_cases hxe : x = n
        · subst hxe
          clear hkl
          go_wp2_with fail
          go_ret
          exact ⟨_, l, rfl, O.out, put_there L.out X.out, Below.refl _ _⟩
        · have TL := Lib.hid (O.out.tail k (m - k) (cap - k) (by rw [List.length_drop, ← M.out]) (by omega) (by have := CM.out; omega))
          have CU := Lib.hid (O.out.cut k (by omega))
          have PT := Lib.hid (put_new (n := n) (k := k) L.out hP.out (fun z hz => by rw [X.out] at hz; cases hz; omega))
          have GL := Lib.hid O.out.lt
          have hkc : ¬ (cap = k) := by omega
          have hkc2 : (k : Int) ≤ (cap : Int) := by omega
          clear hkl
          go_wp2_with (at_builtin; refine wpList_append_i rfl _ _ rfl wr.heap.size _ _ [] (l.drop k) rfl (OwI.nil _ _) rfl TL.out (Nat.le_refl _) (by have := LL.out; simp only [List.length_take, List.length_drop, List.length_append, List.length_singleton, List.length_nil]; omega) ?_)
          intro v1 w1 o1 b1 _
          have O1 := Lib.hid (show OwI w1 wr.heap.size v1 (l.drop k) by simpa using o1)
          have B1 := Lib.hid b1
          clear o1 b1
          go_wp2_with (at_builtin; refine wpList_append_i rfl _ _ rfl B _ _ (l.take k) [n] rfl ((CU.out.kept B1.out).kept (bone _ _)) rfl (RdI.lit _ n) (Nat.le_trans HB.out (Nat.le_trans B1.out.size (bone _ _).size)) (by have := LL.out; simp only [List.length_take, List.length_drop, List.length_append, List.length_singleton, List.length_nil]; omega) ?_)
          intro v2 w2 o2 b2 g2
          have O2 := Lib.hid o2
          have B2 := Lib.hid (Below.trans ((B1.out.mono HB.out).trans ((bone _ _).mono (Nat.le_trans HB.out B1.out.size))) b2)
          have R2 := Lib.hid ((O1.out.kept (bone _ _)).beside g2 (fun r hr => by cases hr; exact GL.out))
          clear o2 b2 g2
          go_wp2_with (at_builtin; refine wpList_append_i rfl _ _ rfl B _ _ (l.take k ++ [n]) (l.drop k) rfl O2.out rfl R2.out.rd (Nat.le_trans HB.out B2.out.size) (by have := LL.out; simp only [List.length_take, List.length_drop, List.length_append, List.length_singleton, List.length_nil]; omega) ?_)
          intro v3 w3 o3 b3 _
          have O3 := Lib.hid o3
          have B3 := Lib.hid (B2.out.trans b3)
          clear o3 b3
          go_wp2_with fail
          go_ret
          exact ⟨_, _, rfl, O3.out, by first | exact PT.out | simpa using PT.out, B3.out⟩
    · obtain rfl : k = m := by omega
      have hkz : ¬ (k : Int) < (k : Int) := by omega
      have PT := Lib.hid (put_new (n := n) (k := k) L.out hP.out (fun z hz => by rw [List.getElem?_eq_none (by rw [← M.out]; exact Nat.le_refl _)] at hz; cases hz))
      have hd : l.drop k = [] := List.drop_eq_nil_of_le (by rw [← M.out]; exact Nat.le_refl _)
      have D := Lib.hid hd
      clear hd
      rcases A.out with ⟨rfl, hl0, rfl⟩ | ⟨g, rfl⟩
      · obtain rfl : k = 0 := by rw [M.out, hl0]; rfl
        have TL := Lib.hid (show RdI wr (.slice none 0 0) (l.drop 0) from .inl ⟨rfl, by rw [D.out]⟩)
        have CU := Lib.hid (show OwI wr B (.slice none 0 0) (l.take 0) by rw [List.take_zero]; exact OwI.nil _ _)
        clear hl0
        go_wp2_with (at_builtin; refine wpList_append_i rfl _ _ rfl wr.heap.size _ _ [] (l.drop 0) rfl (OwI.nil _ _) rfl TL.out (Nat.le_refl _) (by have := LL.out; simp only [List.length_take, List.length_drop, List.length_append, List.length_singleton, List.length_nil]; omega) ?_)
        intro v1 w1 o1 b1 _
        have O1 := Lib.hid (show OwI w1 wr.heap.size v1 (l.drop 0) by simpa using o1)
        have B1 := Lib.hid b1
        clear o1 b1
        go_wp2_with (at_builtin; refine wpList_append_i rfl _ _ rfl B _ _ (l.take 0) [n] rfl ((CU.out.kept B1.out).kept (bone _ _)) rfl (RdI.lit _ n) (Nat.le_trans HB.out (Nat.le_trans B1.out.size (bone _ _).size)) (by have := LL.out; simp only [List.length_take, List.length_drop, List.length_append, List.length_singleton, List.length_nil]; omega) ?_)
        intro v2 w2 o2 b2 g2
        have O2 := Lib.hid o2
        have B2 := Lib.hid (Below.trans ((B1.out.mono HB.out).trans ((bone _ _).mono (Nat.le_trans HB.out B1.out.size))) b2)
        have R2 := Lib.hid ((O1.out.kept (bone _ _)).beside g2 (fun r hr => by cases hr))
        clear o2 b2 g2
        go_wp2_with (at_builtin; refine wpList_append_i rfl _ _ rfl B _ _ (l.take 0 ++ [n]) (l.drop 0) rfl O2.out rfl R2.out.rd (Nat.le_trans HB.out B2.out.size) (by have := LL.out; simp only [List.length_take, List.length_drop, List.length_append, List.length_singleton, List.length_nil]; omega) ?_)
        intro v3 w3 o3 b3 _
        have O3 := Lib.hid o3
        have B3 := Lib.hid (B2.out.trans b3)
        clear o3 b3
        go_wp2_with fail
        go_ret
        exact ⟨_, _, rfl, O3.out, by first | exact PT.out | simpa using PT.out, B3.out⟩
      · have CU := Lib.hid (O.out.cut k (by rw [← M.out]; exact Nat.le_refl _))
        have GL := Lib.hid O.out.lt
        by_cases hkc : cap = k
        · subst hkc
          have TL := Lib.hid (show RdI wr (.slice (some ⟨g, 0, none⟩) 0 0) (l.drop cap) by rw [D.out]; exact O.out.empty 0 0 (by simp))
          go_wp2_with (at_builtin; refine wpList_append_i rfl _ _ rfl wr.heap.size _ _ [] (l.drop cap) rfl (OwI.nil _ _) rfl TL.out (Nat.le_refl _) (by have := LL.out; simp only [List.length_take, List.length_drop, List.length_append, List.length_singleton, List.length_nil]; omega) ?_)
          intro v1 w1 o1 b1 _
          have O1 := Lib.hid (show OwI w1 wr.heap.size v1 (l.drop cap) by simpa using o1)
          have B1 := Lib.hid b1
          clear o1 b1
          go_wp2_with (at_builtin; refine wpList_append_i rfl _ _ rfl B _ _ (l.take cap) [n] rfl ((CU.out.kept B1.out).kept (bone _ _)) rfl (RdI.lit _ n) (Nat.le_trans HB.out (Nat.le_trans B1.out.size (bone _ _).size)) (by have := LL.out; simp only [List.length_take, List.length_drop, List.length_append, List.length_singleton, List.length_nil]; omega) ?_)
          intro v2 w2 o2 b2 g2
          have O2 := Lib.hid o2
          have B2 := Lib.hid (Below.trans ((B1.out.mono HB.out).trans ((bone _ _).mono (Nat.le_trans HB.out B1.out.size))) b2)
          have R2 := Lib.hid ((O1.out.kept (bone _ _)).beside g2 (fun r hr => by cases hr; exact GL.out))
          clear o2 b2 g2
          go_wp2_with (at_builtin; refine wpList_append_i rfl _ _ rfl B _ _ (l.take cap ++ [n]) (l.drop cap) rfl O2.out rfl R2.out.rd (Nat.le_trans HB.out B2.out.size) (by have := LL.out; simp only [List.length_take, List.length_drop, List.length_append, List.length_singleton, List.length_nil]; omega) ?_)
          intro v3 w3 o3 b3 _
          have O3 := Lib.hid o3
          have B3 := Lib.hid (B2.out.trans b3)
          clear o3 b3
          go_wp2_with fail
          go_ret
          exact ⟨_, _, rfl, O3.out, by first | exact PT.out | simpa using PT.out, B3.out⟩
        · have TL := Lib.hid (show RdI wr (.slice (some ⟨g, k, none⟩) 0 (cap - k)) (l.drop k) by rw [D.out]; exact O.out.empty k (cap - k) (by have := CM.out; omega))
          have hkc2 : (k : Int) ≤ (cap : Int) := by omega
          go_wp2_with (at_builtin; refine wpList_append_i rfl _ _ rfl wr.heap.size _ _ [] (l.drop k) rfl (OwI.nil _ _) rfl TL.out (Nat.le_refl _) (by have := LL.out; simp only [List.length_take, List.length_drop, List.length_append, List.length_singleton, List.length_nil]; omega) ?_)
          intro v1 w1 o1 b1 _
          have O1 := Lib.hid (show OwI w1 wr.heap.size v1 (l.drop k) by simpa using o1)
          have B1 := Lib.hid b1
          clear o1 b1
          go_wp2_with (at_builtin; refine wpList_append_i rfl _ _ rfl B _ _ (l.take k) [n] rfl ((CU.out.kept B1.out).kept (bone _ _)) rfl (RdI.lit _ n) (Nat.le_trans HB.out (Nat.le_trans B1.out.size (bone _ _).size)) (by have := LL.out; simp only [List.length_take, List.length_drop, List.length_append, List.length_singleton, List.length_nil]; omega) ?_)
          intro v2 w2 o2 b2 g2
          have O2 := Lib.hid o2
          have B2 := Lib.hid (Below.trans ((B1.out.mono HB.out).trans ((bone _ _).mono (Nat.le_trans HB.out B1.out.size))) b2)
          have R2 := Lib.hid ((O1.out.kept (bone _ _)).beside g2 (fun r hr => by cases hr; exact GL.out))
          clear o2 b2 g2
          go_wp2_with (at_builtin; refine wpList_append_i rfl _ _ rfl B _ _ (l.take k ++ [n]) (l.drop k) rfl O2.out rfl R2.out.rd (Nat.le_trans HB.out B2.out.size) (by have := LL.out; simp only [List.length_take, List.length_drop, List.length_append, List.length_singleton, List.length_nil]; omega) ?_)
          intro v3 w3 o3 b3 _
          have O3 := Lib.hid o3
          have B3 := Lib.hid (B2.out.trans b3)
          clear o3 b3
          go_wp2_with fail
          go_ret
          exact ⟨_, _, rfl, O3.out, by first | exact PT.out | simpa using PT.out, B3.out⟩
end Go.Proofs.Ytjnhkfjhkhbneaa
