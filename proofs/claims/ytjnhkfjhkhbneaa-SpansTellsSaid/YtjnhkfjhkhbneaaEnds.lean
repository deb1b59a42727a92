/- What the document's ends answers: all ends of spans that are not empty, rising, each once. -/
import Derived.Test.YtjnhkfjhkhbneaaPut
import Derived.Deep.RegionHeld3
namespace Go.Proofs.Ytjnhkfjhkhbneaa
open Go.RowKit SpanP

theorem putP_rise {l r : List Int} {n : Int} (h : PutP l n r) : Rise r := h.1
theorem putP_len {l r : List Int} {n : Int} (h : PutP l n r) : r.length ≤ l.length + 1 := h.2.2
def EndsPost (l : List Sp) (w : World) (e : Ending) (w' : World) : Prop := ∃ v' c, e = .returned v' ∧ OwI w' w.heap.size v' c ∧ EndsP l c ∧ Below w.heap.size w w'

set_option maxRecDepth 100000 in
set_option maxHeartbeats 4000000 in
theorem ends_any (v : Value) (l : List Sp) (w : World) (hr : Rd w v l) (hlen : l.length ≤ 100) :
    Calls Try.prog 81 #[v] w (EndsPost l w) := by
  have R := Lib.hid hr
  obtain ⟨a, cap, rfl, hn1, hn2, hf⟩ := hr.shape
  have F := Lib.hid hf
  unfold maxLen at hn2
  obtain ⟨n, hn⟩ : ∃ n, n = l.length := ⟨_, rfl⟩
  have N := Lib.hid hn
  have hn3 : n ≤ 100 := by rw [hn]; exact hlen
  rw [← hn] at R hn1 ⊢
  clear hn hr hf hlen
  go_enter Try.func81, Try.ntmps81
  go_wp2_with fail
  go_loopg [3, 4] n (fun gg s3 s4 wr => ∃ (k : Nat) (vo : Value) (c : List Int), s3 = vo ∧ s4 = .int .i64 k ∧ k ≤ n ∧ n - k ≤ gg ∧ Hid (OwI wr w.heap.size vo c) ∧ Hid (EndsP (l.take k) c) ∧ Hid (Below w.heap.size w wr))
  case atStart => exact ⟨0, .slice none 0 0, [], rfl, rfl, by omega, by omega, Lib.hid (OwI.nil _ _), Lib.hid EndsP.nil, Lib.hid (Below.refl _ _)⟩
  case round =>
    obtain ⟨k, vo, c, rfl, rfl, hk, hgg, hO, hE, hB⟩ := hrel
    by_cases hkn : k < n
    · have hkl : k < l.length := by rw [← N.out]; exact hkn
      obtain ⟨bb, ob, rfl⟩ := F.out (by intro h; rw [h] at hkl; simp at hkl)
      have rr := R.out.below hB.out
      have c0 := rr.cell0 k hkl
      have c1 := rr.cell1 k hkl
      obtain ⟨x, hx⟩ : ∃ x, l[k] = x := ⟨_, rfl⟩
      rw [hx] at c0 c1
      have X := Lib.hid (show l[k]? = some x by rw [← hx]; exact List.getElem?_eq_getElem hkl)
      clear hx hkl rr
      obtain ⟨f, t⟩ := x
      dsimp only at c0 c1 X
      have hkz : (k : Int) < (n : Int) := by omega
      have hk0 : (0 : Int) ≤ (k : Int) := by omega
      have CL := Lib.hid (show c.length ≤ 200 by have h1 := hE.out.2.2; have h2 : (l.take k).length ≤ k := List.length_take_le _ _; omega)
      by_cases hft : f < t
      · go_wp2_with fail
        go_region
        go_wp2_with fail
        obtain ⟨w5, hw5⟩ : ∃ x, x = wr.drew := ⟨_, rfl⟩
        have B5 := Lib.hid (show Below w.heap.size w w5 by rw [hw5]; exact hB.out.drew)
        have O5 := Lib.hid (show OwI w5 w.heap.size u3 c by rw [hw5]; exact hO.out.kept (Below.refl _ _).drew)
        rw [← hw5]
        have d0 : w5.cell? ⟨bb, ob + k * 2, none⟩ = some (.int .i64 f) := by rw [hw5]; exact c0
        have d1 : w5.cell? ⟨bb, ob + k * 2 + 1, none⟩ = some (.int .i64 t) := by rw [hw5]; exact c1
        clear hw5 c0 c1 hO hB
        have hbb : bb < w.heap.size := by
          rcases R.out.parts with ⟨e, _⟩ | ⟨b', _, _, e, h, _⟩
          · cases e
          · simp only [Value.slice.injEq, Option.some.injEq, Addr.mk.injEq, and_true] at e; rw [e.1.1]; exact h
        have OD := Lib.hid (show OwI w5.drew w.heap.size u3 c from O5.out.kept (Below.refl _ _).drew)
        have SZ := Lib.hid (show w.heap.size ≤ w5.drew.heap.size from B5.out.size)
        have RS := Lib.hid (show Rise c from hE.out.1)
        have CL2 := Lib.hid (show c.length ≤ 1000 by have := CL.out; omega)
        go_region_held3 (fun w' => w'.cell? ⟨bb, ob + k * 2, none⟩ = some (.int .i64 f) ∧ w'.cell? ⟨bb, ob + k * 2 + 1, none⟩ = some (.int .i64 t))
          (first
            | exact ⟨d0, d1⟩
            | exact ⟨(b7.cell (p := ⟨bb, ob + k * 2, none⟩) hbb).trans ((b6.cell (p := ⟨bb, ob + k * 2, none⟩) hbb).trans d0), (b7.cell (p := ⟨bb, ob + k * 2 + 1, none⟩) hbb).trans ((b6.cell (p := ⟨bb, ob + k * 2 + 1, none⟩) hbb).trans d1)⟩
            | exact ⟨(b6.cell (p := ⟨bb, ob + k * 2, none⟩) hbb).trans d0, (b6.cell (p := ⟨bb, ob + k * 2 + 1, none⟩) hbb).trans d1⟩)
          (first
            | (go_at_call 92; (with_reducible refine (put_any u3 c f w.heap.size _ OD.out SZ.out RS.out CL2.out).mono ?_); rintro e w6 ⟨v6, c6, rfl, o6, p6, b6⟩)
            | (go_at_call 92; (with_reducible refine (put_any v6 c6 t w.heap.size _ o6 (Nat.le_trans SZ.out b6.size) (putP_rise p6) (Nat.le_trans (putP_len p6) (Nat.succ_le_succ (Nat.le_trans CL.out (by decide : 200 ≤ 999))))).mono ?_); rintro e w7 ⟨v7, c7, rfl, o7, p7, b7⟩)
            | fail)
        have B7 := Lib.hid ((B5.out.drew.trans b6).trans b7)
        have O7 := Lib.hid o7
        have E7 := Lib.hid (hE.out.step X.out hft p6 p7)
        clear o6 p6 b6 o7 p7 b7 d0 d1 CL2 RS OD SZ hbb
        go_wp2_with fail
        go_roundg (n - (k + 1))
        case measure => omega
        case rel => exact ⟨k + 1, v7, c7, rfl, by go_num, by omega, Nat.le_refl _, O7, E7, B7⟩
      · have hft' : t ≤ f := by omega
        have E7 := Lib.hid (hE.out.skip X.out hft)
        go_wp2_with fail
        go_region
        have B7 := Lib.hid hB.out.drew
        have O7 := Lib.hid (hO.out.kept (Below.refl _ _).drew)
        clear hB hO c0 c1
        go_wp2_with fail
        go_roundg (n - (k + 1))
        case measure => omega
        case rel => exact ⟨k + 1, _, c, rfl, by go_num, by omega, Nat.le_refl _, O7, E7, B7⟩
    · obtain rfl : k = n := by omega
      have hkz : ¬ (k : Int) < (k : Int) := by omega
      have E7 := Lib.hid (show EndsP l c by have h := hE.out; rwa [List.take_of_length_le (by rw [← N.out]; exact Nat.le_refl _)] at h)
      clear hE
      go_wp2_with fail
      go_ret
      exact ⟨_, c, rfl, hO.out, E7.out, hB.out⟩
end Go.Proofs.Ytjnhkfjhkhbneaa
