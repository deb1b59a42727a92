/- The law's helpers 'form', 'great', 'sp'. -/
import Derived.Test.YtjnhkfjhkhbneaaSets8
namespace Go.Proofs.Ytjnhkfjhkhbneaa
open Go.RowKit SpanP

set_option maxRecDepth 100000 in
set_option maxHeartbeats 2000000 in
theorem form_any (v : Value) (l : List Sp) (hf : SpanP.Form l) (w : World) (hr : Rd w v l) :
    Calls Try.prog 24 #[v] w fun e w' => e = .returned (.bool true) ∧ Below w.heap.size w w' := by
  have R := Lib.hid hr
  obtain ⟨aa, ca, rfl, ha1, ha2, hfa⟩ := hr.shape
  have FA := Lib.hid hfa
  have F := Lib.hid hf
  unfold maxLen at ha2
  obtain ⟨n, hn⟩ : ∃ n, n = l.length := ⟨_, rfl⟩
  have N := Lib.hid hn
  rw [← hn] at R ha1
  rw [← hn]
  clear hn hr hfa hf
  go_enter Try.func24, Try.ntmps24
  go_wp2_with fail
  go_loopg [3] n (fun gg s3 wr => ∃ k : Nat, s3 = .int .i64 k ∧ k ≤ n ∧ n - k ≤ gg ∧ Hid (Below w.heap.size w wr))
  case atStart => exact ⟨0, rfl, by omega, by omega, Lib.hid (Below.refl _ _)⟩
  case round =>
    obtain ⟨k, rfl, hk, hgg, hB⟩ := hrel
    by_cases hkn : k < n
    · have hkl : k < l.length := by rw [← N.out]; exact hkn
      obtain ⟨b, off, rfl⟩ := FA.out (by intro h; rw [h] at hkl; simp at hkl)
      have c0 := (R.out.below hB.out).up0 k hkl
      have c1 := (R.out.below hB.out).up1 k hkl
      have hlt : ¬ l[k].2 ≤ l[k].1 := by have := F.out.1 l[k] (List.getElem_mem _); omega
      obtain ⟨x, hx⟩ : ∃ x, l[k] = x := ⟨_, rfl⟩
      rw [hx] at c0 c1 hlt
      have hkz : (k : Int) < (n : Int) := by omega
      rcases Nat.eq_zero_or_pos k with rfl | hk0
      · clear hx hkl
        obtain ⟨f, t⟩ := x
        dsimp only at c0 c1 hlt
        have hd : decide (t ≤ f) = false := decide_eq_false hlt
        clear hlt
        simp only [Nat.zero_mul, Nat.add_zero] at c0 c1
        go_wp2_with fail
        refine wp_region_up wr.heap.size wr (by kernel_rfl) (by kernel_rfl) (Below.refl _ _) ?_
        repeat (go_big_quiet_step (fail))
        refine wpQuiet_nil ?_
        rintro wu ⟨⟨_, hu⟩, rfl⟩
        have B' := Lib.hid (hB.out.trans (hu.mono hB.out.size))
        clear hu hB c0 c1
        go_wp2_with fail
        go_roundg (n - (0 + 1))
        case measure => omega
        case rel => exact ⟨1, by go_num, by omega, Nat.le_refl _, B'⟩
      · obtain ⟨i, rfl⟩ : ∃ i, k = i + 1 := ⟨k - 1, by omega⟩
        have d1 := (R.out.below hB.out).up1 i (by omega)
        have hgap : ¬ l[i + 1].1 ≤ l[i].2 := by
          have := List.pairwise_iff_getElem.1 F.out.2 i (i + 1) (by omega) hkl (by omega)
          omega
        obtain ⟨y, hy⟩ : ∃ y, l[i] = y := ⟨_, rfl⟩
        rw [hx, hy] at hgap
        rw [hy] at d1
        clear hx hy hkl
        obtain ⟨f, t⟩ := x
        obtain ⟨yf, yt⟩ := y
        dsimp only at c0 c1 d1 hlt hgap
        have hd : decide (t ≤ f) = false := decide_eq_false hlt
        have hd2 : decide (f ≤ yt) = false := decide_eq_false hgap
        have hd3 : decide ((0 : Int) < (i : Int) + 1) = true := decide_eq_true (by omega)
        clear hlt hgap
        have hin : (i : Int) < (n : Int) := by omega
        have hwm : IntKind.i64.wrap (i : Int) = (i : Int) := IntWalk.i64_in _ (by omega)
        go_wp2_with fail
        refine wp_region_up wr.heap.size wr (by kernel_rfl) (by kernel_rfl) (Below.refl _ _) ?_
        repeat (go_big_quiet_step (fail))
        refine wpQuiet_nil ?_
        rintro wu ⟨⟨_, hu⟩, rfl⟩
        have B' := Lib.hid (hB.out.trans (hu.mono hB.out.size))
        clear hu hB c0 c1 d1
        go_wp2_with fail
        go_roundg (n - (i + 1 + 1))
        case measure => omega
        case rel => exact ⟨i + 1 + 1, by go_num, by omega, Nat.le_refl _, B'⟩
    · obtain rfl : k = n := by omega
      have hkz : ¬ (k : Int) < (k : Int) := by omega
      go_wp2_with fail
      go_ret
      exact ⟨rfl, hB.out⟩

set_option maxHeartbeats 1000000 in
theorem sp_any (f t : Int) (w : World) : Calls Try.prog 53 #[.int .i64 f, .int .i64 t] w fun e w' => e = .returned (.agg #[.int .i64 f, .int .i64 t]) ∧ Below w.heap.size w w' := by
  go_enter Try.func53, Try.ntmps53
  go_wp2_with fail
  refine bodyPost_ret (v := .agg #[.int .i64 f, .int .i64 t]) (by simp [results, Try.results53, go_sem]) rfl ⟨rfl, ?_⟩
  exact (Below.refl _ _).alloc (Nat.le_refl _) _

def greatB (lens : List Nat) : Bool := lens.any fun n => decide (40 < n)

set_option maxRecDepth 100000 in
set_option maxHeartbeats 1000000 in
theorem great_any (c : Nat) (lens : List Nat) (r : Bool) (hr : greatB lens = r) (w : World) (hm : lens.length ≤ 100) (hbig : ∀ n ∈ lens, n ≤ 9223372036854775807)
    (hc : ∀ i (h : i < lens.length), ∃ a cap, w.cell? ⟨c, i, none⟩ = some (.slice a lens[i] cap)) :
    Calls Try.prog 17 #[.slice (some ⟨c, 0, none⟩) lens.length lens.length] w fun e w' => e = .returned (.bool r) ∧ Below w.heap.size w w' := by
  have C := Lib.hid hc
  have R := Lib.hid hr
  have G := Lib.hid hbig
  obtain ⟨m, hmm⟩ : ∃ m, m = lens.length := ⟨_, rfl⟩
  have M := Lib.hid hmm
  rw [← hmm] at hm ⊢
  clear hc hr hmm hbig
  go_enter Try.func17, Try.ntmps17
  go_wp2_with fail
  go_loopg [3] m (fun gg s3 wr => ∃ k : Nat, s3 = .int .i64 k ∧ k ≤ m ∧ m - k ≤ gg ∧ Hid (∀ n ∈ lens.take k, n ≤ 40) ∧ wr = w)
  case atStart => exact ⟨0, rfl, by omega, by omega, Lib.hid (by simp), rfl⟩
  case round =>
    obtain ⟨k, rfl, hk, hgg, hT, rfl⟩ := hrel
    by_cases hkm : k < m
    · have hkl : k < lens.length := by rw [← M.out]; exact hkm
      obtain ⟨a, cap, hcell⟩ := C.out k hkl
      have hbn := G.out lens[k] (List.getElem_mem _)
      obtain ⟨x, hx⟩ : ∃ x, lens[k] = x := ⟨_, rfl⟩
      rw [hx] at hcell hbn
      have X := Lib.hid (show ∃ h : k < lens.length, lens[k] = x from ⟨hkl, hx⟩)
      clear hx hkl
      have hkz : (k : Int) < (m : Int) := by omega
      by_cases h40 : 40 < x
      · have hz : (40 : Int) < (x : Int) := by omega
        have hf : r = true := by
          obtain ⟨h1, h2⟩ := X.out
          rw [← R.out, greatB, List.any_eq_true]
          exact ⟨x, by rw [← h2]; exact List.getElem_mem _, by simpa using h40⟩
        subst hf
        go_wp2_with fail
        go_ret
        exact ⟨rfl, Below.refl _ _⟩
      · have hz : ¬ (40 : Int) < (x : Int) := by omega
        go_wp2_with fail
        go_roundg (m - (k + 1))
        case measure => omega
        case rel =>
          obtain ⟨h1, h2⟩ := X.out
          refine ⟨k + 1, by go_num, by omega, Nat.le_refl _, Lib.hid ?_, rfl⟩
          intro n hn
          rw [List.take_succ_eq_append_getElem h1] at hn
          rcases List.mem_append.1 hn with hn | hn
          · exact hT.out n hn
          · rw [List.mem_singleton.1 hn, h2]; omega
    · obtain rfl : k = m := by omega
      have hkz : ¬ (k : Int) < (k : Int) := by omega
      have hf : r = false := by
        have := hT.out
        rw [List.take_of_length_le (by rw [← M.out]; exact Nat.le_refl _)] at this
        rw [← R.out, greatB, List.any_eq_false]
        intro n hn
        have := this n hn
        simp; omega
      subst hf
      go_wp2_with fail
      go_ret
      exact ⟨rfl, Below.refl _ _⟩
end Go.Proofs.Ytjnhkfjhkhbneaa
