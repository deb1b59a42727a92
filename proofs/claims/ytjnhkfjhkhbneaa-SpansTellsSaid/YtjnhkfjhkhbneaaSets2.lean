/- What slices.Clone, slices.SortFunc answer at spans. -/
import Derived.Test.YtjnhkfjhkhbneaaSets1
namespace Go.Proofs.Ytjnhkfjhkhbneaa
open Go.RowKit SpanP

theorem Rd.parts {w : World} {v : Value} {l : List Sp} (h : Rd w v l) : (v = .slice none 0 0 ∧ l = []) ∨ ∃ b off cap, v = .slice (some ⟨b, off, none⟩) l.length cap ∧ b < w.heap.size ∧ l.length ≤ cap ∧ cap ≤ maxLen := by
  rcases h with h | ⟨b, off, cap, h1, h2, h3, h4, _⟩
  · exact .inl h
  · exact .inr ⟨b, off, cap, h1, h2, h3, h4⟩
theorem Ow.parts {w : World} {B : Nat} {v : Value} {l : List Sp} (h : Ow w B v l) : (v = .slice none 0 0 ∧ l = []) ∨ ∃ g cap, v = .slice (some ⟨g, 0, none⟩) l.length cap ∧ B ≤ g ∧ g < w.heap.size ∧ l.length ≤ cap ∧ cap ≤ maxLen := by
  rcases h.2 with ⟨hv, hn⟩ | ⟨g, cap, cur, rfl, hb, hg, hn, hm, hs, ht⟩
  · exact .inl ⟨hv, List.length_eq_zero_iff.1 hn⟩
  · exact .inr ⟨g, cap, rfl, hb, heap_lt hg, hn, hm⟩

noncomputable def spI : TypeInfo := (Try.prog.info? 23).get (by kernel_rfl)

theorem clone_any (v : Value) (l : List Sp) (w : World) (hr : Rd w v l) (hlen : l.length ≤ 4398046511104) :
    Calls Try.prog 58 #[v] w fun e w' => ∃ v', e = .returned v' ∧ Ow w' w.heap.size v' l ∧ Below w.heap.size w w' := by
  rcases hr with ⟨rfl, rfl⟩ | ⟨b, off, cap, rfl, hlt, h1, h2, h3⟩
  · have h := AnyE.slices_Clone_nil cloneSp 0 0 w
    change Calls Try.prog 58 _ _ _ at h
    exact h.mono fun e w' ⟨he, hw⟩ => ⟨_, he, Ow.nil _ _, by rw [hw]; exact Below.refl _ _⟩
  · have h := AnyE.slices_Clone cloneSp spI (.agg #[.int .i64 0, .int .i64 0]) 2 16 (by kernel_rfl) (by kernel_rfl) (by kernel_rfl) (by kernel_rfl) rfl (by decide) Try.sizeOf23 b off l.length cap (flat l) w (flat_length l)
      (by simp only [maxLen]; omega) (by omega) h3 (flat_one l)
    change Calls Try.prog 58 _ _ _ at h
    exact h.mono fun e w' ⟨v', he, ho, _, hb⟩ => ⟨v', he, ho, hb⟩

theorem hlen0 (W : World) : Calls Try.prog 79 #[.int .u64 0] W fun e w' => e = .returned (.int .i64 (Lib.bitLen 0 : Nat)) ∧ w' = W := by
  have h := Any.bits_Len (SlLaysF0.n15.bits (P := Try.prog) (ρ := sortSp_ren) { sortSp with }) 0 W (by omega) (by omega)
  exact h

set_option maxHeartbeats 1000000 in
theorem insert_none (p : Option Addr) (cap : Nat) (fv : Value) (w : World) :
    Calls Try.prog 82 #[.slice p 0 cap, .int .i64 0, .int .i64 0, fv] w fun e w' => e = .returned (.tuple #[]) ∧ w' = w := by
  go_enter Try.func82, Try.ntmps82
  go_wp2
  refine wp_loop_rounds 1 ?_
  rw [rounds_succ]
  go_wp2
  go_end0
  exact ⟨rfl, rfl⟩

set_option maxHeartbeats 1000000 in
theorem pdq_none (p : Option Addr) (cap : Nat) (lim : Int) (fv : Value) (w : World) :
    Calls Try.prog 78 #[.slice p 0 cap, .int .i64 0, .int .i64 0, .int .i64 lim, fv] w fun e w' => e = .returned (.tuple #[]) ∧ w' = w := by
  have hi := fun W => insert_none p cap fv W
  go_enter Try.func78, Try.ntmps78
  go_wp2
  refine wp_loop_rounds 1 ?_
  rw [rounds_succ]
  go_wp2_with (go_at_call 82; refine (hi _).mono ?_; rintro e w' ⟨rfl, rfl⟩)
  (try simp only [Exit.inBlock, Exit.then]); refine bodyPost_ret (results_none rfl _ _ _) rfl ?_
  exact ⟨rfl, rfl⟩

set_option maxHeartbeats 1000000 in
theorem sort_none (p : Option Addr) (cap : Nat) (fv : Value) (w : World) :
    Calls Try.prog 59 #[.slice p 0 cap, fv] w fun e w' => e = .returned (.tuple #[]) ∧ w' = w := by
  have hp := fun lim W => pdq_none p cap lim fv W
  have hl := hlen0
  generalize ((Lib.bitLen 0 : Nat) : Int) = k at hl
  go_enter Try.func59, Try.ntmps59
  go_wp2_with (first | (go_at_call 79; refine (hl _).mono ?_; rintro e w' ⟨rfl, rfl⟩) | (go_at_call 78; refine (hp _ _).mono ?_; rintro e w' ⟨rfl, rfl⟩))
  go_end0
  exact ⟨rfl, rfl⟩

/-- slices.SortFunc by where spans begin -/
theorem sort_any (v : Value) (l : List Sp) (B : Nat) (w : World) (ho : Ow w B v l) (hB : B ≤ w.heap.size) (hlen : l.length ≤ 4398046511104) :
    Calls Try.prog 59 #[v, .func (.func 60) #[] #[]] w fun e w' => ∃ d : List Sp, e = .returned (.tuple #[]) ∧ d.Perm l ∧ d.Pairwise (fun a b => a.1 ≤ b.1) ∧ Ow w' B v d ∧ Below B w w' := by
  rcases ho.parts with ⟨rfl, rfl⟩ | ⟨g, cap, rfl, hg, hlt, h1, h2⟩
  · exact (sort_none none 0 _ w).mono fun e w' ⟨he, hw⟩ => ⟨[], he, List.Perm.refl _, List.Pairwise.nil, by rw [hw]; exact ho, by rw [hw]; exact Below.refl _ _⟩
  · have eg : ∀ args w, (callFunc 60 args).run Try.prog w = .ok (.enter 60 args) w := enters_of Try.func60 (by kernel_rfl) rfl
    have h := AnyQ.slices_SortFunc sortSp 2 Try.isAgg23 Try.sizeOf23 encS (fun _ => rfl) (fun x v hv => by simp [encS] at hv; rcases hv with rfl | rfl <;> rfl) (fun x y => Lib.compareInt x.1 y.1) swoFrom 60 #[] g 0 cap l.toArray w eg (cmpLays60 g 0 _ w) ho.holds hlt (by simp; omega)
    change Calls Try.prog 59 _ _ _ at h
    rw [List.size_toArray] at h
    refine h.mono fun e w' ⟨he, d, n, os, hp, hs, hw⟩ => ⟨d.toList, he, ?_, ?_, ?_, ?_⟩
    · have hsz : d.size = l.length := by simpa using hp.1
      have hh := hp.2.2
      rwa [Array.extract_eq_self_of_le (by omega), Array.extract_eq_self_of_le (by simp)] at hh
    · have hsz : d.size = l.length := by simpa using hp.1
      rw [List.pairwise_iff_getElem]
      intro i j hi hj hij
      have hi' : i < d.size := by simpa using hi
      have hj' : j < d.size := by simpa using hj
      have := hs i j (Nat.zero_le _) hij (by omega)
      rw [ltFrom, getElem!_pos d i hi', getElem!_pos d j hj'] at this
      simp at this
      simpa using this
    · have hsz : d.size = l.length := by simpa using hp.1
      rw [hw]; exact (ho.sorted hsz).1
    · have hsz : d.size = l.length := by simpa using hp.1
      rw [hw]; exact (ho.sorted hsz).2 hB
end Go.Proofs.Ytjnhkfjhkhbneaa
