/- A law's argument that is a list of spans reads as a list. -/
import Derived.Test.YtjnhkfjhkhbneaaSets1
import Derived.Deep.SlicePairs
import Derived.ProofKit
import Derived.OpenShut
namespace Go.Proofs.Ytjnhkfjhkhbneaa
open Go.RowKit Go.Deep Go.ChangeShapes Go.WideShapes SpanP

def numV : Value → Int
  | .int _ z => z
  | _ => 0

theorem rd_arg {H : Type} {enc : TypeId × Value → H} {W : World} {base : Nat} {v : Value} {d : DataW H} {p : List MemPlace} (hv : Value.okWide Try.prog W .any base 29 v)
    (h : DataW.Trod enc Try.prog W 0 (fun _ => true) true 29 v d p) : ∃ l : List Sp, Rd W v l := by
  obtain ⟨a, len, cap, rfl⟩ := okWide_slice Try.underlying29 hv
  obtain ⟨fuel, hf⟩ := h
  rcases open_slice_pairs Try.underlying29 Try.underlying23 (by kernel_rfl) (by kernel_rfl) (by kernel_rfl) (by kernel_rfl) (by kernel_rfl) hf with ⟨hcs, _⟩ | ⟨b, len', cap', m, n, V0, V1, D0, D1, P0, P1, hcs, _, hl, hm, hmm, _, hi⟩
  · simp [Value.cells] at hcs
    obtain ⟨rfl, rfl, rfl⟩ := hcs
    exact ⟨[], Rd.nil W⟩
  · simp [Value.cells] at hcs
    obtain ⟨rfl, rfl, rfl⟩ := hcs
    obtain rfl : m = cap := by simpa using hmm
    simp only [Value.okWide, Try.underlying29, Cell.okWide, Cell.ok] at hv
    obtain ⟨_, _, _, hs, row, cells, hsh, _⟩ := hv
    have hlt : b.block < W.heap.size := by
      unfold World.shape? at hsh
      cases e : W.heap[b.block]? with
      | none => rw [e] at hsh; cases hsh
      | some o => exact (Array.getElem?_eq_some_iff.1 e).1
    obtain ⟨bb, off, sp⟩ := b
    dsimp only at hs hlt hi
    subst hs
    have hx : ∀ i, i < m → V0 i = .int .i64 (numV (V0 i)) ∧ V1 i = .int .i64 (numV (V1 i)) := fun i him => by
      obtain ⟨_, _, h0, h1⟩ := hi i him
      obtain ⟨x0, e0, _, _⟩ := DataW.trod_int Try.underlying2 h0
      obtain ⟨x1, e1, _, _⟩ := DataW.trod_int Try.underlying2 h1
      simp only [List.cons.injEq, and_true] at e0 e1
      rw [e0, e1]; exact ⟨rfl, rfl⟩
    refine ⟨(List.range len).map fun i => (numV (V0 i), numV (V1 i)), .inr ⟨bb, off, m, by simp, hlt, by simpa using hl, hm, fun j u hj => ?_⟩⟩
    have hjl : j < len * 2 := by
      have := (List.getElem?_eq_some_iff.1 hj).1
      simpa using this
    have hil : j / 2 < ((List.range len).map fun i => (numV (V0 i), numV (V1 i))).length := by simp; omega
    have him : j / 2 < m := by simp at hil; omega
    obtain ⟨c0, c1, _, _⟩ := hi (j / 2) him
    obtain ⟨e0, e1⟩ := hx (j / 2) him
    rcases Nat.mod_two_eq_zero_or_one j with h | h
    · have g := flat_get0 _ _ hil
      rw [show j / 2 * 2 = j by omega, hj] at g
      rw [Addr.add_lit, show j / 2 * 2 = j by omega] at c0
      rw [c0, g, e0]
      simp [numV]
    · have g := flat_get1 _ _ hil
      rw [show j / 2 * 2 + 1 = j by omega, hj] at g
      rw [Addr.add_lit, show j / 2 * 2 + 1 = j by omega] at c1
      rw [c1, g, e1]
      simp [numV]
end Go.Proofs.Ytjnhkfjhkhbneaa
