/- An array of four bytes that came in by value: what it holds. -/
import Derived.Test.YtelecohcidgjpaaBytes
import Derived.ProofKit
import Derived.Lib.SmallJoins
namespace Go.Proofs.Ytelecohcidgjpaa
open Go.ChangeShapes Go.WideShapes Go.ChangeAt Go.RowKit Go.Joins

theorem open_arr4 {H : Type} {enc : TypeId × Value → H} {W : World} {base : Nat} {sp : Nat → Bool} {held : Bool} {r : Reach} {b0 : Nat} {v : Value} {d : DataW H} {p : List MemPlace}
    (hv : Value.okWide Try.prog W r b0 28 v) (h : DataW.Trod enc Try.prog W base sp held 28 v d p) :
    ∃ y0 y1 y2 y3 : UInt8, v = .agg #[.int .u8 (y0.toNat : Int), .int .u8 (y1.toNat : Int), .int .u8 (y2.toNat : Int), .int .u8 (y3.toNat : Int)] := by
  have hc : Try.prog.cellsOf 28 = 4 := by kernel_rfl
  have he : Try.prog.cellsOf 5 = 1 := by kernel_rfl
  have hA : ∃ cs, v = .agg cs ∧ cs.size = Try.prog.cellsOf 28 := by
    simp only [Value.okWide, Try.underlying28] at hv
    obtain ⟨cs, h1, h2, _⟩ := hv
    exact ⟨cs, h1, h2⟩
  obtain ⟨cs, rfl, hsz⟩ := hA
  obtain ⟨c0, c1, c2, c3, rfl⟩ := array4 (hsz.trans hc)
  obtain ⟨fuel, hf⟩ := h
  have hf' : DataW.trod enc Try.prog W base sp held fuel 28 [c0, c1, c2, c3] = some (d, p) := by simpa [Value.cells] using hf
  obtain ⟨y0, y1, y2, y3, n, _, h0, h1, h2, h3⟩ := trod_array4 Try.underlying28 he hf'
  obtain ⟨a0, e0, _, w0⟩ := DataW.trod_int Try.underlying5 h0
  obtain ⟨a1, e1, _, w1⟩ := DataW.trod_int Try.underlying5 h1
  obtain ⟨a2, e2, _, w2⟩ := DataW.trod_int Try.underlying5 h2
  obtain ⟨a3, e3, _, w3⟩ := DataW.trod_int Try.underlying5 h3
  simp only [List.cons.injEq, and_true] at e0 e1 e2 e3
  subst e0 e1 e2 e3
  exact ⟨UInt8.ofNat a0.toNat, UInt8.ofNat a1.toNat, UInt8.ofNat a2.toNat, UInt8.ofNat a3.toNat, by rw [byte_back _ w0, byte_back _ w1, byte_back _ w2, byte_back _ w3]⟩

end Go.Proofs.Ytelecohcidgjpaa
