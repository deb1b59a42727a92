/- Rows of bytes: what a slice value reads as; the sums of it; append; the text of it. Conditions stand in each lemma. -/
import Derived.Test.YtelecohcidgjpaaTold
import Derived.Deep.Quiet
import Derived.Laws.AppendOwnNone
namespace Go.Proofs.Ytelecohcidgjpaa
open Go.RowKit

/-- the slice value v reads as the bytes l -/
def RB (w : World) (v : Value) (l : List UInt8) : Prop :=
  (v = .slice none 0 0 ∧ l = []) ∨ ∃ ad cap, v = .slice (some ad) l.length cap ∧ ∀ i (h : i < l.length), w.cell? (ad.add i) = some (.int .u8 (l[i].toNat : Int))

theorem RB.spot {w : World} {ad : Addr} {l : List UInt8} (h : ∀ i (h : i < l.length), w.cell? (ad.add i) = some (.int .u8 (l[i].toNat : Int))) (hl : 0 < l.length) : ∃ b off, ad = ⟨b, off, none⟩ ∧ BytesAt w b off l := by
  obtain ⟨b, off, spot⟩ := ad
  have h0 := h 0 hl
  have hspot : spot = none := by simpa [Addr.add] using World.cell?_spot h0
  subst hspot
  refine ⟨b, off, rfl, fun i hi => ?_⟩
  have := h i hi
  rw [Addr.add_lit] at this
  simpa [hi] using this

theorem sum_rb (w : World) (v : Value) (l : List UInt8) (hl : l.length ≤ 140737488351232) (h : RB w v l) :
    Calls Try.prog 9 #[v] w fun e w' => e = .returned (.int .u32 ((CrcP.sum l).toNat : Int)) ∧ w' = A3 w := by
  have h0 : (((CrcP.sum []).toNat : Nat) : Int) = 0 := by decide
  rcases h with ⟨rfl, rfl⟩ | ⟨ad, cap, rfl, hc⟩
  · rw [h0]; exact sum_none _ _ _
  · by_cases hz : l.length = 0
    · rw [List.length_eq_zero_iff] at hz
      subst hz
      rw [h0]; exact sum_none _ _ _
    · obtain ⟨b, off, rfl, hb⟩ := RB.spot hc (by omega)
      exact sum_any b off cap l w hl hb

theorem ref_rb (w : World) (v : Value) (l : List UInt8) (hl : l.length ≤ 140737488351232) (h : RB w v l) :
    Calls Try.prog 10 #[v] w fun e w' => e = .returned (.int .u32 ((CrcP.sum l).toNat : Int)) ∧ w' = w := by
  have h0 : (((CrcP.sum []).toNat : Nat) : Int) = 0 := by decide
  rcases h with ⟨rfl, rfl⟩ | ⟨ad, cap, rfl, hc⟩
  · rw [h0]; exact ref_none _ _ _
  · by_cases hz : l.length = 0
    · rw [List.length_eq_zero_iff] at hz
      subst hz
      rw [h0]; exact ref_none _ _ _
    · obtain ⟨b, off, rfl, hb⟩ := RB.spot hc (by omega)
      exact ref_any b off cap l w hl hb

/-- in a world that is as it was below -/
theorem RB.up {w w' : World} {v : Value} {l : List UInt8} (hb : Below w.heap.size w w') (h : RB w v l) : RB w' v l := by
  rcases h with ⟨rfl, rfl⟩ | ⟨ad, cap, rfl, hc⟩
  · exact .inl ⟨rfl, rfl⟩
  · refine .inr ⟨ad, cap, rfl, fun i hi => ?_⟩
    have := hc i hi
    rw [hb.cell (block_lt_of_cell this)]
    exact this

theorem text_rb (w : World) (v : Value) (l : List UInt8) (h : RB w v l) : (convert 22 9 v).run Try.prog w = .ok (.string ⟨l.toArray⟩) w := by
  rcases h with ⟨rfl, rfl⟩ | ⟨ad, cap, rfl, hc⟩
  · exact run_convert_bytes_nil w 22 5 Try.underlying22 Try.underlying5 0 0 9 Try.underlying9
  · exact run_convert_bytes_back w 22 9 5 ad cap l Try.underlying22 Try.underlying5 Try.underlying9 hc

def cellsOf (l : List UInt8) : List Value := l.map fun c => .int .u8 (c.toNat : Int)
theorem cellsOf_append (l m : List UInt8) : cellsOf (l ++ m) = cellsOf l ++ cellsOf m := by simp [cellsOf]
theorem cellsOf_length (l : List UInt8) : (cellsOf l).length = l.length := by simp [cellsOf]

/-- what the call owns reads as it holds -/
theorem rb_own {w : World} {base : Nat} {v : Value} {n : Nat} {l : List UInt8} (h : w.ownsRow base 5 1 v n (cellsOf l)) : RB w v l := by
  obtain ⟨h1, h2⟩ := h
  have hn : n = l.length := by rw [cellsOf_length] at h1; omega
  subst hn
  rcases h2 with ⟨rfl, h0⟩ | ⟨g, cap, cur, rfl, _, hh, hle, _, hsz, ht⟩
  · exact .inl ⟨rfl, List.length_eq_zero_iff.1 h0⟩
  · refine .inr ⟨_, cap, rfl, fun i hi => ?_⟩
    rw [Addr.add_lit, Nat.zero_add, cell_of_row _ _ _ _ _ _ hh]
    have : (cur.toList.take (l.length * 1))[i]? = (cellsOf l)[i]? := by rw [ht]
    rw [List.getElem?_take_of_lt (by omega)] at this
    rw [← Array.getElem?_toList, this]
    simp [cellsOf, hi]

theorem Try.info5 : (Try.prog.info? 5).map (fun i => (i.zero, i.size, i.bytes)) = some (some (.int .u8 0), 1, 1) := by kernel_rfl

/-- append of bytes onto what the call owns -/
theorem op_append {o : Oper} {a : Act} {w : World} {K : Act → World → Prop} {Q : Exit → Act → World → Prop} (s x : Operand)
    (ho : o.op = .call { callee := .builtin .append, args := #[s, x], argTypes := #[22, 22] })
    (base : Nat) (v : Value) (n : Nat) (l : List UInt8) (hs : a.eval s = v) (hown : w.ownsRow base 5 1 v n (cellsOf l))
    (v2 : Value) (l2 : List UInt8) (hx : a.eval x = v2) (h2 : RB w v2 l2) (hbytes : n + l2.length ≤ 140737488355328) (hbase : base ≤ w.heap.size)
    (h : ∀ v' w', w'.ownsRow base 5 1 v' (n + l2.length) (cellsOf (l ++ l2)) → w.grownBy w' v.ownBlock → K (a.put o.dst v') w') : o.wp Try.prog a w K Q := by
  obtain ⟨i0, hi, hz0, hz1, hz2⟩ := info_parts Try.info5
  rcases h2 with ⟨rfl, rfl⟩ | ⟨ad, cap, rfl, hc⟩
  · have hrun := run_append_owned_none (P := Try.prog) (w := w) base 22 o.type 5 i0 1 Try.underlying22 hi v n _ hown
    have hk := h v w (by simpa using hown) (World.grownBy.refl w _)
    unfold Oper.wp
    simp [execOp, ho, resolve, invoke, builtin, hs, hx, hrun, Result.andThen]
    exact hk
  · refine wp_append_own w s x 22 ho base 5 i0 (.int .u8 0) 1 1 Try.underlying22 hi hz0 hz1 hz2 rfl (by decide) v n _ hs hown ad l2.length cap (cellsOf l2) hx (by rw [cellsOf_length]; omega) ?_ ?_ ?_ ?_ hbase ?_
    · intro j u hj
      have hj' : j < l2.length := by
        have := (List.getElem?_eq_some_iff.1 hj).1
        rwa [cellsOf_length] at this
      have := hc j hj'
      simp [cellsOf, hj'] at hj
      rw [this, hj]
    · intro u hu
      simp only [cellsOf, List.mem_map] at hu
      obtain ⟨c, _, rfl⟩ := hu
      rfl
    · unfold maxLen; omega
    · omega
    · intro v' w' h1 h3 _
      exact h v' w' (by rw [cellsOf_append]; exact h1) h3

theorem wpl_append {ops : Array Oper} {rest : List Oper} {o : Oper} {a : Act} {w : World} {Q : Exit → Act → World → Prop} (hgd : o.guard = none) (s x : Operand)
    (ho : o.op = .call { callee := .builtin .append, args := #[s, x], argTypes := #[22, 22] })
    (base : Nat) (v : Value) (n : Nat) (l : List UInt8) (hs : a.eval s = v) (hown : w.ownsRow base 5 1 v n (cellsOf l))
    (v2 : Value) (l2 : List UInt8) (hx : a.eval x = v2) (h2 : RB w v2 l2) (hbytes : n + l2.length ≤ 140737488355328) (hbase : base ≤ w.heap.size)
    (h : ∀ v' w', w'.ownsRow base 5 1 v' (n + l2.length) (cellsOf (l ++ l2)) → w.grownBy w' v.ownBlock → wpList Try.prog ops Q rest (a.put o.dst v') w') : wpList Try.prog ops Q (o :: rest) a w :=
  wpList_plain hgd fun _ hK => op_append s x ho base v n l hs hown v2 l2 hx h2 hbytes hbase fun v' w' h1 h3 => hK _ _ (h v' w' h1 h3)

/-- an empty row of the call's own, as '[]byte{}' lays it -/
theorem own_empty (w : World) : (w.alloc (.cells #[] 5)).ownsRow w.heap.size 5 1 (.slice (some ⟨w.heap.size, 0, none⟩) 0 0) 0 (cellsOf []) :=
  ⟨rfl, .inr ⟨w.heap.size, 0, #[], rfl, Nat.le_refl _, heap_alloc_new _ _, Nat.le_refl _, by decide, rfl, rfl⟩⟩

theorem own_block {w : World} {base : Nat} {e : TypeId} {size : Nat} {v : Value} {n : Nat} {xs : List Value} (h : w.ownsRow base e size v n xs) : ∀ k, v.ownBlock = some k → base ≤ k := by
  intro k hk
  rcases h.2 with ⟨rfl, _⟩ | ⟨g, cap, cur, rfl, hg, _⟩
  · cases hk
  · cases hk; exact hg

/-- the sum, under a name -/
theorem sum_named (s : Int) (l : List UInt8) (hs : s = ((CrcP.sum l).toNat : Int)) (w : World) (v : Value) (hl : l.length ≤ 140737488351232) (h : RB w v l) :
    Calls Try.prog 9 #[v] w fun e w' => e = .returned (.int .u32 s) ∧ Below w.heap.size w w' :=
  (sum_rb w v l hl h).mono fun e w' ⟨he, hw⟩ => ⟨by rw [hs]; exact he, by rw [hw]; exact A3_below w⟩

theorem sum_beq (l m : List UInt8) : ((((CrcP.sum l).toNat : Nat) : Int) == (((CrcP.sum m).toNat : Nat) : Int)) = decide (CrcP.sum l = CrcP.sum m) := by
  rw [Bool.eq_iff_iff, beq_iff_eq, decide_eq_true_iff]
  constructor
  · intro h; exact BitVec.eq_of_toNat_eq (Int.ofNat.inj h)
  · intro h; rw [h]

/-- a slice of integers that came in: it is nil; or it leads to a row of 'cap' cells, the numbers 'zs' -/
def IsRow (k : IntKind) (w : World) (a : Option Addr) (len cap : Nat) (zs : List Int) : Prop :=
  (a = none ∧ len = 0 ∧ cap = 0 ∧ zs = []) ∨
  ∃ x, a = some x ∧ len ≤ cap ∧ cap ≤ maxLen ∧ zs.length = cap ∧ (∀ i, i < zs.length → w.cell? (x.add i) = some (.int k (zs.getD i 0))) ∧ ∀ n ∈ zs, (Lit.int k n).wf = true

theorem byte_back (z : Int) (h : (Lit.int .u8 z).wf = true) : (((UInt8.ofNat z.toNat).toNat : Nat) : Int) = z := by
  have : 0 ≤ z ∧ z ≤ 255 := by simpa [Lit.wf, IntKind.min, IntKind.max, IntKind.signed, IntKind.bits] using h
  simp
  omega

theorem rb_arg {w : World} {a : Option Addr} {len cap : Nat} {zs : List Int} (h : IsRow .u8 w a len cap zs) : ∃ l : List UInt8, l.length = len ∧ len ≤ cap ∧ RB w (.slice a len cap) l := by
  rcases h with ⟨rfl, rfl, rfl, rfl⟩ | ⟨x, rfl, hl, hm, hz, hc, hw⟩
  · exact ⟨[], rfl, Nat.le_refl _, .inl ⟨rfl, rfl⟩⟩
  · refine ⟨(zs.take len).map fun z => UInt8.ofNat z.toNat, by simp; omega, hl, .inr ⟨x, cap, ?_, ?_⟩⟩
    · congr 1; simp; omega
    · intro i hi
      have hi' : i < len := by simp at hi; omega
      have hiz : i < zs.length := by omega
      rw [hc i hiz]
      simp only [List.getElem_map, List.getElem_take]
      rw [byte_back _ (hw _ (List.getElem_mem _))]
      simp [hiz]

end Go.Proofs.Ytelecohcidgjpaa
