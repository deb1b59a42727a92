/- Rows of spans in memory; comparing two spans; a set's copy. -/
import Derived.Test.YtjnhkfjhkhbneaaUp
import Derived.Test.YtjnhkfjhkhbneaaPlain4
import Derived.Test.YtjnhkfjhkhbneaaShelf
import Derived.OwnWalk
import Derived.Deep.LoopGhost
import Derived.Lib.SliceRun
import Derived.Maps.AppendAt
namespace Go.Proofs.Ytjnhkfjhkhbneaa
open Go.RowKit SpanP

def encS (x : Sp) : List Value := [.int .i64 x.1, .int .i64 x.2]
def flat (l : List Sp) : List Value := l.flatMap encS
@[simp] theorem flat_nil : flat [] = [] := rfl
theorem flat_cons (x : Sp) (l : List Sp) : flat (x :: l) = .int .i64 x.1 :: .int .i64 x.2 :: flat l := by simp [flat, encS]
theorem flat_append (a b : List Sp) : flat (a ++ b) = flat a ++ flat b := by simp [flat]
@[simp] theorem flat_length (l : List Sp) : (flat l).length = l.length * 2 := by
  induction l with
  | nil => rfl
  | cons x l ih => rw [flat_cons]; simp [ih]; omega
theorem flat_one (l : List Sp) : ∀ u ∈ flat l, u.oneCell' = true := by
  intro u hu
  obtain ⟨x, _, h⟩ := List.mem_flatMap.1 hu
  simp only [encS, List.mem_cons, List.not_mem_nil, or_false] at h
  rcases h with rfl | rfl <;> rfl
theorem flat_get0 : ∀ (l : List Sp) (i : Nat) (h : i < l.length), (flat l)[i * 2]? = some (.int .i64 l[i].1)
  | x :: l, 0, _ => by rw [flat_cons]; rfl
  | x :: l, i + 1, h => by
    rw [flat_cons, show (i + 1) * 2 = i * 2 + 2 by omega]
    simpa using flat_get0 l i (by simpa using h)
theorem flat_get1 : ∀ (l : List Sp) (i : Nat) (h : i < l.length), (flat l)[i * 2 + 1]? = some (.int .i64 l[i].2)
  | x :: l, 0, _ => by rw [flat_cons]; rfl
  | x :: l, i + 1, h => by
    rw [flat_cons, show (i + 1) * 2 + 1 = i * 2 + 1 + 2 by omega]
    simpa using flat_get1 l i (by simpa using h)

/-- a slice of spans that reads as a list -/
def Rd (w : World) (v : Value) (l : List Sp) : Prop :=
  (v = .slice none 0 0 ∧ l = []) ∨
  ∃ b off cap, v = .slice (some ⟨b, off, none⟩) l.length cap ∧ b < w.heap.size ∧ l.length ≤ cap ∧ cap ≤ maxLen ∧ ∀ j u, (flat l)[j]? = some u → w.cell? ⟨b, off + j, none⟩ = some u
/-- a slice of spans that lies in a row of its own, at or beyond B -/
def Ow (w : World) (B : Nat) (v : Value) (l : List Sp) : Prop := w.ownsRow B 23 2 v l.length (flat l)

theorem Rd.below {w w' : World} {v : Value} {l : List Sp} (h : Rd w v l) (hb : Below w.heap.size w w') : Rd w' v l := by
  rcases h with h | ⟨b, off, cap, hv, hlt, h1, h2, h3⟩
  · exact .inl h
  · exact .inr ⟨b, off, cap, hv, Nat.lt_of_lt_of_le hlt hb.size, h1, h2, fun j u hj => (hb.cell (p := ⟨b, off + j, none⟩) hlt).trans (h3 j u hj)⟩
theorem Rd.nil (w : World) : Rd w (.slice none 0 0) [] := .inl ⟨rfl, rfl⟩
theorem Rd.cell0 {w : World} {b off n cap : Nat} {l : List Sp} (h : Rd w (.slice (some ⟨b, off, none⟩) n cap) l) (i : Nat) (hi : i < l.length) : w.cell? ⟨b, off + i * 2, none⟩ = some (.int .i64 l[i].1) := by
  rcases h with ⟨h, _⟩ | ⟨b', off', cap', hv, _, _, _, h3⟩
  · cases h
  · simp only [Value.slice.injEq, Option.some.injEq, Addr.mk.injEq, and_true] at hv
    obtain ⟨⟨rfl, rfl⟩, _⟩ := hv
    exact h3 _ _ (flat_get0 l i hi)
theorem Rd.cell1 {w : World} {b off n cap : Nat} {l : List Sp} (h : Rd w (.slice (some ⟨b, off, none⟩) n cap) l) (i : Nat) (hi : i < l.length) : w.cell? ⟨b, off + i * 2 + 1, none⟩ = some (.int .i64 l[i].2) := by
  rcases h with ⟨h, _⟩ | ⟨b', off', cap', hv, _, _, _, h3⟩
  · cases h
  · simp only [Value.slice.injEq, Option.some.injEq, Addr.mk.injEq, and_true] at hv
    obtain ⟨⟨rfl, rfl⟩, _⟩ := hv
    exact h3 _ _ (flat_get1 l i hi)
theorem Ow.rd {w : World} {B : Nat} {v : Value} {l : List Sp} (h : Ow w B v l) : Rd w v l := by
  have h' := h
  rcases h.2 with ⟨hv, hn⟩ | ⟨g, cap, cur, rfl, hb, hg, hn, hm, hs, ht⟩
  · exact .inl ⟨hv, List.length_eq_zero_iff.1 hn⟩
  · refine .inr ⟨g, 0, cap, rfl, heap_lt hg, hn, hm, fun j u hj => ?_⟩
    have := World.ownsRow.cells h' (g := g) rfl j u hj
    rwa [Addr.add_lit] at this
theorem Ow.nil (w : World) (B : Nat) : Ow w B (.slice none 0 0) [] := World.ownsRow_nil w B 23 2

theorem info23 : (Try.prog.info? 23).map (fun i => (i.zero, i.size, i.bytes)) = some (some (.agg #[.int .i64 0, .int .i64 0]), 2, 16) := by kernel_rfl

theorem run_append_sp (ty : TypeId) {w : World} {B : Nat} {v xv : Value} {l m : List Sp} (hown : Ow w B v l) (hr : Rd w xv m) (hB : B ≤ w.heap.size) (hlen : l.length + m.length ≤ 4398046511104) :
    ∃ v' w', (Builtin.append_ #[29, 29] ty #[v, xv]).run Try.prog w = .ok v' w' ∧ Ow w' B v' (l ++ m) ∧ Below B w w' := by
  obtain ⟨i, hi, hz0, hz1, hz2⟩ := info_parts info23
  rcases hr with ⟨rfl, rfl⟩ | ⟨b, off, cap, rfl, hlt, h1, h2, h3⟩
  · exact ⟨v, w, run_append_owned_none (P := Try.prog) w B 29 ty 23 i 2 Try.underlying29 hi v _ _ hown, by simpa using hown, Below.refl _ _⟩
  · obtain ⟨v', w', hrun, ho, hg, _⟩ := run_append_own (P := Try.prog) w B 29 ty 23 i (.agg #[.int .i64 0, .int .i64 0]) 2 16 Try.underlying29 hi hz0 hz1 hz2 rfl (by decide) v _ _ hown ⟨b, off, none⟩ m.length cap (flat m) (flat_length m)
      (fun j u hj => by rw [Addr.add_lit]; exact h3 j u hj) (flat_one m) (by simp only [maxLen]; omega) (by omega) hB
    refine ⟨v', w', hrun, ?_, ?_⟩
    · unfold Ow
      rw [flat_append, List.length_append]; exact ho
    · exact (Below.refl B w).grown hg hB (fun k hk => (World.ownsRow.lt hown k hk).1)

/-- the append of a slice of spans to one of its own -/
theorem wpList_append_sp {w : World} {ops : Array Oper} {rest : List Oper} {o : Oper} {a : Act} {Q : Exit → Act → World → Prop} (hgd : o.guard = none) (s x : Operand)
    (ho : o.op = .call { callee := .builtin .append, args := #[s, x], argTypes := #[29, 29] })
    (B : Nat) (v xv : Value) (l m : List Sp) (hs : a.eval s = v) (hown : Ow w B v l) (hx : a.eval x = xv) (hr : Rd w xv m) (hB : B ≤ w.heap.size) (hlen : l.length + m.length ≤ 4398046511104)
    (h : ∀ v' w', Ow w' B v' (l ++ m) → Below B w w' → wpList Try.prog ops Q rest (a.put o.dst v') w') : wpList Try.prog ops Q (o :: rest) a w := by
  refine wpList_plain hgd fun K hK => ?_
  obtain ⟨v', w', hrun, h2, h3⟩ := run_append_sp o.type hown hr hB hlen
  unfold Oper.wp execOp
  simp only [ho, resolve, invoke, builtin, Sem.run_bind, Sem.run_pure, Result.andThen_ok, List.map_toArray, List.map_cons, List.map_nil, hs, hx, hrun]
  exact hK _ _ (h v' w' h2 h3)

set_option maxHeartbeats 400000 in
/-- a copy of a set's list -/
theorem own_any (v : Value) (l : List Sp) (w : World) (hr : Rd w v l) (hlen : l.length ≤ 4398046511104) :
    Calls Try.prog 20 #[v] w fun e w' => ∃ v', e = .returned v' ∧ Ow w' w.heap.size v' l ∧ Below w.heap.size w w' := by
  have R := Lib.hid hr
  clear hr
  go_enter Try.func20, Try.ntmps20
  go_wp2_with (at_builtin; refine wpList_append_sp rfl _ _ rfl w.heap.size _ _ [] l rfl (Ow.nil _ _) rfl R.out (Nat.le_refl _) (by simpa using hlen) ?_)
  intro v' w' h1 h2
  go_wp2
  go_ret
  exact ⟨v', rfl, h1, h2⟩

/-- comparing two spans by where they begin -/
theorem cmp_any (x y : Sp) (W : World) : Calls Try.prog 60 #[.agg #[.int .i64 x.1, .int .i64 x.2], .agg #[.int .i64 y.1, .int .i64 y.2]] W fun e w' => e = .returned (.int .i64 (Lib.compareInt x.1 y.1)) ∧ ∃ q os', w' = Sort.grow (W.drewN q) os' := by
  have hcon := fun W' => AnyG.cmp_Compare_int cmpSp x.1 y.1 W'
  change ∀ W', Calls Try.prog 61 _ _ _ at hcon
  generalize Lib.compareInt x.1 y.1 = r at hcon ⊢
  go_enter Try.func60, Try.ntmps60
  go_wp2_with (go_at_call 61; refine (hcon _).mono ?_; rintro e w' ⟨rfl, rfl⟩)
  go_ret
  exact ⟨rfl, 0, _, by rw [Sort.alloc_eq_grow, Sort.alloc_eq_grow, Sort.grow_grow]; rfl⟩

theorem cmpLays60 (blk off size : Nat) (w : World) : CmpLays Try.prog 60 #[] encS 2 (fun x y => Lib.compareInt x.1 y.1) blk off size w :=
  fun _ _ _ _ x y => cmp_any x y _
theorem ltFrom (x y : Sp) : ltOf (fun x y : Sp => Lib.compareInt x.1 y.1) x y = decide (x.1 < y.1) := by
  unfold ltOf Lib.compareInt
  by_cases h1 : x.1 < y.1
  · simp [h1]
  · by_cases h2 : y.1 < x.1 <;> simp [h1, h2]
theorem swoFrom : Sort.SWO (ltOf fun x y : Sp => Lib.compareInt x.1 y.1) where
  irrefl x := by rw [ltFrom]; simp
  trans x y z h1 h2 := by rw [ltFrom] at *; simp at *; omega
  ntrans x y z h1 h2 := by rw [ltFrom] at *; simp at *; omega

/-! the sort -/
theorem flatK_flat (d : Array Sp) : Sort.flatK encS 2 d = (flat d.toList).toArray := by
  refine Sort.ext_get! (by simp) fun t ht => ?_
  have ht' : t < d.size * 2 := by simpa using ht
  rw [Sort.get_flatK _ _ _ _ ht']
  have hi : t / 2 < d.toList.length := by simp; omega
  have e : d[t / 2]! = d.toList[t / 2] := by rw [getElem!_pos d (t / 2) (by simpa using hi)]; simp
  rw [e]
  rcases Nat.mod_two_eq_zero_or_one t with h | h
  · have := flat_get0 d.toList (t / 2) hi
    rw [show t / 2 * 2 = t by omega] at this
    rw [h]
    simp only [List.getElem!_toArray]
    rw [show (flat d.toList)[t]! = ((flat d.toList)[t]?).getD default from List.getElem!_eq_getElem?_getD, this]; rfl
  · have := flat_get1 d.toList (t / 2) hi
    rw [show t / 2 * 2 + 1 = t by omega] at this
    rw [h]
    simp only [List.getElem!_toArray]
    rw [show (flat d.toList)[t]! = ((flat d.toList)[t]?).getD default from List.getElem!_eq_getElem?_getD, this]; rfl

theorem Ow.holds {w : World} {B g n cap : Nat} {l : List Sp} (h : Ow w B (.slice (some ⟨g, 0, none⟩) n cap) l) : Sort.HoldsK encS 2 w g 0 l.toArray := by
  intro j hj
  have h' := h
  unfold Ow at h'
  obtain rfl : n = l.length := by
    rcases h'.2 with ⟨e, _⟩ | ⟨_, _, _, e, _⟩
    · cases e
    · simp only [Value.slice.injEq] at e; exact e.2.1
  have hj' : j < (flat l).length := by simpa using hj
  refine ⟨?_, World.ownsRow.frozenAt h' _⟩
  rw [Nat.zero_add, World.ownsRow.cellAt h' j (by simpa using hj), flatK_flat, List.getElem?_eq_getElem hj']
  simp only [List.getElem!_toArray, id]
  rw [getElem!_pos _ j hj']

theorem Ow.sorted {w : World} {B g n cap q : Nat} {l : List Sp} {d : Array Sp} {os : Array Obj} (h : Ow w B (.slice (some ⟨g, 0, none⟩) n cap) l) (hd : d.size = l.length) :
    Ow (sortWorldK encS 2 w g 0 q d os) B (.slice (some ⟨g, 0, none⟩) n cap) d.toList ∧ (B ≤ w.heap.size → Below B w (sortWorldK encS 2 w g 0 q d os)) := by
  rcases h.2 with ⟨e, _⟩ | ⟨g', cap', cur, e, hb, hg, hn, hm, hs, ht⟩
  · cases e
  simp only [Value.slice.injEq, Option.some.injEq, Addr.mk.injEq, and_true] at e
  obtain ⟨rfl, rfl, rfl⟩ := e
  have hlt := heap_lt hg
  have hcells : (Sort.grow (Sort.putRow id (Sort.ahead w q) g 0 (flat d.toList).toArray) os).heap[g]? = some (.cells (Sort.putCells id 0 (flat d.toList).toArray cur) 23 (0, 0)) := by
    simp only [Sort.grow, Sort.putRow, Sort.mapBlock, Sort.ahead]
    rw [Array.getElem?_append_left (by simpa using hlt)]
    simp [Array.getElem?_modify, hg, Sort.onCells]
  refine ⟨?_, fun hB => ?_⟩
  · unfold Ow sortWorldK Sort.putRowK
    rw [flatK_flat]
    refine ⟨by simp [hd], .inr ⟨g, cap, _, by simp [hd], hb, hcells, by simpa [hd] using hn, hm, by simpa [Sort.putCells] using hs, ?_⟩⟩
    apply List.ext_getElem?
    intro j
    rw [List.getElem?_take, Array.getElem?_toList]
    by_cases hj : j < d.size * 2
    · have hjc : j < cur.size := by rw [hs]; omega
      have hjf : j < (flat d.toList).length := by simpa using hj
      simp only [Array.length_toList, if_pos hj, Sort.putCells, Array.getElem?_mapIdx, Array.getElem?_eq_getElem hjc, Option.map_some]
      rw [if_pos (by simp; omega), List.getElem?_eq_getElem hjf]
      simp only [List.getElem!_toArray, id, Nat.sub_zero]
      rw [getElem!_pos _ j hjf]
    · rw [List.getElem?_eq_none (by simpa using hj), if_neg (by simpa using hj)]
  · unfold sortWorldK Sort.putRowK
    refine ⟨rfl, rfl, rfl, by simp [Sort.grow, Sort.putRow, Sort.mapBlock, Sort.ahead], fun k hk => ?_⟩
    simp only [Sort.grow, Sort.putRow, Sort.mapBlock, Sort.ahead]
    rw [Array.getElem?_append_left (by simp; omega), Array.getElem?_modify, if_neg (by omega)]
end Go.Proofs.Ytjnhkfjhkhbneaa
