/- What slices.IndexFunc and slices.DeleteFunc answer at spans: what is empty goes. -/
import Derived.Test.YtjnhkfjhkhbneaaSets2
namespace Go.Proofs.Ytjnhkfjhkhbneaa
open Go.RowKit SpanP

theorem predEmpty (w : World) : PredBelow Try.prog 15 #[] (fun x : Sp => .agg (encS x).toArray) (fun x => emptyB x.1 x.2) w := fun W x hb =>
  (empty_as x.1 x.2 _ rfl W).mono fun _ _ ⟨he, h⟩ => ⟨he, hb.trans (h.mono hb.size)⟩

theorem encS_get (x : Sp) (w : World) (b o : Nat) (h0 : w.cell? ⟨b, o, none⟩ = some (.int .i64 x.1)) (h1 : w.cell? ⟨b, o + 1, none⟩ = some (.int .i64 x.2)) : ∀ i v, (encS x)[i]? = some v → w.cell? ⟨b, o + i, none⟩ = some v := by
  intro i v hi
  match i, hi with
  | 0, hi => simp [encS] at hi; rw [← hi]; exact h0
  | 1, hi => simp [encS] at hi; rw [← hi]; exact h1
  | i + 2, hi => simp [encS] at hi

def idxE (l : List Sp) : Int := Lib.idxBy (fun _ y : Sp => emptyB y.1 y.2) l default
theorem indexF_any (b off cap : Nat) (l : List Sp) (w : World) (hr : Rd w (.slice (some ⟨b, off, none⟩) l.length cap) l) (hlt : b < w.heap.size) (hlen : l.length ≤ 4398046511104) :
    Calls Try.prog 77 #[.slice (some ⟨b, off, none⟩) l.length cap, .func (.func 15) #[] #[]] w fun e w' => e = .returned (.int .i64 (idxE l)) ∧ Below w.heap.size w w' := by
  have eg : ∀ args w, (callFunc 15 args).run Try.prog w = .ok (.enter 15 args) w := enters_of Try.func15 (by kernel_rfl) rfl
  have h := AnyQ.slices_IndexFunc indexFSp 2 Try.isAgg23 Try.sizeOf23 encS (fun _ => rfl) (fun x => emptyB x.1 x.2) 15 #[] eg b off l.length cap l w (predEmpty w) (Nat.le_refl _) (by omega) hlt (fun j hj i v hi => by
    rw [getElem!_pos l j hj] at hi
    exact encS_get l[j] w b (off + j * 2) (hr.cell0 j hj) (hr.cell1 j hj) i v hi)
  rw [List.take_length] at h
  exact h

set_option maxHeartbeats 1000000 in
theorem indexF_none (w : World) : Calls Try.prog 77 #[.slice none 0 0, .func (.func 15) #[] #[]] w fun e w' => e = .returned (.int .i64 (-1)) ∧ Below w.heap.size w w' := by
  go_enter Try.func77, Try.ntmps77
  go_wp2
  go_loopg [5, 8] 0 (fun _ _ s8 wr => s8 = .int .i64 0 ∧ wr = w)
  case atStart => exact ⟨rfl, rfl⟩
  case round =>
    obtain ⟨rfl, rfl⟩ := hrel
    go_wp2
    go_ret
    exact ⟨rfl, Below.refl _ _⟩

theorem idxE_cases (l : List Sp) : (idxE l = -1 ∧ l.filter neS = l) ∨ ∃ k, k < l.length ∧ idxE l = (k : Int) ∧ (l.take (k + 1)).filter neS = l.take k := by
  have gen : ∀ (l : List Sp) (i : Nat), (Lib.idxByFrom (fun _ y : Sp => emptyB y.1 y.2) default l i = -1 ∧ l.filter neS = l) ∨ ∃ k, k < l.length ∧ Lib.idxByFrom (fun _ y : Sp => emptyB y.1 y.2) default l i = ((i + k : Nat) : Int) ∧ (l.take (k + 1)).filter neS = l.take k := by
    intro l
    induction l with
    | nil => intro i; exact .inl ⟨rfl, rfl⟩
    | cons y l ih =>
      intro i
      cases h : emptyB y.1 y.2 with
      | true => exact .inr ⟨0, by simp, by simp [Lib.idxByFrom, h], by simp [neS, h]⟩
      | false =>
        have hn : neS y = true := by simp [neS, h]
        rcases ih (i + 1) with ⟨e, hf⟩ | ⟨k, hk, e, hf⟩
        · exact .inl ⟨by simp [Lib.idxByFrom, h, e], by rw [List.filter_cons_of_pos hn, hf]⟩
        · refine .inr ⟨k + 1, by simpa using hk, by simp only [Lib.idxByFrom, h]; rw [show (if false = true then (i : Int) else Lib.idxByFrom (fun _ y : Sp => emptyB y.1 y.2) default l (i + 1)) = Lib.idxByFrom (fun _ y : Sp => emptyB y.1 y.2) default l (i + 1) from rfl, e]; congr 1; omega, ?_⟩
          rw [List.take_succ_cons, List.filter_cons_of_pos hn, hf, List.take_succ_cons]
  rcases gen l 0 with h | ⟨k, hk, e, hf⟩
  · exact .inl h
  · exact .inr ⟨k, hk, by unfold idxE Lib.idxBy; rw [e]; simp, hf⟩

/-- what the row holds, i kept of j -/
def Del (l m : List Sp) (i j : Nat) : Prop := i < j ∧ j ≤ l.length ∧ m.length = l.length ∧ m.take i = (l.take j).filter neS ∧ m.drop j = l.drop j
theorem Del.start {l : List Sp} {k : Nat} (hk : k < l.length) (h : (l.take (k + 1)).filter neS = l.take k) : Del l l k (k + 1) := ⟨by omega, hk, rfl, h.symm, rfl⟩
theorem Del.at {l m : List Sp} {i j : Nat} (h : Del l m i j) (hj : j < l.length) : ∃ hm : j < m.length, m[j] = l[j] := by
  obtain ⟨h1, h2, h3, h4, h5⟩ := h
  refine ⟨by omega, ?_⟩
  have a : (m.drop j)[0]? = (l.drop j)[0]? := by rw [h5]
  rw [List.getElem?_drop, List.getElem?_drop, Nat.add_zero, List.getElem?_eq_getElem (by omega), List.getElem?_eq_getElem hj] at a
  exact Option.some.inj a
theorem Del.skip {l m : List Sp} {i j : Nat} (h : Del l m i j) (hj : j < l.length) (hn : neS l[j] = false) : Del l m i (j + 1) := by
  obtain ⟨h1, h2, h3, h4, h5⟩ := h
  refine ⟨by omega, hj, h3, ?_, ?_⟩
  · rw [h4, List.take_succ_eq_append_getElem hj, List.filter_append, List.filter_cons_of_neg (by rw [hn]; simp)]; simp
  · have e : ∀ x : List Sp, x.drop (j + 1) = (x.drop j).drop 1 := fun x => by rw [List.drop_drop]
    rw [e, e, h5]
theorem Del.keep {l m : List Sp} {i j : Nat} (h : Del l m i j) (hj : j < l.length) (hn : neS l[j] = true) : Del l (m.set i l[j]) (i + 1) (j + 1) := by
  obtain ⟨h1, h2, h3, h4, h5⟩ := h
  refine ⟨by omega, hj, by simpa using h3, ?_, ?_⟩
  · rw [List.take_succ_eq_append_getElem hj, List.filter_append, List.filter_cons_of_pos hn, ← h4]
    rw [List.take_succ_eq_append_getElem (by simp; omega), List.take_set_of_le (by omega)]
    simp
  · have e : ∀ x : List Sp, x.drop (j + 1) = (x.drop j).drop 1 := fun x => by rw [List.drop_drop]
    rw [List.drop_set_of_lt (by omega), e, e, h5]
theorem Del.done {l m : List Sp} {i : Nat} (h : Del l m i l.length) : m.take i = l.filter neS := by
  have := h.2.2.2.1
  rwa [List.take_length] at this

theorem Ow.cell0 {w : World} {B g n cap : Nat} {l : List Sp} (h : Ow w B (.slice (some ⟨g, 0, none⟩) n cap) l) (i : Nat) (hi : i < l.length) : w.cell? ⟨g, i * 2, none⟩ = some (.int .i64 l[i].1) := by
  have := h.rd.cell0 i hi; rwa [Nat.zero_add] at this
theorem Ow.cell1 {w : World} {B g n cap : Nat} {l : List Sp} (h : Ow w B (.slice (some ⟨g, 0, none⟩) n cap) l) (i : Nat) (hi : i < l.length) : w.cell? ⟨g, i * 2 + 1, none⟩ = some (.int .i64 l[i].2) := by
  have := h.rd.cell1 i hi; rwa [Nat.zero_add] at this
theorem Ow.len {w : World} {B g n cap : Nat} {l : List Sp} (h : Ow w B (.slice (some ⟨g, 0, none⟩) n cap) l) : n = l.length := by
  rcases h.2 with ⟨e, _⟩ | ⟨_, _, _, e, _⟩
  · cases e
  · simp only [Value.slice.injEq] at e; exact e.2.1
theorem Ow.frozen {w : World} {B g n cap : Nat} {l : List Sp} (h : Ow w B (.slice (some ⟨g, 0, none⟩) n cap) l) (j : Nat) : w.frozen? ⟨g, j, none⟩ = false := by
  obtain rfl := h.len
  exact World.ownsRow.frozenAt h j
theorem flat_set (l : List Sp) (i : Nat) (x : Sp) : ((flat l).set (i * 2) (.int .i64 x.1)).set (i * 2 + 1) (.int .i64 x.2) = flat (l.set i x) := by
  induction l generalizing i with
  | nil => simp
  | cons y l ih =>
    cases i with
    | zero => simp [flat_cons]
    | succ i =>
      rw [List.set_cons_succ, flat_cons, flat_cons, ← ih i, show (i + 1) * 2 = i * 2 + 1 + 1 by omega]
      simp
/-- an element stored -/
theorem Ow.stored {w : World} {B g n cap : Nat} {l : List Sp} (h : Ow w B (.slice (some ⟨g, 0, none⟩) n cap) l) (i : Nat) (x : Sp) :
    Ow ((w.setCell ⟨g, i * 2, none⟩ (.int .i64 x.1)).setCell ⟨g, i * 2 + 1, none⟩ (.int .i64 x.2)) B (.slice (some ⟨g, 0, none⟩) n cap) (l.set i x) := by
  obtain rfl := h.len
  have h1 := (World.ownsRow.stored h (i * 2) (.int .i64 x.1)).1
  have h2 := (World.ownsRow.stored h1 (i * 2 + 1) (.int .i64 x.2)).1
  unfold Ow
  rw [← flat_set, List.length_set]
  exact h2
theorem Ow.base {w : World} {B g n cap : Nat} {l : List Sp} (h : Ow w B (.slice (some ⟨g, 0, none⟩) n cap) l) : B ≤ g ∧ g < w.heap.size := World.ownsRow.lt h g rfl
theorem Ow.kept {w w' : World} {B : Nat} {v : Value} {l : List Sp} (h : Ow w B v l) (hb : Below w.heap.size w w') : Ow w' B v l := by
  refine ⟨h.1, ?_⟩
  rcases h.2 with hn | ⟨g, cap, cur, hv, hb', hg, rest⟩
  · exact .inl hn
  · exact .inr ⟨g, cap, cur, hv, hb', heap_keep hb hg, rest⟩
theorem Ow.mono {w : World} {B B' : Nat} {v : Value} {l : List Sp} (h : Ow w B v l) (hb : B' ≤ B) : Ow w B' v l := by
  refine ⟨h.1, ?_⟩
  rcases h.2 with hn | ⟨g, cap, cur, hv, hb', rest⟩
  · exact .inl hn
  · exact .inr ⟨g, cap, cur, hv, Nat.le_trans hb hb', rest⟩
theorem flat_take (l : List Sp) (i : Nat) : (flat l).take (i * 2) = flat (l.take i) := by
  induction l generalizing i with
  | nil => simp
  | cons y l ih =>
    cases i with
    | zero => simp
    | succ i => rw [List.take_succ_cons, flat_cons, flat_cons, show (i + 1) * 2 = i * 2 + 1 + 1 by omega, List.take_succ_cons, List.take_succ_cons, ih]
theorem Ow.cut {w : World} {B g n cap : Nat} {l : List Sp} (h : Ow w B (.slice (some ⟨g, 0, none⟩) n cap) l) (i : Nat) (hi : i ≤ l.length) : Ow w B (.slice (some ⟨g, 0, none⟩) i cap) (l.take i) := by
  obtain rfl := h.len
  have hl : (l.take i).length = i := by simp; omega
  unfold Ow
  rw [hl]
  refine ⟨by rw [flat_length, hl], ?_⟩
  rcases h.2 with ⟨e, _⟩ | ⟨g', cap', cur, e, hb', hg, hn, hm, hs, ht⟩
  · cases e
  · simp only [Value.slice.injEq, Option.some.injEq, Addr.mk.injEq, and_true] at e
    obtain ⟨rfl, _, rfl⟩ := e
    refine .inr ⟨g, cap, cur, rfl, hb', hg, by omega, hm, hs, ?_⟩
    rw [← flat_take, ← ht, List.take_take, Nat.min_eq_left (by omega)]

theorem run_clear_sp (ty : TypeId) {w : World} {B g n cap c : Nat} {l : List Sp} (h : Ow w B (.slice (some ⟨g, 0, none⟩) n cap) l) (i : Nat) (hi : i ≤ l.length) :
    ∃ w', (Builtin.clear_ #[29] ty #[.slice (some ⟨g, i * 2, none⟩) (l.length - i) c]).run Try.prog w = .ok (.tuple #[]) w' ∧ Ow w' B (.slice (some ⟨g, 0, none⟩) i cap) (l.take i) ∧ Below B w w' := by
  have hc := h.cut i hi
  obtain rfl := h.len
  by_cases he : l.length - i = 0
  · exact ⟨w, by rw [he]; simp [Builtin.clear_, run_underlying Try.underlying29], hc, Below.refl _ _⟩
  obtain ⟨m, hm⟩ : ∃ m, l.length - i = m + 1 := ⟨l.length - i - 1, by omega⟩
  have hc2 := hc
  have hl : (l.take i).length = i := by simp; omega
  unfold Ow at hc2
  rw [hl] at hc2
  rcases hc2.2 with ⟨e, _⟩ | ⟨g', cap', cur, e, hb', hg, hn, hmx, hs, ht⟩
  · cases e
  simp only [Value.slice.injEq, Option.some.injEq, Addr.mk.injEq, and_true, true_and] at e
  obtain ⟨rfl, rfl⟩ := e
  have hle : l.length ≤ cap := by
    rcases h.2 with ⟨e, _⟩ | ⟨g', cap', cur, e, _, _, hn, _⟩
    · cases e
    · simp only [Value.slice.injEq] at e
      omega
  obtain ⟨Z, hZ⟩ : ∃ Z, Z = (Builtin.zeroCells #[.int .i64 0, .int .i64 0] (m + 1)).toList := ⟨_, rfl⟩
  have hz : Z.length = (m + 1) * 2 := by rw [hZ]; simp [Builtin.zeroCells]
  have hst := run_storeCells_at Try.prog g (i * 2) 23 Z 0 cur w hg (by rw [hz]; omega) (fun u hu => by
    rw [hZ] at hu
    simp only [Builtin.zeroCells, Array.toList_map, List.mem_map] at hu
    obtain ⟨t, _, rfl⟩ := hu
    rcases Nat.mod_two_eq_zero_or_one t with h | h <;> simp [h, Value.oneCell'])
  rw [Nat.add_zero] at hst
  have hrun : (Builtin.clear_ #[29] ty #[.slice (some ⟨g, i * 2, none⟩) (l.length - i) c]).run Try.prog w = .ok (.tuple #[]) (w.setRow g (cur.toList.take (i * 2) ++ Z ++ cur.toList.drop (i * 2 + Z.length)).toArray) := by
    rw [hm]
    simp [Builtin.clear_, run_underlying Try.underlying29, Try.zeroValue23, Value.cells, ← hZ, hst]
  clear hst hZ
  refine ⟨_, hrun, ?_, ?_⟩
  · unfold Ow
    rw [hl]
    refine ⟨hc2.1, .inr ⟨g, cap, _, rfl, hb', setRow_heap w g cur _ 23 _ hg, hn, hmx, ?_, ?_⟩⟩
    · simp only [List.size_toArray, List.length_append, List.length_take, List.length_drop, Array.length_toList, hz]
      omega
    · rw [← ht, List.append_assoc, List.take_append_of_le_length (by rw [List.length_take, Array.length_toList]; omega), List.take_take, Nat.min_self]
  · exact ⟨rfl, rfl, rfl, by simp, fun k hk => setRow_other w g k _ (by omega)⟩
end Go.Proofs.Ytjnhkfjhkhbneaa
