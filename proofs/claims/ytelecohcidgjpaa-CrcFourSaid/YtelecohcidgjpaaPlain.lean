/- Plain facts on the CRC of a row of bytes: four bytes that change change it, the same bytes behind keep it, bytes 0 ahead are counted. No program, no condition. -/
namespace CrcP

theorem xlc (a b c : BitVec 32) : a ^^^ (b ^^^ c) = b ^^^ (a ^^^ c) := by
  rw [← BitVec.xor_assoc, BitVec.xor_comm a b, BitVec.xor_assoc]

/-- one bit's turn of the register -/
def T (v : BitVec 32) : BitVec 32 := (v <<< 1) ^^^ (if v.msb then 0x04c11db7#32 else 0#32)

theorem T_xor (a b : BitVec 32) : T (a ^^^ b) = T a ^^^ T b := by
  unfold T
  rw [BitVec.shiftLeft_xor_distrib, BitVec.msb_xor]
  cases a.msb <;> cases b.msb <;> simp only [BitVec.xor_assoc, BitVec.xor_zero, Bool.xor_false, Bool.xor_true, Bool.not_true, Bool.not_false, if_true, if_false, Bool.false_eq_true]
  · rw [BitVec.xor_comm (79764919#32)]
  · rw [xlc (79764919#32), BitVec.xor_self, BitVec.xor_zero]

theorem T_inj {a b : BitVec 32} (h : T a = T b) : a = b := by
  have h0 : T (a ^^^ b) = 0#32 := by rw [T_xor, h]; simp
  have hz : ∀ x : BitVec 32, T x = 0#32 → x = 0#32 := by
    intro x hx
    unfold T at hx
    have hm : x.msb = false := by
      cases hm : x.msb with
      | false => rfl
      | true =>
        exfalso
        have := congrArg (fun y => y.getLsbD 0) hx
        simp [hm] at this
    rw [hm] at hx
    simp at hx
    apply BitVec.eq_of_getLsbD_eq
    intro i hi
    simp only [BitVec.getLsbD_zero]
    by_cases h31 : i = 31
    · subst h31; rw [BitVec.msb_eq_getLsbD_last] at hm; exact hm
    · have := congrArg (fun y => y.getLsbD (i+1)) hx
      simp only [BitVec.getLsbD_shiftLeft, BitVec.getLsbD_zero] at this
      simpa [show i + 1 < 32 by omega] using this
  have := hz _ h0
  exact BitVec.xor_eq_zero_iff.1 this

theorem T_small (y : BitVec 32) (h : y.toNat < 2 ^ 31) : T y = y <<< 1 := by
  have : y.msb = false := by rw [BitVec.msb_eq_decide]; simp; omega
  simp [T, this]

/-- four bits' turn -/
def T4 (v : BitVec 32) : BitVec 32 := T (T (T (T v)))
theorem T4_xor (a b : BitVec 32) : T4 (a ^^^ b) = T4 a ^^^ T4 b := by simp only [T4, T_xor]
theorem T4_inj {a b : BitVec 32} (h : T4 a = T4 b) : a = b := T_inj (T_inj (T_inj (T_inj h)))

theorem shl_lt (y : BitVec 32) (k n : Nat) (hn : k + n ≤ 32) (h : y.toNat < 2 ^ n) : (y <<< k).toNat = y.toNat * 2 ^ k := by
  rw [BitVec.toNat_shiftLeft, Nat.shiftLeft_eq]
  apply Nat.mod_eq_of_lt
  calc y.toNat * 2 ^ k < 2 ^ n * 2 ^ k := Nat.mul_lt_mul_of_pos_right h (Nat.two_pow_pos k)
    _ = 2 ^ (k + n) := by rw [← Nat.pow_add, Nat.add_comm]
    _ ≤ 2 ^ 32 := Nat.pow_le_pow_right (by decide) hn

theorem T4_small (y : BitVec 32) (h : y.toNat < 2 ^ 28) : T4 y = y <<< 4 := by
  have a1 := shl_lt y 1 28 (by omega) h
  have a2 := shl_lt y 2 28 (by omega) h
  have a3 := shl_lt y 3 28 (by omega) h
  unfold T4
  rw [T_small y (by omega), T_small (y <<< 1) (by omega), ← BitVec.shiftLeft_add, T_small (y <<< 2) (by omega), ← BitVec.shiftLeft_add, T_small (y <<< 3) (by omega), ← BitVec.shiftLeft_add]

def U (v : BitVec 32) : BitVec 32 := T4 (T4 v)
theorem U_xor (a b : BitVec 32) : U (a ^^^ b) = U a ^^^ U b := by simp only [U, T4_xor]
theorem U_inj {a b : BitVec 32} (h : U a = U b) : a = b := T4_inj (T4_inj h)
theorem U_small (y : BitVec 32) (h : y.toNat < 2 ^ 24) : U y = y <<< 8 := by
  have a1 := shl_lt y 4 24 (by omega) h
  unfold U
  rw [T4_small y (by omega), T4_small _ (by omega), ← BitVec.shiftLeft_add]

/-- a byte's step -/
def step (v : BitVec 32) (c : UInt8) : BitVec 32 := U (v ^^^ (BitVec.ofNat 32 c.toNat <<< 24))

def st (l : List UInt8) (v : BitVec 32) : BitVec 32 := l.foldl step v

theorem step_inj {a b : BitVec 32} {c : UInt8} (h : step a c = step b c) : a = b := by
  have := U_inj h
  have := congrArg (fun z => z ^^^ (BitVec.ofNat 32 c.toNat <<< 24)) this
  simpa [BitVec.xor_assoc] using this

theorem st_inj (l : List UInt8) : ∀ {a b : BitVec 32}, st l a = st l b → a = b := by
  induction l with
  | nil => intro a b h; exact h
  | cons c l ih => intro a b h; exact step_inj (ih h)

theorem st_append (l m : List UInt8) (v : BitVec 32) : st (l ++ m) v = st m (st l v) := by simp [st]

theorem ofByte_lt (c : UInt8) : (BitVec.ofNat 32 c.toNat).toNat < 2 ^ 8 := by
  rw [BitVec.toNat_ofNat]; have := c.toNat_lt; omega

theorem step_split (v : BitVec 32) (c : UInt8) : step v c = U v ^^^ U (BitVec.ofNat 32 c.toNat <<< 24) := by rw [step, U_xor]

theorem push1 (c : UInt8) : U (BitVec.ofNat 32 c.toNat) = BitVec.ofNat 32 c.toNat <<< 8 := U_small _ (by have := ofByte_lt c; omega)
theorem push2 (c : UInt8) : U (BitVec.ofNat 32 c.toNat <<< 8) = BitVec.ofNat 32 c.toNat <<< 16 := by
  have := ofByte_lt c
  rw [U_small _ (by rw [shl_lt _ 8 8 (by omega) this]; omega), ← BitVec.shiftLeft_add]
theorem push3 (c : UInt8) : U (BitVec.ofNat 32 c.toNat <<< 16) = BitVec.ofNat 32 c.toNat <<< 24 := by
  have := ofByte_lt c
  rw [U_small _ (by rw [shl_lt _ 16 8 (by omega) this]; omega), ← BitVec.shiftLeft_add]

/-- four bytes as one word -/
def word (a b c d : UInt8) : BitVec 32 :=
  (BitVec.ofNat 32 a.toNat <<< 24) ^^^ ((BitVec.ofNat 32 b.toNat <<< 16) ^^^ ((BitVec.ofNat 32 c.toNat <<< 8) ^^^ BitVec.ofNat 32 d.toNat))

theorem four (v : BitVec 32) (a b c d : UInt8) : st [a, b, c, d] v = U (U (U (U (v ^^^ word a b c d)))) := by
  simp only [st, List.foldl_cons, List.foldl_nil, step_split, U_xor, word, push1, push2, push3]
  simp only [BitVec.xor_assoc]

theorem word_inj {a b c d a' b' c' d' : UInt8} (h : word a b c d = word a' b' c' d') : a = a' ∧ b = b' ∧ c = c' ∧ d = d' := by
  have key : ∀ a b c d : UInt8, (word a b c d).toNat = a.toNat * 2 ^ 24 + b.toNat * 2 ^ 16 + c.toNat * 2 ^ 8 + d.toNat := by
    intro a b c d
    have ha := a.toNat_lt; have hb := b.toNat_lt; have hc := c.toNat_lt; have hd := d.toNat_lt
    have xo : ∀ (x y k : Nat), y < 2 ^ k → (x * 2 ^ k) ^^^ y = x * 2 ^ k + y := by
      intro x y k hy
      rw [← Nat.shiftLeft_eq, Nat.shiftLeft_add_eq_or_of_lt hy]
      apply Nat.eq_of_testBit_eq
      intro i
      simp only [Nat.testBit_xor, Nat.testBit_or, Nat.testBit_shiftLeft]
      by_cases hi : k ≤ i
      · have : y.testBit i = false := Nat.testBit_lt_two_pow (Nat.lt_of_lt_of_le hy (Nat.pow_le_pow_right (by decide) hi))
        simp [this]
      · simp [hi]
    have e : ∀ x : UInt8, (BitVec.ofNat 32 x.toNat).toNat = x.toNat := by
      intro x; rw [BitVec.toNat_ofNat]; have := x.toNat_lt; omega
    unfold word
    rw [BitVec.toNat_xor, BitVec.toNat_xor, BitVec.toNat_xor, shl_lt _ 24 8 (by omega) (ofByte_lt a), shl_lt _ 16 8 (by omega) (ofByte_lt b), shl_lt _ 8 8 (by omega) (ofByte_lt c)]
    simp only [e]
    rw [xo _ _ 8 (by omega), xo _ _ 16 (by omega), xo _ _ 24 (by omega)]
    omega
  have := congrArg BitVec.toNat h
  rw [key, key] at this
  have ha := a.toNat_lt; have hb := b.toNat_lt; have hc := c.toNat_lt; have hd := d.toNat_lt
  have ha' := a'.toNat_lt; have hb' := b'.toNat_lt; have hc' := c'.toNat_lt; have hd' := d'.toNat_lt
  refine ⟨UInt8.toNat_inj.1 ?_, UInt8.toNat_inj.1 ?_, UInt8.toNat_inj.1 ?_, UInt8.toNat_inj.1 ?_⟩ <;> omega

theorem four_inj {v : BitVec 32} {x y : List UInt8} (hx : x.length = 4) (hy : y.length = 4) (h : st x v = st y v) : x = y := by
  match x, y, hx, hy with
  | [a, b, c, d], [a', b', c', d'], _, _ =>
    rw [four, four] at h
    have h1 := U_inj (U_inj (U_inj (U_inj h)))
    have h2 := congrArg (fun z => v ^^^ z) h1
    simp only [← BitVec.xor_assoc, BitVec.xor_self, BitVec.zero_xor] at h2
    obtain ⟨rfl, rfl, rfl, rfl⟩ := word_inj h2
    rfl

/-- the sum -/
def sum (l : List UInt8) : BitVec 32 := ~~~ (st l (BitVec.allOnes 32))

theorem not_inj {a b : BitVec 32} (h : ~~~ a = ~~~ b) : a = b := by
  have := congrArg (fun z => ~~~ z) h
  simpa using this

theorem sum_eq_iff {l m : List UInt8} : sum l = sum m ↔ st l (BitVec.allOnes 32) = st m (BitVec.allOnes 32) :=
  ⟨fun h => not_inj h, fun h => by rw [sum, h, sum]⟩

theorem sum_four {p x y q : List UInt8} (hx : x.length = 4) (hy : y.length = 4) : sum (p ++ x ++ q) = sum (p ++ y ++ q) ↔ x = y := by
  rw [sum_eq_iff]
  constructor
  · intro h
    simp only [st_append] at h
    exact four_inj hx hy (st_inj q h)
  · rintro rfl; rfl

theorem sum_behind {a b c : List UInt8} : sum (a ++ c) = sum (b ++ c) ↔ sum a = sum b := by
  rw [sum_eq_iff, sum_eq_iff, st_append, st_append]
  exact ⟨fun h => st_inj c h, fun h => by rw [h]⟩


/-! bytes 0 ahead -/
def tN (v : Nat) : Nat := if v < 2147483648 then 2 * v else (2 * v - 4294967296) ^^^ 79764919

theorem T_toNat (v : BitVec 32) : (T v).toNat = tN v.toNat := by
  have hv := v.isLt
  unfold T tN
  rw [BitVec.toNat_xor, BitVec.toNat_shiftLeft, BitVec.msb_eq_decide, Nat.shiftLeft_eq]
  by_cases h : v.toNat < 2147483648
  · rw [if_pos h]
    have : decide (2 ^ (32 - 1) ≤ v.toNat) = false := by simp; omega
    rw [this]; simp; omega
  · rw [if_neg h]
    have : decide (2 ^ (32 - 1) ≤ v.toNat) = true := by simp; omega
    rw [this]
    have e : v.toNat * 2 ^ 1 % 2 ^ 32 = 2 * v.toNat - 4294967296 := by omega
    rw [e]; rfl

def uN (v : Nat) : Nat := tN (tN (tN (tN (tN (tN (tN (tN v)))))))
theorem U_toNat (v : BitVec 32) : (U v).toNat = uN v.toNat := by simp only [U, T4, T_toNat, uN]

/-- the number is reckoned before it is handed on -/
def force {α : Type} (n : Nat) (f : Nat → α) : α := Nat.rec (f 0) (fun k _ => f (k + 1)) n
theorem force_eq {α : Type} (n : Nat) (f : Nat → α) : force n f = f n := by cases n <;> rfl

def chk : Nat → Nat → Bool
  | 0, _ => true
  | k + 1, v => force (uN v) fun u => !(Nat.beq u 4294967295) && chk k u

theorem chk_all : chk 3000 4294967295 = true := by decide +kernel

def Us : Nat → BitVec 32 → BitVec 32
  | 0, v => v
  | k + 1, v => Us k (U v)

theorem Us_succ (k : Nat) : ∀ v, Us (k + 1) v = U (Us k v) := by
  induction k with
  | zero => intro v; rfl
  | succ k ih => intro v; rw [Us, ih]; rfl

theorem chk_ne (k : Nat) : ∀ (v : BitVec 32), chk k v.toNat = true → ∀ j, 1 ≤ j → j ≤ k → Us j v ≠ BitVec.allOnes 32 := by
  induction k with
  | zero => intro v _ j h1 h2; omega
  | succ k ih =>
    intro v h j h1 h2
    rw [chk, force_eq, Bool.and_eq_true, ← U_toNat] at h
    obtain ⟨ha, hb⟩ := h
    obtain ⟨j, rfl⟩ : ∃ m, j = m + 1 := ⟨j - 1, by omega⟩
    rw [Us]
    by_cases hj : j = 0
    · subst hj
      intro e
      rw [Us] at e
      rw [e] at ha
      exact absurd ha (by decide)
    · exact ih (U v) hb j (by omega) (by omega)

theorem Us_inj (k : Nat) : ∀ {a b}, Us k a = Us k b → a = b := by
  induction k with
  | zero => intro a b h; exact h
  | succ k ih => intro a b h; exact U_inj (ih h)

theorem Us_add (j k : Nat) : ∀ v, Us (j + k) v = Us k (Us j v) := by
  induction j with
  | zero => intro v; rw [Nat.zero_add]; rfl
  | succ j ih => intro v; rw [show j + 1 + k = (j + k) + 1 by omega, Us, ih]; rfl

theorem Us_comm (j k : Nat) (v : BitVec 32) : Us j (Us k v) = Us k (Us j v) := by
  rw [← Us_add, ← Us_add, Nat.add_comm]

theorem st_noughts (n : Nat) : ∀ v, st (List.replicate n 0) v = Us n v := by
  induction n with
  | zero => intro v; rfl
  | succ n ih =>
    intro v
    rw [List.replicate_succ]
    show st (List.replicate n 0) (step v 0) = _
    rw [ih, Us]
    congr 1
    simp [step]

theorem Us_ne {n m : Nat} (hm : m ≤ 3000) (h : n < m) : Us n (BitVec.allOnes 32) ≠ Us m (BitVec.allOnes 32) := by
  intro e
  obtain ⟨d, rfl⟩ : ∃ d, m = d + n := ⟨m - n, by omega⟩
  rw [Us_add] at e
  have := Us_inj n e
  exact chk_ne 3000 (BitVec.allOnes 32) chk_all d (by omega) (by omega) this.symm

theorem sum_noughts {n m : Nat} (hn : n ≤ 3000) (hm : m ≤ 3000) (l : List UInt8) : sum (List.replicate n 0 ++ l) = sum (List.replicate m 0 ++ l) ↔ n = m := by
  rw [sum_eq_iff, st_append, st_append, st_noughts, st_noughts]
  constructor
  · intro h
    have := st_inj l h
    by_cases h1 : n < m
    · exact absurd this (Us_ne hm h1)
    by_cases h2 : m < n
    · exact absurd this.symm (Us_ne hn h2)
    omega
  · rintro rfl; rfl


/-! the document's answer: one bit at a time -/
def rstep (v : BitVec 32) (b : Bool) : BitVec 32 := (v <<< 1) ^^^ (if b != v.msb then 0x04c11db7#32 else 0#32)

def pol (b : Bool) : BitVec 32 := if b then 0x04c11db7#32 else 0#32

theorem rstep_eq (v : BitVec 32) (b : Bool) : rstep v b = T v ^^^ pol b := by
  unfold rstep T pol
  cases b <;> cases v.msb <;> simp [BitVec.xor_assoc]

/-- bit j of a byte, the highest first -/
def bitOf (c : Nat) (j : Nat) : Bool := c / 2 ^ (7 - j) % 2 == 1

/-- the register after i bits of a row -/
def rst (l : List UInt8) : Nat → BitVec 32
  | 0 => BitVec.allOnes 32
  | i + 1 => rstep (rst l i) (bitOf (l.getD (i / 8) 0).toNat (i % 8))

def eight (v : BitVec 32) (c : Nat) : BitVec 32 :=
  rstep (rstep (rstep (rstep (rstep (rstep (rstep (rstep v (bitOf c 0)) (bitOf c 1)) (bitOf c 2)) (bitOf c 3)) (bitOf c 4)) (bitOf c 5)) (bitOf c 6)) (bitOf c 7)

theorem eight_split (v : BitVec 32) (c : Nat) : eight v c = U v ^^^ eight 0#32 c := by
  have t0 : T 0#32 = 0#32 := by decide
  simp only [eight, rstep_eq, T_xor, U, T4, t0, BitVec.zero_xor, BitVec.xor_assoc]

theorem eight_zero : ∀ c : Fin 256, eight 0#32 c.val = U (BitVec.ofNat 32 c.val <<< 24) := by decide +kernel

theorem eight_step (v : BitVec 32) (c : UInt8) : eight v c.toNat = step v c := by
  rw [eight_split, step_split]
  have := eight_zero ⟨c.toNat, c.toNat_lt⟩
  rw [this]

theorem rst_eight (l : List UInt8) (k : Nat) (h : k < l.length) : rst l (8 * (k + 1)) = step (rst l (8 * k)) l[k] := by
  have d : ∀ j, j < 8 → (8 * k + j) / 8 = k := by intro j hj; omega
  have m : ∀ j, j < 8 → (8 * k + j) % 8 = j := by intro j hj; omega
  have s : ∀ j, j < 8 → rst l (8 * k + j + 1) = rstep (rst l (8 * k + j)) (bitOf l[k].toNat j) := by
    intro j hj
    rw [rst, d j hj, m j hj]
    have : l.getD k 0 = l[k] := by simp [h]
    rw [this]
  rw [show 8 * (k + 1) = 8 * k + 7 + 1 by omega, s 7 (by omega), show 8 * k + 7 = 8 * k + 6 + 1 by omega, s 6 (by omega), show 8 * k + 6 = 8 * k + 5 + 1 by omega, s 5 (by omega), show 8 * k + 5 = 8 * k + 4 + 1 by omega, s 4 (by omega), show 8 * k + 4 = 8 * k + 3 + 1 by omega, s 3 (by omega), show 8 * k + 3 = 8 * k + 2 + 1 by omega, s 2 (by omega), show 8 * k + 2 = 8 * k + 1 + 1 by omega, s 1 (by omega)]
  have := s 0 (by omega)
  rw [Nat.add_zero] at this
  rw [this]
  exact eight_step _ _

theorem rst_st (l : List UInt8) (k : Nat) (h : k ≤ l.length) : rst l (8 * k) = st (l.take k) (BitVec.allOnes 32) := by
  induction k with
  | zero => rfl
  | succ k ih =>
    rw [rst_eight l k (by omega), ih (by omega), List.take_succ_eq_append_getElem (by omega), st_append]
    rfl

theorem rst_sum (l : List UInt8) : ~~~ (rst l (8 * l.length)) = sum l := by
  rw [rst_st l l.length (Nat.le_refl _), List.take_length]; rfl

/-! four bits at a time, as the program has it -/
def adds : List Nat := [0, 79764919, 159529838, 222504665, 319059676, 398814059, 445009330, 507990021, 638119352, 583659535, 797628118, 726387553, 890018660, 835552979, 1015980042, 944750013]

def nib (v : BitVec 32) (f : Nat) : BitVec 32 := (v <<< 4) ^^^ BitVec.ofNat 32 (adds.getD ((v.toNat / 2 ^ 28) ^^^ f) 0)

theorem adds_T4 : ∀ i : Fin 16, BitVec.ofNat 32 (adds.getD i.val 0) = T4 (BitVec.ofNat 32 i.val <<< 28) := by decide +kernel

theorem hi_lo (v : BitVec 32) : v = (BitVec.ofNat 32 (v.toNat / 2 ^ 28) <<< 28) ^^^ BitVec.ofNat 32 (v.toNat % 2 ^ 28) := by
  have hv := v.isLt
  apply BitVec.eq_of_toNat_eq
  have e1 : (BitVec.ofNat 32 (v.toNat / 2 ^ 28)).toNat = v.toNat / 2 ^ 28 := by rw [BitVec.toNat_ofNat]; omega
  have e2 : (BitVec.ofNat 32 (v.toNat % 2 ^ 28)).toNat = v.toNat % 2 ^ 28 := by rw [BitVec.toNat_ofNat]; omega
  rw [BitVec.toNat_xor, shl_lt _ 28 4 (by omega) (by rw [e1]; omega), e1, e2]
  have hy : v.toNat % 2 ^ 28 < 2 ^ 28 := Nat.mod_lt _ (by decide)
  have : (v.toNat / 2 ^ 28 * 2 ^ 28) ^^^ (v.toNat % 2 ^ 28) = v.toNat / 2 ^ 28 * 2 ^ 28 + v.toNat % 2 ^ 28 := by
    rw [← Nat.shiftLeft_eq, Nat.shiftLeft_add_eq_or_of_lt hy]
    apply Nat.eq_of_testBit_eq
    intro i
    simp only [Nat.testBit_xor, Nat.testBit_or, Nat.testBit_shiftLeft]
    by_cases hi : 28 ≤ i
    · have : (v.toNat % 2 ^ 28).testBit i = false := Nat.testBit_lt_two_pow (Nat.lt_of_lt_of_le hy (Nat.pow_le_pow_right (by decide) hi))
      simp only [this]; simp
    · simp [hi]
  rw [this]; omega

theorem nib_T4 (v : BitVec 32) (f : Nat) (hf : f < 16) : nib v f = T4 (v ^^^ (BitVec.ofNat 32 f <<< 28)) := by
  have hv := v.isLt
  have hx : (v.toNat / 2 ^ 28) ^^^ f < 16 := Nat.xor_lt_two_pow (n := 4) (by omega) (by omega)
  have hs : v <<< 4 = BitVec.ofNat 32 (v.toNat % 2 ^ 28) <<< 4 := by
    apply BitVec.eq_of_toNat_eq
    rw [BitVec.toNat_shiftLeft, BitVec.toNat_shiftLeft, BitVec.toNat_ofNat, Nat.shiftLeft_eq, Nat.shiftLeft_eq]
    omega
  have hx2 : BitVec.ofNat 32 ((v.toNat / 2 ^ 28) ^^^ f) <<< 28 = (BitVec.ofNat 32 (v.toNat / 2 ^ 28) <<< 28) ^^^ (BitVec.ofNat 32 f <<< 28) := by
    rw [← BitVec.shiftLeft_xor_distrib]
    congr 1
    apply BitVec.eq_of_toNat_eq
    rw [BitVec.toNat_xor, BitVec.toNat_ofNat, BitVec.toNat_ofNat, BitVec.toNat_ofNat, Nat.mod_eq_of_lt (Nat.lt_trans hx (by decide)), Nat.mod_eq_of_lt (by omega), Nat.mod_eq_of_lt (by omega)]
  unfold nib
  rw [adds_T4 ⟨_, hx⟩]
  show v <<< 4 ^^^ T4 (BitVec.ofNat 32 ((v.toNat / 2 ^ 28) ^^^ f) <<< 28) = _
  rw [hx2]
  conv => rhs; rw [hi_lo v]
  rw [BitVec.xor_assoc, xlc, T4_xor, T4_xor, T4_xor, T4_small (BitVec.ofNat 32 (v.toNat % 2 ^ 28)) (by rw [BitVec.toNat_ofNat]; omega), hs]

theorem nib_step (v : BitVec 32) (c : UInt8) : nib (nib v (c.toNat / 16)) (c.toNat % 16) = step v c := by
  have hc := c.toNat_lt
  have e1 : (BitVec.ofNat 32 (c.toNat / 16)).toNat = c.toNat / 16 := by rw [BitVec.toNat_ofNat]; omega
  have e2 : (BitVec.ofNat 32 (c.toNat % 16)).toNat = c.toNat % 16 := by rw [BitVec.toNat_ofNat]; omega
  have hl : BitVec.ofNat 32 (c.toNat % 16) <<< 28 = T4 (BitVec.ofNat 32 (c.toNat % 16) <<< 24) := by
    rw [T4_small _ (by rw [shl_lt _ 24 4 (by omega) (by rw [e2]; omega), e2]; omega), ← BitVec.shiftLeft_add]
  have split : BitVec.ofNat 32 c.toNat <<< 24 = (BitVec.ofNat 32 (c.toNat / 16) <<< 28) ^^^ (BitVec.ofNat 32 (c.toNat % 16) <<< 24) := by
    have : ∀ c : Fin 256, BitVec.ofNat 32 c.val <<< 24 = (BitVec.ofNat 32 (c.val / 16) <<< 28) ^^^ (BitVec.ofNat 32 (c.val % 16) <<< 24) := by decide +kernel
    exact this ⟨c.toNat, hc⟩
  rw [nib_T4 _ _ (by omega), nib_T4 _ _ (by omega), hl, ← T4_xor, step, U, split, BitVec.xor_assoc]

end CrcP
