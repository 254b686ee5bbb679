/- The checksum in plain numbers: steps are linear and invertible; the table; bits that are changed; the reference, bit by bit. No program. No conditions. -/
set_option linter.unusedVariables false
namespace Go.Proofs.Ytlonmghkdobhdaa
/-! The checksum in plain numbers. -/
def poly : Nat := 2197175160
def one1 (x : Nat) : Nat := if x % 2 = 1 then (x / 2) ^^^ poly else x / 2
def stepN : Nat → Nat → Nat
  | 0, x => x
  | n + 1, x => stepN n (one1 x)
def eight8 (x : Nat) : Nat := stepN 8 x
def upd (x : Nat) (l : List UInt8) : Nat := l.foldl (fun x c => eight8 (x ^^^ c.toNat)) x
def csum (l : List UInt8) : Nat := 4294967295 - upd 4294967295 l

theorem one1_lt {x : Nat} (h : x < 4294967296) : one1 x < 4294967296 := by
  unfold one1; split
  · exact Nat.xor_lt_two_pow (n := 32) (by omega) (by decide)
  · omega
theorem one1_zero : one1 0 = 0 := by decide
theorem xor_two (x y : Nat) : (x ^^^ y) % 2 = x % 2 ^^^ y % 2 := by
  have := Nat.xor_mod_two_pow (a := x) (b := y) (n := 1)
  simpa using this
theorem one1_xor (x y : Nat) : one1 (x ^^^ y) = one1 x ^^^ one1 y := by
  unfold one1
  have hp := xor_two x y
  rw [Nat.xor_div_two]
  rcases Nat.mod_two_eq_zero_or_one x with hx | hx <;> rcases Nat.mod_two_eq_zero_or_one y with hy | hy <;>
    rw [hp, hx, hy]
  · simp
  · simp [Nat.xor_assoc]
  · simp only [Nat.xor_zero, if_true, show ¬ (0 = 1) by omega, if_false]
    rw [Nat.xor_assoc, Nat.xor_assoc, Nat.xor_comm (y / 2)]
  · simp only [Nat.xor_self, if_true, show ¬ (0 = 1) by omega, if_false]
    rw [Nat.xor_assoc, ← Nat.xor_assoc poly, Nat.xor_comm poly, Nat.xor_assoc, Nat.xor_self, Nat.xor_zero]
theorem one1_two (x : Nat) : one1 (2 * x) = x := by
  unfold one1; rw [if_neg (by omega)]; omega
theorem one1_ker {x : Nat} (h : x < 4294967296) (h0 : one1 x = 0) : x = 0 := by
  unfold one1 at h0
  split at h0
  · exfalso
    have h1 : (x / 2 ^^^ poly).testBit 31 = true := by
      rw [Nat.testBit_xor]
      have : (x / 2).testBit 31 = false := Nat.testBit_lt_two_pow (by omega)
      rw [this]; decide
    rw [h0] at h1; simp at h1
  · omega
theorem stepN_lt {n x : Nat} (h : x < 4294967296) : stepN n x < 4294967296 := by
  induction n generalizing x with
  | zero => exact h
  | succ n ih => exact ih (one1_lt h)
theorem stepN_xor (n x y : Nat) : stepN n (x ^^^ y) = stepN n x ^^^ stepN n y := by
  induction n generalizing x y with
  | zero => rfl
  | succ n ih => simp only [stepN, one1_xor, ih]
theorem stepN_add (n m x : Nat) : stepN (n + m) x = stepN m (stepN n x) := by
  induction n generalizing x with
  | zero => simp [stepN]
  | succ n ih => rw [Nat.succ_add]; simp only [stepN]; exact ih _
theorem stepN_succ (n x : Nat) : stepN (n + 1) x = one1 (stepN n x) := by rw [stepN_add]; rfl
theorem stepN_zero (n : Nat) : stepN n 0 = 0 := by
  induction n with
  | zero => rfl
  | succ n ih => simpa [stepN, one1_zero] using ih
theorem stepN_ker {n x : Nat} (h : x < 4294967296) (h0 : stepN n x = 0) : x = 0 := by
  induction n generalizing x with
  | zero => exact h0
  | succ n ih => exact one1_ker h (ih (one1_lt h) h0)
theorem stepN_pow (n x : Nat) : stepN n (2 ^ n * x) = x := by
  induction n generalizing x with
  | zero => simp [stepN]
  | succ n ih =>
    simp only [stepN]
    rw [show 2 ^ (n + 1) * x = 2 * (2 ^ n * x) by rw [Nat.pow_succ]; ac_rfl, one1_two, ih]
theorem split_low (n x : Nat) : x = (2 ^ n * (x / 2 ^ n)) ^^^ (x % 2 ^ n) := by
  apply Nat.eq_of_testBit_eq
  intro i
  rw [Nat.testBit_xor, Nat.testBit_mod_two_pow, Nat.testBit_two_pow_mul, Nat.testBit_div_two_pow]
  by_cases h : i < n
  · simp [h, show ¬ n ≤ i by omega]
  · simp [h, show n ≤ i by omega, show i - n + n = i by omega]
theorem stepN_split (n x : Nat) : stepN n x = (x / 2 ^ n) ^^^ stepN n (x % 2 ^ n) := by
  have := congrArg (stepN n) (split_low n x)
  rw [stepN_xor, stepN_pow] at this
  exact this
theorem eight8_lt {x : Nat} (h : x < 4294967296) : eight8 x < 4294967296 := stepN_lt h
theorem eight8_table (x c : Nat) : eight8 (x ^^^ c) = (x / 256) ^^^ eight8 ((x % 256) ^^^ c) := by
  unfold eight8
  rw [stepN_xor, stepN_split 8 x, stepN_xor, Nat.xor_assoc]
theorem upd_lt {x : Nat} {l : List UInt8} (h : x < 4294967296) : upd x l < 4294967296 := by
  induction l generalizing x with
  | nil => exact h
  | cons c l ih => exact ih (eight8_lt (Nat.xor_lt_two_pow (n := 32) h (by have := c.toNat_lt; omega)))
theorem upd_append (x : Nat) (l m : List UInt8) : upd x (l ++ m) = upd (upd x l) m := List.foldl_append
theorem upd_snoc (x : Nat) (l : List UInt8) (c : UInt8) : upd x (l ++ [c]) = eight8 (upd x l ^^^ c.toNat) := by rw [upd_append]; rfl
theorem upd_xor (x y : Nat) (l : List UInt8) : upd (x ^^^ y) l = upd x l ^^^ stepN (8 * l.length) y := by
  induction l generalizing x y with
  | nil => rfl
  | cons c l ih =>
    simp only [upd, List.foldl_cons] at ih ⊢
    rw [show x ^^^ y ^^^ c.toNat = (x ^^^ c.toNat) ^^^ y by rw [Nat.xor_assoc, Nat.xor_comm y, Nat.xor_assoc], eight8, stepN_xor, ih]
    rw [← stepN_add, List.length_cons, show 8 + 8 * l.length = 8 * (l.length + 1) by omega]; rfl

/-! ### a bit is changed -/
def flipB (l : List UInt8) (j : Nat) : List UInt8 := l.set (j / 8) (l.getD (j / 8) 0 ^^^ (1 <<< (UInt8.ofNat (j % 8))))
theorem upd_set (x : Nat) (l : List UInt8) (p : Nat) (hp : p < l.length) (d : UInt8) : upd x (l.set p (l.getD p 0 ^^^ d)) = upd x l ^^^ stepN (8 * (l.length - p)) d.toNat := by
  induction l generalizing x p with
  | nil => simp at hp
  | cons c l ih =>
    cases p with
    | zero =>
      simp only [List.set_cons_zero, List.getD_cons_zero]
      simp only [upd, List.foldl_cons, UInt8.toNat_xor]
      rw [← Nat.xor_assoc, eight8, stepN_xor]
      have := upd_xor (stepN 8 (x ^^^ c.toNat)) (stepN 8 d.toNat) l
      simp only [upd] at this
      rw [this, ← stepN_add]
      simp [List.length_cons, Nat.mul_add, Nat.add_comm, eight8]
    | succ p =>
      simp only [List.set_cons_succ, List.getD_cons_succ]
      have := ih (eight8 (x ^^^ c.toNat)) p (by simpa using hp)
      simp only [upd, List.foldl_cons] at this ⊢
      rw [this, List.length_cons, Nat.add_sub_add_right]
theorem stepN_two_pow (n k : Nat) (h : k ≤ n) : stepN n (2 ^ k) = stepN (n - k) 1 := by
  obtain ⟨m, rfl⟩ : ∃ m, n = k + m := ⟨n - k, by omega⟩
  rw [stepN_add, show 2 ^ k = 2 ^ k * 1 by omega, stepN_pow]
  congr 1; omega
theorem upd_flip (x : Nat) (l : List UInt8) (j : Nat) (hj : j < 8 * l.length) : upd x (flipB l j) = upd x l ^^^ stepN (8 * l.length - j) 1 := by
  unfold flipB
  rw [upd_set x l (j / 8) (by omega)]
  congr 1
  have e : (1 <<< (UInt8.ofNat (j % 8)) : UInt8).toNat = 2 ^ (j % 8) := by
    have : j % 8 < 8 := by omega
    revert this; generalize j % 8 = t; intro ht
    have : t = 0 ∨ t = 1 ∨ t = 2 ∨ t = 3 ∨ t = 4 ∨ t = 5 ∨ t = 6 ∨ t = 7 := by omega
    rcases this with rfl | rfl | rfl | rfl | rfl | rfl | rfl | rfl <;> decide
  rw [e, stepN_two_pow _ _ (by omega)]
  congr 1; omega
theorem flipB_length (l : List UInt8) (j : Nat) : (flipB l j).length = l.length := by simp [flipB]

/-- What k rounds have made of l: the bits of change from bit i on. -/
structure Burst (l F : List UInt8) (i change k : Nat) : Prop where
  len : F.length = l.length
  sum : ∀ x, upd x F = upd x l ^^^ stepN (8 * l.length - i) (change % 2 ^ k)
  same : change % 2 ^ k = 0 → F = l
theorem Burst.start (l : List UInt8) (i change : Nat) : Burst l l i change 0 :=
  ⟨rfl, fun x => by simp [Nat.mod_one, stepN_zero], fun _ => rfl⟩
theorem mod_succ (c k : Nat) : c % 2 ^ (k + 1) = c % 2 ^ k ^^^ (if c / 2 ^ k % 2 = 1 then 2 ^ k else 0) := by
  apply Nat.eq_of_testBit_eq
  intro i
  rw [Nat.testBit_xor, Nat.testBit_mod_two_pow, Nat.testBit_mod_two_pow]
  have hb : c.testBit k = decide (c / 2 ^ k % 2 = 1) := by rw [Nat.testBit_eq_decide_div_mod_eq]
  by_cases h1 : c / 2 ^ k % 2 = 1
  · rw [if_pos h1, Nat.testBit_two_pow]
    by_cases h2 : k = i
    · subst h2; simp [hb, h1]
    · simp [h2, show (i < k + 1) = (i < k) from propext (by omega)]
  · rw [if_neg h1]
    by_cases h2 : k = i
    · subst h2; simp [hb, h1]
    · simp [show (i < k + 1) = (i < k) from propext (by omega)]
theorem Burst.flip {l F : List UInt8} {i change k : Nat} (h : Burst l F i change k) (hk : i + k < 8 * l.length) (hb : change / 2 ^ k % 2 = 1) : Burst l (flipB F (i + k)) i change (k + 1) := by
  refine ⟨by rw [flipB_length, h.len], fun x => ?_, fun h0 => ?_⟩
  · rw [upd_flip x F (i + k) (by rw [h.len]; exact hk), h.sum, h.len, mod_succ, if_pos hb, stepN_xor, stepN_two_pow _ _ (by omega), Nat.xor_assoc]
    congr 3; omega
  · exfalso
    have hlt : change % 2 ^ k < 2 ^ k := Nat.mod_lt _ (Nat.two_pow_pos k)
    have h1 := congrArg (fun n => n.testBit k) (mod_succ change k)
    simp only [h0, if_pos hb, Nat.testBit_xor, Nat.zero_testBit, Nat.testBit_two_pow_self, Nat.testBit_lt_two_pow hlt] at h1
    cases h1
theorem Burst.keep {l F : List UInt8} {i change k : Nat} (h : Burst l F i change k) (hb : change / 2 ^ k % 2 ≠ 1) : Burst l F i change (k + 1) := by
  have e : change % 2 ^ (k + 1) = change % 2 ^ k := by rw [mod_succ, if_neg hb, Nat.xor_zero]
  exact ⟨h.len, fun x => by rw [e]; exact h.sum x, fun h0 => h.same (by rw [← e]; exact h0)⟩
/-- A string that is changed has another checksum. -/
theorem Burst.end {l F : List UInt8} {i change k : Nat} (h : Burst l F i change k) (hk : k ≤ 32) : csum F = csum l ↔ F = l := by
  refine ⟨fun he => h.same ?_, fun he => by rw [he]⟩
  unfold csum at he
  have h1 : upd 4294967295 F < 4294967296 := upd_lt (by omega)
  have h2 : upd 4294967295 l < 4294967296 := upd_lt (by omega)
  have e : upd 4294967295 F = upd 4294967295 l := by omega
  rw [h.sum] at e
  have e2 : stepN (8 * l.length - i) (change % 2 ^ k) = 0 := by
    have := congrArg (fun n => upd 4294967295 l ^^^ n) e
    simp only [← Nat.xor_assoc, Nat.xor_self, Nat.zero_xor] at this
    exact this
  refine stepN_ker ?_ e2
  have hlt : change % 2 ^ k < 2 ^ k := Nat.mod_lt _ (Nat.two_pow_pos k)
  have : 2 ^ k ≤ 2 ^ 32 := Nat.pow_le_pow_right (by omega) hk
  omega

/-! ### the reference, bit by bit -/
def refBit : Nat → Nat → Nat → Nat
  | 0, r, _ => r
  | k + 1, r, b => refBit k (if (r % 2 ^^^ b % 2) = 1 then r / 2 ^^^ poly else r / 2) (b / 2)
theorem xor_half (r b : Nat) : r ^^^ b = (r ^^^ (b % 2)) ^^^ (2 * (b / 2)) := by
  have h : b = (b % 2) ^^^ (2 * (b / 2)) := by
    have := split_low 1 b
    rw [Nat.pow_one] at this
    rw [Nat.xor_comm]; exact this
  rw [Nat.xor_assoc, ← h]
theorem one1_bit (r b : Nat) : one1 (r ^^^ (b % 2)) = if (r % 2 ^^^ b % 2) = 1 then r / 2 ^^^ poly else r / 2 := by
  unfold one1
  have e1 : (r ^^^ b % 2) % 2 = r % 2 ^^^ b % 2 := by
    rw [xor_two, Nat.mod_mod]
  rw [e1, Nat.xor_div_two, show b % 2 / 2 = 0 by omega, Nat.xor_zero]
theorem refBit_stepN (k r b : Nat) : stepN k (r ^^^ b) = refBit k r b ^^^ (b / 2 ^ k) := by
  induction k generalizing r b with
  | zero => simp [stepN, refBit]
  | succ k ih =>
    simp only [stepN, refBit]
    rw [xor_half r b, one1_xor, one1_two, one1_bit, ih, Nat.div_div_eq_div_mul, Nat.pow_succ, Nat.mul_comm 2]
theorem refBit_eight (r b : Nat) (hb : b < 256) : refBit 8 r b = eight8 (r ^^^ b) := by
  unfold eight8
  rw [refBit_stepN, show b / 2 ^ 8 = 0 by rw [Nat.div_eq_of_lt]; simpa using hb, Nat.xor_zero]
end Go.Proofs.Ytlonmghkdobhdaa
