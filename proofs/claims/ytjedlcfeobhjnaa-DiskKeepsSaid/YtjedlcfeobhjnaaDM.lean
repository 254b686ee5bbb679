/- The disk as a value, and its operations. Plain law; no program in sight. -/
import Derived.Test.YtjedlcfeobhjnaaSec7
set_option linter.unusedSimpArgs false
set_option linter.unusedVariables false
namespace Go.Proofs.Ytjedlcfeobhjnaa
open Go.RowKit

structure Evt where
  step : Int
  crash : Bool
  cuts : List Int
structure DM where
  st : List Sec
  op : List (Int × Sec)
  down : Bool
  steps : Int
  plan : List Evt

/-- Which steps fail, and in which the machine crashes, with which cuts. -/
def evF (l : List Evt) (k : Int) : Bool := l.any fun e => decide (e.step = k) && !e.crash
def evC (l : List Evt) (k : Int) : Option (List Int) := l.foldl (fun r e => if e.step = k ∧ e.crash = true then some e.cuts else r) none
theorem evF_snoc (l : List Evt) (e : Evt) (k : Int) : evF (l ++ [e]) k = (evF l k || (decide (e.step = k) && !e.crash)) := by simp [evF]
theorem evC_snoc (l : List Evt) (e : Evt) (k : Int) : evC (l ++ [e]) k = if e.step = k ∧ e.crash = true then some e.cuts else evC l k := by simp [evC]

/-- The index of the last write of a sector; what is read there. -/
def lastG (k : Int) : Nat → List (Int × Sec) → Option Nat → Option Nat
  | _, [], r => r
  | i, p :: l, r => lastG k (i + 1) l (if p.1 = k then some i else r)
theorem lastG_snoc (k : Int) : ∀ (l : List (Int × Sec)) (i : Nat) (r : Option Nat) (p : Int × Sec), lastG k i (l ++ [p]) r = if p.1 = k then some (i + l.length) else lastG k i l r
  | [], i, r, p => by simp [lastG]
  | q :: l, i, r, p => by
    simp only [List.cons_append, lastG, lastG_snoc k l, List.length_cons]
    split
    · congr 1; omega
    · rfl
def lastI (l : List (Int × Sec)) (k : Int) : Option Nat := lastG k 0 l none
theorem lastI_nil (k : Int) : lastI [] k = none := rfl
theorem lastI_snoc (l : List (Int × Sec)) (p : Int × Sec) (k : Int) : lastI (l ++ [p]) k = if p.1 = k then some l.length else lastI l k := by
  unfold lastI; rw [lastG_snoc, Nat.zero_add]
def opGet (l : List (Int × Sec)) (k : Int) (s : Sec) : Sec := l.foldl (fun r p => if p.1 = k then p.2 else r) s
theorem opGet_snoc (l : List (Int × Sec)) (p : Int × Sec) (k : Int) (s : Sec) : opGet (l ++ [p]) k s = if p.1 = k then p.2 else opGet l k s := by simp [opGet]
theorem snoc_ind {α : Type} {motive : List α → Prop} (h0 : motive []) (h1 : ∀ l a, motive l → motive (l ++ [a])) (l : List α) : motive l := by
  have : ∀ n, ∀ l : List α, l.length = n → motive l := by
    intro n
    induction n with
    | zero => intro l hl; rw [List.eq_nil_of_length_eq_zero hl]; exact h0
    | succ n ih =>
      intro l hl
      have hne : l ≠ [] := by rintro rfl; cases hl
      rw [← List.dropLast_concat_getLast hne]
      exact h1 _ _ (ih _ (by simp; omega))
  exact this _ l rfl
theorem last_get (l : List (Int × Sec)) (k : Int) (s : Sec) : (lastI l k = none ∧ opGet l k s = s) ∨ ∃ i p, lastI l k = some i ∧ l[i]? = some p ∧ p.1 = k ∧ opGet l k s = p.2 := by
  induction l using snoc_ind with
  | h0 => exact .inl ⟨rfl, rfl⟩
  | h1 l a ih =>
    rw [lastI_snoc, opGet_snoc]
    by_cases h : a.1 = k
    · rw [if_pos h, if_pos h]
      exact .inr ⟨l.length, a, rfl, by simp, h, rfl⟩
    · rw [if_neg h, if_neg h]
      rcases ih with ih | ⟨i, p, h1, h2, h3⟩
      · exact .inl ih
      · exact .inr ⟨i, p, h1, by rw [List.getElem?_append_left (List.getElem?_eq_some_iff.1 h2).1]; exact h2, h3⟩

def hasD (D : DM) (k : Int) : Bool := decide (0 ≤ k) && decide (k < D.st.length)
def newD (n : Int) : DM := { st := List.replicate (min (max n 0) 4096).toNat zsec, op := [], down := false, steps := 0, plan := [] }
def readD (D : DM) (k : Int) : Sec × Int :=
  if D.down = true then (zsec, 12) else if hasD D k = false then (zsec, 15) else (opGet D.op k (D.st.getD k.toNat zsec), 0)
def crashD (D : DM) (cuts : List Int) : DM := { D with st := crashK D.st D.op (cutAt cuts) D.op.length, op := [], down := true }
def tickD (D : DM) : DM := { D with steps := D.steps + 1 }
def addD (D : DM) (k : Int) (x : Sec) : DM := if hasD D k = true then { D with op := D.op ++ [(k, x)] } else D
def flushD (D : DM) : DM := { D with st := crashK D.st D.op (fun _ => 64) D.op.length, op := [] }
def writeD (D : DM) (k : Int) (x : Sec) : DM × Int :=
  if D.down = true then (D, 12) else
  match evC D.plan (D.steps + 1) with
  | some cuts => (crashD (addD (tickD D) k x) cuts, 12)
  | none => if evF D.plan (D.steps + 1) = true then (tickD D, 11) else if hasD D k = true then (addD (tickD D) k x, 0) else (tickD D, 15)
def syncD (D : DM) : DM × Int :=
  if D.down = true then (D, 12) else
  match evC D.plan (D.steps + 1) with
  | some cuts => (crashD (tickD D) cuts, 12)
  | none => if evF D.plan (D.steps + 1) = true then (tickD D, 11) else (flushD (tickD D), 0)
def planD (D : DM) (n : Int) (crash : Bool) (cuts : List Int) : DM := if n < 1 then D else { D with plan := D.plan ++ [⟨D.steps + n, crash, cuts⟩] }
def startD (D : DM) : DM := { D with down := false }

/-! ### what the operations leave as it is -/
@[simp] theorem addD_st (D : DM) (k : Int) (x : Sec) : (addD D k x).st = D.st := by unfold addD; split <;> rfl
@[simp] theorem addD_steps (D : DM) (k : Int) (x : Sec) : (addD D k x).steps = D.steps := by unfold addD; split <;> rfl
@[simp] theorem addD_plan (D : DM) (k : Int) (x : Sec) : (addD D k x).plan = D.plan := by unfold addD; split <;> rfl
@[simp] theorem addD_down (D : DM) (k : Int) (x : Sec) : (addD D k x).down = D.down := by unfold addD; split <;> rfl
@[simp] theorem tickD_st (D : DM) : (tickD D).st = D.st := rfl
@[simp] theorem tickD_op (D : DM) : (tickD D).op = D.op := rfl
@[simp] theorem tickD_plan (D : DM) : (tickD D).plan = D.plan := rfl
@[simp] theorem crashD_len (D : DM) (cuts : List Int) : (crashD D cuts).st.length = D.st.length := crashK_length _ _ _ _
@[simp] theorem flushD_len (D : DM) : (flushD D).st.length = D.st.length := crashK_length _ _ _ _
theorem hasD_tick (D : DM) (k : Int) : hasD (tickD D) k = hasD D k := rfl

/-- The open writes are to sectors that there are; the numbers are small. -/
structure OkD (D : DM) (n m : Nat) : Prop where
  len : D.st.length = n
  at_ : ∀ p ∈ D.op, 0 ≤ p.1 ∧ p.1 < n
  few : D.op.length ≤ m
  s0 : 0 ≤ D.steps
  s1 : D.steps ≤ m
theorem OkD.more {D : DM} {n m m' : Nat} (h : OkD D n m) (hm : m ≤ m') : OkD D n m' := ⟨h.len, h.at_, Nat.le_trans h.few hm, h.s0, Int.le_trans h.s1 (by omega)⟩
theorem OkD.tick {D : DM} {n m : Nat} (h : OkD D n m) : OkD (tickD D) n (m + 1) := ⟨h.len, h.at_, Nat.le_trans h.few (Nat.le_succ _), by have := h.s0; show 0 ≤ D.steps + 1; omega, by have := h.s1; show D.steps + 1 ≤ _; omega⟩
theorem OkD.add {D : DM} {n m : Nat} (h : OkD D n m) (k : Int) (x : Sec) : OkD (addD D k x) n (m + 1) := by
  unfold addD
  split
  · rename_i hk
    simp only [hasD, Bool.and_eq_true, decide_eq_true_eq, h.len] at hk
    refine ⟨h.len, fun p hp => ?_, by have := h.few; simp; omega, h.s0, by have := h.s1; show D.steps ≤ _; omega⟩
    rcases List.mem_append.1 hp with hp | hp
    · exact h.at_ p hp
    · obtain rfl : p = (k, x) := by simpa using hp
      exact hk
  · exact h.more (Nat.le_succ _)
theorem OkD.crash {D : DM} {n m : Nat} (h : OkD D n m) (cuts : List Int) : OkD (crashD D cuts) n m := ⟨by rw [crashD_len]; exact h.len, fun p hp => (by cases hp), by simp [crashD], h.s0, h.s1⟩
theorem OkD.flush {D : DM} {n m : Nat} (h : OkD D n m) : OkD (flushD D) n m := ⟨by rw [flushD_len]; exact h.len, fun p hp => (by cases hp), by simp [flushD], h.s0, h.s1⟩
theorem OkD.plan {D : DM} {n m : Nat} (h : OkD D n m) (k : Int) (c : Bool) (cuts : List Int) : OkD (planD D k c cuts) n m := by
  unfold planD; split
  · exact h
  · exact ⟨h.len, h.at_, h.few, h.s0, h.s1⟩
theorem OkD.start {D : DM} {n m : Nat} (h : OkD D n m) : OkD (startD D) n m := ⟨h.len, h.at_, h.few, h.s0, h.s1⟩
end Go.Proofs.Ytjedlcfeobhjnaa
