/- What Number of package wire computes: a number in k bytes, the highest one first. Conditions: k is from 1 to 8; the number fits. -/
import Derived.Test.YtlonmghkdobhdaaWire2
import Derived.Laws.OwnMore
set_option linter.unusedSimpArgs false
set_option linter.unusedVariables false
namespace Go.Proofs.Ytlonmghkdobhdaa
open Go.RowKit

/-- The lowest j of k bytes of x, behind zeros. -/
def beTo (k j x : Nat) : List UInt8 := (List.range k).map fun p => if k ≤ p + j then UInt8.ofNat (x / 256 ^ (k - 1 - p)) else 0
def be (k x : Nat) : List UInt8 := (List.range k).map fun p => UInt8.ofNat (x / 256 ^ (k - 1 - p))
@[simp] theorem be_length (k x : Nat) : (be k x).length = k := by simp [be]
@[simp] theorem beTo_length (k j x : Nat) : (beTo k j x).length = k := by simp [beTo]
theorem beTo_all (k x : Nat) : beTo k k x = be k x := by
  unfold beTo be
  apply List.map_congr_left
  intro p hp
  rw [if_pos (by omega)]
theorem beTo_zero (k x : Nat) : beTo k 0 x = List.replicate k 0 := by
  apply List.ext_getElem
  · simp
  · intro i h1 h2
    simp [beTo] at h1 ⊢
    intro h; omega
theorem beTo_succ (k j x : Nat) (h : j < k) : (beTo k j x).set (k - 1 - j) (UInt8.ofNat (x / 256 ^ j)) = beTo k (j + 1) x := by
  apply List.ext_getElem
  · simp
  · intro i h1 h2
    simp at h1 h2
    by_cases hi : i = k - 1 - j
    · subst hi
      simp [beTo]
      rw [if_pos (by omega)]
      congr 3; omega
    · rw [List.getElem_set_ne (by omega)]
      simp [beTo]
      by_cases h3 : k ≤ i + j
      · rw [if_pos h3, if_pos (by omega)]
      · rw [if_neg h3, if_neg (by omega)]
theorem bv_set (l : List UInt8) (i : Nat) (hi : i < l.length) (c : UInt8) : putAt (bv l) i #[B8 c] = bv (l.set i c) := by
  apply Array.ext_getElem?
  intro p
  rw [putAt_get _ _ _ (by simp; omega)]
  by_cases h2 : p = i
  · subst h2; rw [if_pos (by simp)]; simp [bv, hi]
  · rw [if_neg (by simp; omega)]
    simp [bv, List.getElem?_set, show ¬ i = p by omega]

set_option maxHeartbeats 1600000 in
theorem wnumber_any (k x : Nat) (w : World) (hk1 : 1 ≤ k) (hk8 : k ≤ 8) (hx : x < 256 ^ k) (hx64 : x < 18446744073709551616) :
    Calls Try.prog 36 #[.int .i64 k, .int .u64 x] w fun e w' => (∃ B, w.heap.size ≤ B ∧ e = .returned (.tuple #[.slice (some ⟨B, 0, none⟩) k k, .bool true]) ∧ Bs w' (some ⟨B, 0, none⟩) k k (be k x)) ∧ Below w.heap.size w w' := by
  obtain ⟨i0, hi, hz, hsz, hby⟩ := info_parts view_u8
  have d1 : decide ((k : Int) < 1) = false := by simp; omega
  have d2 : decide ((8 : Int) < (k : Int)) = false := by simp; omega
  have d3 : decide ((1 : Int) ≤ (k : Int)) = true := by simp; omega
  have hmk := run_make (P := Try.prog) w 23 5 i0 _ Try.underlying23 hi hz .i64 .i64 k k (by omega) (Int.le_refl _) (by rw [hby]; omega) (by omega)
  simp only [Int.toNat_natCast, Value.cells] at hmk
  rw [hsz, Nat.mul_one] at hmk
  have hmc : madeCells #[Value.int .u8 0] k = bv (beTo k 0 x) := by
    rw [beTo_zero]
    apply Array.ext'
    rw [toList_madeCells_one]
    simp [bv, B8]
  rw [hmc] at hmk
  have hnz : ((x : Int) / 2 ^ (8 * k) != 0) = false := by
    have e : x / 2 ^ (8 * k) = 0 := Nat.div_eq_of_lt (by rw [Nat.pow_mul]; exact hx)
    have e2 : (x : Int) / 2 ^ (8 * k) = ((x / 2 ^ (8 * k) : Nat) : Int) := by push_cast; rfl
    rw [e2, e]; rfl
  have hx2 : x / 256 ^ 0 = x := by simp
  clear hmc
  have d4 : decide ((k : Int) < 8) = true ∨ decide ((k : Int) < 8) = false := by cases decide ((k : Int) < 8) <;> simp
  rcases d4 with d4 | d4
  all_goals
    go_enter Try.func36, Try.ntmps36
    go_wp2_with fail
    go_loopw [1, 7] (fun y i wr => ∃ (j : Nat) (q : Int), Hid (q + 1 + (j : Int) = k) ∧ -1 ≤ q ∧ i = .int .i64 q ∧ y = .int .u64 (x / 256 ^ j : Nat) ∧ readAt wr w.heap.size 0 k = some (bv (beTo k j x)) ∧ canAt wr w.heap.size 0 k = true ∧ Below w.heap.size w wr) (fun _ i _ => (intOf i + 1).toNat)
    case atStart => exact ⟨0, (k : Int) - 1, by show _ = _; omega, by omega, rfl, by rw [hx2], by simp [go_sem], by simp [go_sem], ba _ (Below.refl _ _)⟩
    case round =>
      obtain ⟨j, q, hq, hq1, rfl, rfl, hr, hc, hb⟩ := hrel
      by_cases hlt : 0 ≤ q
      · obtain ⟨p, rfl⟩ : ∃ p : Nat, q = p := ⟨q.toNat, by omega⟩
        have hjk : j < k := by have := hq.out; omega
        have hpk : p < k := by have := hq.out; omega
        have hpj : p = k - 1 - j := by have := hq.out; omega
        have hfr := canAt_cell hc p
        have hold := readAt_cell hr p (B8 ((beTo k j x).getD p 0)) (by simp [bv, hpk])
        rw [Nat.zero_add] at hfr hold
        have Hr := Lib.hid hr
        have Hc := Lib.hid hc
        have Hpj := Lib.hid hpj
        have hB : B8 (UInt8.ofNat (x / 256 ^ j)) = .int .u8 (((x / 256 ^ j : Nat) : Int) % 256) := by
          simp only [B8, Value.int.injEq, true_and, UInt8.toNat_ofNat']
          omega
        have HB := Lib.hid hB
        have hyx : x / 256 ^ j < 18446744073709551616 := Nat.lt_of_le_of_lt (Nat.div_le_self _ _) hx64
        have hdd : x / 256 ^ (j + 1) = x / 256 ^ j / 256 := by rw [Nat.pow_succ, Nat.div_div_eq_div_mul]
        have Hdd := Lib.hid hdd
        clear hr hc hpj hB hdd hx2
        generalize B8 ((beTo k j x).getD p 0) = old at *
        generalize hY : x / 256 ^ j = Y at *
        have HY := Lib.hid hY
        clear hY
        go_wp2
        go_roundw
        case rel =>
          refine ⟨j + 1, (p : Int) - 1, by have := hq.out; show _ = _; omega, by omega, rfl, by rw [Hdd.out]; rfl, ?_⟩
          have hcan1 := canAt_sub Hc.out p 1 (by omega)
          rw [setCell_setAt hcan1, ← HB.out]
          refine ⟨?_, ?_, setAt_below hb (Nat.le_refl _) _ _⟩
          · rw [readAt_setAt_over _ _ 0 k _ Hr.out Hc.out p _ (by omega) (by simp; omega), Nat.sub_zero, bv_set _ _ (by simpa using hpk), Hpj.out, ← HY.out]
            exact congrArg (fun l => some (bv l)) (beTo_succ k j x hjk)
          · rw [canAt_setAt _ _ _ _ _ _ _ (by simpa using hcan1)]; exact Hc.out
        case measure => simp [intOf]
      · obtain rfl : q = -1 := by omega
        have hjk : j = k := by have := hq.out; omega
        have hfin : Hid (Bs wr (some ⟨w.heap.size, 0, none⟩) k k (be k x)) := by
          subst hjk
          rw [beTo_all] at hr
          exact ⟨be_length _ _, Nat.le_refl _, by omega, fun h => (by cases h), fun _ => ⟨_, 0, rfl, hr⟩⟩
        clear hr hc hjk hq
        go_wp2
        go_ret2
        exact ⟨⟨_, Nat.le_refl _, rfl, hfin.out⟩, hb⟩
end Go.Proofs.Ytlonmghkdobhdaa
