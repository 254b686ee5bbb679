/- What the functions times.Sub, times.Apart, times.Add and their references compute: sums and differences cut off at the ends of the 64 bits. Conditions: integer arguments fit 64 bits; a slice reads as its numbers. -/
import Derived.Test.YtmmimjpgaalbcaaProg
import Derived.WalkKit
import Derived.WalkLawsBesides
import Derived.WalkSpells
import Derived.BigQuiet
import Derived.Deep.QuietTactic
import Derived.Lib.Hide
namespace Go.Proofs.Ytmmimjpgaalbcaa
open Go.RowKit

def sat (x : Int) : Int := if x < -9223372036854775808 then -9223372036854775808 else if 9223372036854775807 < x then 9223372036854775807 else x
def Is64 (x : Int) : Prop := -9223372036854775808 ≤ x ∧ x ≤ 9223372036854775807
theorem ret_int {k : IntKind} {a b : Int} (h : a = b) : Ending.returned (.int k a) = .returned (.int k b) := by rw [h]
theorem sat_is (x : Int) : Is64 (sat x) := by simp only [Is64, sat]; (repeat' split) <;> omega

set_option maxHeartbeats 400000 in
theorem sub_any (a b : Int) (w : World) (ha : Is64 a) (hb : Is64 b) :
    Calls Try.prog 35 #[.int .i64 a, .int .i64 b] w fun e w' => e = .returned (.int .i64 (sat (a - b))) ∧ w = w' := by
  go_enter Try.func35, Try.ntmps35
  go_wp2
  all_goals
    go_ret
    refine ⟨ret_int ?_, rfl⟩
    simp only [Is64, sat, wrap64] at *
    (repeat' split) <;> omega

set_option maxHeartbeats 400000 in
theorem radd_any (a b : Int) (w : World) (ha : Is64 a) (hb : Is64 b) :
    Calls Try.prog 10 #[.int .i64 a, .int .i64 b] w fun e w' => e = .returned (.int .i64 (sat (a + b))) ∧ w = w' := by
  unfold Is64 at ha hb
  go_enter Try.func10, Try.ntmps10
  go_wp2
  all_goals go_ret
  all_goals refine ⟨ret_int ?_, rfl⟩
  all_goals simp only [sat]
  all_goals (repeat' split) <;> omega

set_option maxHeartbeats 400000 in
theorem rsub_any (a b : Int) (w : World) (ha : Is64 a) (hb : Is64 b) :
    Calls Try.prog 25 #[.int .i64 a, .int .i64 b] w fun e w' => e = .returned (.int .i64 (sat (a - b))) ∧ w = w' := by
  unfold Is64 at ha hb
  go_enter Try.func25, Try.ntmps25
  go_wp2
  all_goals go_ret
  all_goals refine ⟨ret_int ?_, rfl⟩
  all_goals simp only [sat]
  all_goals (repeat' split) <;> omega

set_option maxHeartbeats 400000 in
theorem apart_any (a b : Int) (w : World) (ha : Is64 a) (hb : Is64 b) :
    Calls Try.prog 33 #[.int .i64 a, .int .i64 b] w fun e w' => e = .returned (.int .i64 (sat (max a b - min a b))) ∧ w = w' := by
  by_cases h : a < b
  · go_enter Try.func33, Try.ntmps33
    go_wp2_with fail
    refine (sub_any _ _ _ hb ha).mono ?_
    rintro e w' ⟨rfl, rfl⟩
    go_wp2
    go_ret
    exact ⟨ret_int (by congr 1; omega), rfl⟩
  · by_cases h2 : b < a
    · go_enter Try.func33, Try.ntmps33
      go_wp2_with fail
      refine (sub_any _ _ _ ha hb).mono ?_
      rintro e w' ⟨rfl, rfl⟩
      go_wp2
      go_ret
      exact ⟨ret_int (by congr 1; omega), rfl⟩
    · obtain rfl : a = b := by omega
      go_enter Try.func33, Try.ntmps33
      go_wp2_with fail
      refine (sub_any _ _ _ ha hb).mono ?_
      rintro e w' ⟨rfl, rfl⟩
      go_wp2
      go_ret
      exact ⟨ret_int (by congr 1; omega), rfl⟩

set_option maxHeartbeats 400000 in
theorem rapart_any (a b : Int) (w : World) (ha : Is64 a) (hb : Is64 b) :
    Calls Try.prog 27 #[.int .i64 a, .int .i64 b] w fun e w' => e = .returned (.int .i64 (sat (max a b - min a b))) ∧ w = w' := by
  by_cases h : a < b
  · go_enter Try.func27, Try.ntmps27
    go_wp2_with fail
    refine (rsub_any _ _ _ hb ha).mono ?_
    rintro e w' ⟨rfl, rfl⟩
    go_wp2
    go_ret
    exact ⟨ret_int (by congr 1; omega), rfl⟩
  · go_enter Try.func27, Try.ntmps27
    go_wp2_with fail
    refine (rsub_any _ _ _ ha hb).mono ?_
    rintro e w' ⟨rfl, rfl⟩
    go_wp2
    go_ret
    exact ⟨ret_int (by congr 1; omega), rfl⟩


theorem ret_none {w w' : World} (h : w = w') : (Ending.returned (.tuple #[]) = .returned (.tuple #[]) ∧ w = w') := ⟨rfl, h⟩
theorem world_int {w : World} {a b : Int} {T : TypeId} (h : a = b) : w.alloc (.cells #[.int .i64 a] T) = w.alloc (.cells #[.int .i64 b] T) := by rw [h]

set_option maxHeartbeats 400000 in
theorem add1_any (a b : Int) (w : World) (ha : Is64 a) (hb : Is64 b) :
    Calls Try.prog 28 #[.int .i64 b, .pointer (some ⟨w.heap.size, 0, none⟩)] (w.alloc (.cells #[.int .i64 a] 2)) fun e w' => e = .returned (.tuple #[]) ∧ w' = w.alloc (.cells #[.int .i64 (sat (a + b))] 2) := by
  go_enter Try.func28, Try.ntmps28
  go_wp2
  all_goals
    go_end0
    refine ⟨rfl, world_int ?_⟩
    simp only [Is64, sat, wrap64] at *
    (repeat' split) <;> omega

/-- A slice of int64 that reads as zs. -/
def IntsAt (w : World) (ad : Option Addr) (n : Nat) (zs : List Int) : Prop :=
  zs.length = n ∧ n ≤ 9223372036854775807 ∧ (∀ z ∈ zs, Is64 z) ∧ (0 < n → ∃ b off, ad = some ⟨b, off, none⟩ ∧ b < w.heap.size ∧ ∀ j, j < n → w.cell? ⟨b, off + j, none⟩ = some (.int .i64 (zs.getD j 0)))

def sums (a : Int) (zs : List Int) : Int := zs.foldl (fun a b => sat (a + b)) a
theorem sums_snoc (a : Int) (zs : List Int) (k : Nat) (h : k < zs.length) : sums a (zs.take (k + 1)) = sat (sums a (zs.take k) + zs.getD k 0) := by
  unfold sums; rw [List.take_succ_eq_append_getElem h, List.foldl_append]; simp [List.getD, h]
theorem sums_is (a : Int) (zs : List Int) (ha : Is64 a) : Is64 (sums a zs) := by
  unfold sums
  induction zs generalizing a with
  | nil => exact ha
  | cons z zs ih => exact ih _ (sat_is _)

theorem add_nil (a : Int) (ad : Option Addr) (c : Nat) (w : World) :
    Calls Try.prog 20 #[.int .i64 a, .slice ad 0 c] w fun e w' => e = .returned (.int .i64 a) ∧ Below w.heap.size w w' := by
  go_enter Try.func20, Try.ntmps20
  go_wp2
  refine wp_loop_rounds 1 ?_
  rw [rounds_succ]
  go_wp2
  go_ret
  exact ⟨rfl, (Below.refl _ _).alloc (Nat.le_refl _) _⟩

set_option maxHeartbeats 400000 in
theorem add_some (a : Int) (b off n c : Nat) (zs : List Int) (w : World) (ha : Is64 a) (hl : zs.length = n) (hm : n ≤ 9223372036854775807) (hz : ∀ z ∈ zs, Is64 z) (hb : b < w.heap.size)
    (hc : ∀ j, j < n → w.cell? ⟨b, off + j, none⟩ = some (.int .i64 (zs.getD j 0))) :
    Calls Try.prog 20 #[.int .i64 a, .slice (some ⟨b, off, none⟩) n c] w fun e w' => e = .returned (.int .i64 (sums a zs)) ∧ Below w.heap.size w w' := by
  have Hl := Lib.hid hl; clear hl
  go_enter Try.func20, Try.ntmps20
  go_wp2
  go_loopw [11] (fun i wr => ∃ k : Nat, k ≤ n ∧ i = .int .i64 k ∧ wr = w.alloc (.cells #[.int .i64 (sums a (zs.take k))] 2)) (fun i _ => n - (intOf i).toNat)
  case atStart => exact ⟨0, Nat.zero_le _, rfl, rfl⟩
  case round =>
    obtain ⟨k, hk, rfl, rfl⟩ := hrel
    by_cases hlt : k < n
    · have hcell : ∀ v, (w.alloc (.cells #[v] 2)).cell? ⟨b, off + k, none⟩ = some (.int .i64 (zs.getD k 0)) := fun v => by
        rw [World.cell?_alloc_past _ _ _ hb]; exact hc k hlt
      have hs := sums_is a (zs.take k) ha
      have hzk : Is64 (zs.getD k 0) := by
        have h1 : k < zs.length := by rw [Hl.out]; exact hlt
        have := hz (zs[k]) (List.getElem_mem h1); simpa [List.getD, h1] using this
      have hn := sums_snoc a zs k (by rw [Hl.out]; exact hlt)
      have Hn := Lib.hid hn; clear hn
      clear hc
      generalize zs.getD k 0 = z at *
      generalize sums a (zs.take k) = S at *
      go_wp2_with fail
      refine (add1_any S z w hs hzk).mono ?_
      rintro _ w1 ⟨rfl, rfl⟩
      go_wp2
      go_roundw
      case rel => exact ⟨k + 1, by omega, by go_num, by rw [Hn.out]⟩
      case measure => simp [intOf]; omega
    · obtain rfl : k = n := by omega
      go_wp2
      go_ret
      refine ⟨ret_int ?_, (Below.refl _ _).alloc (Nat.le_refl _) _⟩
      rw [List.take_of_length_le (by rw [Hl.out]; exact Nat.le_refl _)]

theorem add_any (a : Int) (ad : Option Addr) (n c : Nat) (zs : List Int) (w : World) (ha : Is64 a) (h : IntsAt w ad n zs) :
    Calls Try.prog 20 #[.int .i64 a, .slice ad n c] w fun e w' => e = .returned (.int .i64 (sums a zs)) ∧ Below w.heap.size w w' := by
  obtain ⟨hl, hm, hz, hs⟩ := h
  by_cases h0 : 0 < n
  · obtain ⟨b, off, rfl, hb, hc⟩ := hs h0
    exact add_some a b off n c zs w ha hl hm hz hb hc
  · obtain rfl : n = 0 := by omega
    obtain rfl : zs = [] := List.eq_nil_of_length_eq_zero hl
    exact add_nil a ad c w
end Go.Proofs.Ytmmimjpgaalbcaa
