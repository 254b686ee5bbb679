/- What times.Most, times.Window, times.Side and the reference Side compute. Conditions: integer arguments fit 64 bits; a slice reads as its numbers. -/
import Derived.Test.YtmmimjpgaalbcaaTimes
import Derived.Deep.RegionWith
namespace Go.Proofs.Ytmmimjpgaalbcaa
open Go.RowKit

theorem add_one (a b : Int) (B : Nat) (w : World) (ha : Is64 a) (hb : Is64 b) (hB : B < w.heap.size) (hc : w.cell? ⟨B, 0, none⟩ = some (.int .i64 b)) :
    Calls Try.prog 20 #[.int .i64 a, .slice (some ⟨B, 0, none⟩) 1 1] w fun e w' => e = .returned (.int .i64 (sat (a + b))) ∧ Below w.heap.size w w' := by
  refine (add_any a _ 1 1 [b] w ha ⟨rfl, by decide, by simpa using hb, fun _ => ⟨B, 0, rfl, hB, fun j hj => ?_⟩⟩)
  obtain rfl : j = 0 := by omega
  simpa using hc

def mosts (m : Int) (zs : List Int) : Int := zs.foldl max m
theorem mosts_snoc (a : Int) (zs : List Int) (k : Nat) (h : k < zs.length) : mosts a (zs.take (k + 1)) = max (mosts a (zs.take k)) (zs.getD k 0) := by
  unfold mosts; rw [List.take_succ_eq_append_getElem h, List.foldl_append]; simp [List.getD, h]
def low : Int := -9223372036854775808

theorem most_nil (ad : Option Addr) (c : Nat) (w : World) :
    Calls Try.prog 24 #[.slice ad 0 c] w fun e w' => e = .returned (.int .i64 low) ∧ w = w' := by
  go_enter Try.func24, Try.ntmps24
  go_wp2
  refine wp_loop_rounds 1 ?_
  rw [rounds_succ]
  go_wp2
  go_ret
  exact ⟨rfl, rfl⟩

set_option maxHeartbeats 400000 in
theorem most_some (b off n c : Nat) (zs : List Int) (w : World) (hl : zs.length = n) (hm : n ≤ 9223372036854775807)
    (hc : ∀ j, j < n → w.cell? ⟨b, off + j, none⟩ = some (.int .i64 (zs.getD j 0))) :
    Calls Try.prog 24 #[.slice (some ⟨b, off, none⟩) n c] w fun e w' => e = .returned (.int .i64 (mosts low zs)) ∧ w = w' := by
  have Hl := Lib.hid hl; clear hl
  go_enter Try.func24, Try.ntmps24
  go_wp2
  go_loop [3, 8] (fun m i => ∃ k : Nat, k ≤ n ∧ i = .int .i64 k ∧ m = .int .i64 (mosts low (zs.take k))) (fun _ i => n - (intOf i).toNat)
  case atStart => exact ⟨0, Nat.zero_le _, rfl, rfl⟩
  case round =>
    obtain ⟨k, hk, rfl, rfl⟩ := hrel
    by_cases hlt : k < n
    · have hcell := hc k hlt
      have hn := mosts_snoc low zs k (by rw [Hl.out]; exact hlt)
      have Hn := Lib.hid hn; clear hn
      clear hc
      generalize zs.getD k 0 = z at *
      generalize mosts low (zs.take k) = S at *
      by_cases hzs : S < z
      all_goals
        go_wp2
        go_round
        case rel => exact ⟨k + 1, by omega, by go_num, by rw [Hn.out]; go_num⟩
        case measure => simp [intOf]; omega
    · obtain rfl : k = n := by omega
      go_wp2
      go_ret
      refine ⟨ret_int ?_, rfl⟩
      rw [List.take_of_length_le (by rw [Hl.out]; exact Nat.le_refl _)]

theorem most_any (ad : Option Addr) (n c : Nat) (zs : List Int) (w : World) (h : IntsAt w ad n zs) :
    Calls Try.prog 24 #[.slice ad n c] w fun e w' => e = .returned (.int .i64 (mosts low zs)) ∧ w = w' := by
  obtain ⟨hl, hm, hz, hs⟩ := h
  by_cases h0 : 0 < n
  · obtain ⟨b, off, rfl, hb, hc⟩ := hs h0
    exact most_some b off n c zs w hl hm hc
  · obtain rfl : n = 0 := by omega
    obtain rfl : zs = [] := List.eq_nil_of_length_eq_zero hl
    exact most_nil ad c w

set_option maxHeartbeats 400000 in
theorem window_any (s e k : Int) (w : World) (hs : Is64 s) (he : Is64 e) (hk : Is64 k) :
    Calls Try.prog 23 #[.int .i64 s, .int .i64 e, .int .i64 k] w fun r w' => r = .returned (.tuple #[.int .i64 (sat (s - k)), .int .i64 (sat (e + k))]) ∧ Below w.heap.size w w' := by
  go_enter Try.func23, Try.ntmps23
  go_wp2_with fail
  refine (sub_any _ _ _ hs hk).mono ?_
  rintro _ w' ⟨rfl, rfl⟩
  go_wp2_with fail
  refine (add_one e k _ _ he hk (by simp) (by simp)).mono ?_
  rintro _ w' ⟨rfl, hb⟩
  go_wp2
  go_ret2
  exact ⟨rfl, ((Below.refl _ _).alloc (Nat.le_refl _) _).trans (hb.mono (by simp))⟩

def side (t s e k : Int) : Int := if t < sat (s - k) then -1 else if sat (e + k) < t then 1 else 0

set_option maxHeartbeats 400000 in
theorem side_any (t s e k : Int) (w : World) (hs : Is64 s) (he : Is64 e) (hk : Is64 k) :
    Calls Try.prog 19 #[.int .i64 t, .int .i64 s, .int .i64 e, .int .i64 k] w fun r w' => r = .returned (.int .i64 (side t s e k)) ∧ Below w.heap.size w w' := by
  go_enter Try.func19, Try.ntmps19
  go_wp2_with fail
  refine (window_any s e k _ hs he hk).mono ?_
  rintro _ w' ⟨rfl, hb⟩
  go_wp2
  all_goals
    go_ret
    exact ⟨ret_int (by unfold side; (repeat' split) <;> omega), hb⟩

end Go.Proofs.Ytmmimjpgaalbcaa
