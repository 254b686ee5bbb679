/- The law CrcSteps returns true. Conditions: the numbers fit their kinds. -/
import Derived.Test.YtmkiggcghbeacaaCrcAw
set_option linter.unusedSimpArgs false
set_option linter.unusedVariables false
namespace Go.Proofs.Ytmkiggcghbeacaa
open Go.RowKit

set_option maxHeartbeats 1600000 in
theorem law_steps (x y n m : Nat) (w : World) (hx : x < 4294967296) (hy : y < 4294967296) (hn : n < 256) (hm : m < 256) :
    Calls Try.prog 6 #[.int .u32 x, .int .u32 y, .int .u8 n, .int .u8 m] w fun r w' => r = .returned (.bool true) ∧ Below w.heap.size w w' := by
  have h64 : ∀ k : Nat, k < 1000 → Is64 (k : Int) := fun k hk => by unfold Is64; omega
  have H64 := Lib.hid h64
  have hxy := xor_u32 x y hx hy
  have hxyl := xor_lt x y hx hy
  clear h64
  go_enter Try.func6, Try.ntmps6
  go_wp2_with fail
  refine (awake_any _).mono ?_
  rintro _ w1 ⟨rfl, hb1⟩
  go_wp2_with fail
  go_loop [9, 10] (fun v i => ∃ k : Nat, k ≤ n ∧ i = .int .i64 k ∧ v = .int .u32 (stepN k x : Nat)) (fun _ i => n - (intOf i).toNat)
  case atStart => exact ⟨0, by omega, rfl, rfl⟩
  case round =>
    obtain ⟨k, hk, rfl, rfl⟩ := hrel
    by_cases hlt : k < n
    · have hq : stepN k x < 4294967296 := stepN_lt hx
      have hsu := stepN_succ k x
      generalize stepN k x = q at *
      have Hsu := Lib.hid hsu
      clear hsu
      have e2 : bits .xor .u32 ((q : Int) / 2) 2197175160 = ((q / 2 ^^^ poly : Nat) : Int) := by
        have := u32_xor_nat (q / 2) 2197175160 (by omega) (by omega)
        rw [show ((2197175160 : Nat) : Int) = 2197175160 by rfl] at this
        exact this
      by_cases h : q % 2 = 1
      · have hf : stepN (k + 1) x = (q / 2 ^^^ poly) := by rw [Hsu.out]; unfold one1; rw [if_pos h]
        have Hf := Lib.hid hf
        clear hf
        go_wp2
        go_round
        case rel => exact ⟨k + 1, by omega, by go_num, by rw [Hf.out]⟩
        case measure => simp [intOf]; omega
      · have hf : stepN (k + 1) x = q / 2 := by rw [Hsu.out]; unfold one1; rw [if_neg h]
        have Hf := Lib.hid hf
        have h0 : q % 2 = 0 := by omega
        clear hf h
        go_wp2
        go_round
        case rel => exact ⟨k + 1, by omega, by go_num, by rw [Hf.out]; rfl⟩
        case measure => simp [intOf]; omega
    · obtain rfl : k = n := by omega
      have hq : stepN k x < 4294967296 := stepN_lt hx
      have hr : stepN k y < 4294967296 := stepN_lt hy
      have h1 := stepN_add k m x
      have h2 := stepN_xor k x y
      have h3 := xor_u32 _ _ hq hr
      have H1 := Lib.hid h1
      have H2 := Lib.hid h2
      clear h1 h2
      go_wp2_with fail
      refine (step_any x k _ hx (H64.out k (by omega))).mono ?_
      rw [Int.toNat_natCast]
      rintro _ _ ⟨rfl, rfl⟩
      go_wp2_with fail
      refine (step_any x k _ hx (H64.out k (by omega))).mono ?_
      rw [Int.toNat_natCast]
      rintro _ _ ⟨rfl, rfl⟩
      go_wp2_with fail
      refine (step_any (stepN k x) m _ hq (H64.out m (by omega))).mono ?_
      rw [Int.toNat_natCast, ← H1.out]
      rintro _ _ ⟨rfl, rfl⟩
      go_wp2_with fail
      refine (step_any x ((k : Int) + (m : Int)) _ hx (by unfold Is64; omega)).mono ?_
      rw [show ((k : Int) + (m : Int)).toNat = k + m by omega]
      rintro _ _ ⟨rfl, rfl⟩
      go_wp2_with fail
      refine (step_any (x ^^^ y) k _ hxyl (H64.out k (by omega))).mono ?_
      rw [Int.toNat_natCast, H2.out]
      rintro _ _ ⟨rfl, rfl⟩
      go_wp2_with fail
      refine (step_any x k _ hx (H64.out k (by omega))).mono ?_
      rw [Int.toNat_natCast]
      rintro _ _ ⟨rfl, rfl⟩
      go_wp2_with fail
      refine (step_any y k _ hy (H64.out k (by omega))).mono ?_
      rw [Int.toNat_natCast]
      rintro _ _ ⟨rfl, rfl⟩
      go_wp2
      go_ret
      exact ⟨rfl, hb1⟩

theorem law_stepsI (x y n m : Int) (w : World) (hx : 0 ≤ x ∧ x ≤ 4294967295) (hy : 0 ≤ y ∧ y ≤ 4294967295) (hn : 0 ≤ n ∧ n ≤ 255) (hm : 0 ≤ m ∧ m ≤ 255) :
    Calls Try.prog 6 #[.int .u32 x, .int .u32 y, .int .u8 n, .int .u8 m] w fun r w' => r = .returned (.bool true) ∧ Below w.heap.size w w' := by
  obtain ⟨x, rfl⟩ := Int.eq_ofNat_of_zero_le hx.1
  obtain ⟨y, rfl⟩ := Int.eq_ofNat_of_zero_le hy.1
  obtain ⟨n, rfl⟩ := Int.eq_ofNat_of_zero_le hn.1
  obtain ⟨m, rfl⟩ := Int.eq_ofNat_of_zero_le hm.1
  exact law_steps x y n m w (by omega) (by omega) (by omega) (by omega)
end Go.Proofs.Ytmkiggcghbeacaa
