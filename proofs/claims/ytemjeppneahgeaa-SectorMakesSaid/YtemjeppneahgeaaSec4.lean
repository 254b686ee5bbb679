/- The law SectorMakes returns true. Condition: the slice of bytes reads as its bytes. -/
import Derived.Test.YtemjeppneahgeaaSec3
set_option linter.unusedSimpArgs false
set_option linter.unusedVariables false
namespace Go.Proofs.Ytemjeppneahgeaa
open Go.RowKit

theorem secOf_get (l : List UInt8) (k : Nat) (hk : k < 64) : (secOf l)[k] = l.getD k 0 := by simp [secOf]
theorem bv_get (l : List UInt8) (k : Nat) (hk : k < l.length) : (bv l)[k]? = some (.int .u8 ((l.getD k 0).toNat : Int)) := by
  simp [bv, hk, B8, List.getD]

theorem makes_big (ad : Option Addr) (n c : Nat) (w : World) (h : 200 < n) :
    Calls Try.prog 4 #[.slice ad n c] w fun r w' => r = .returned (.bool true) ∧ Below w.heap.size w w' := by
  go_enter Try.func4, Try.ntmps4
  go_wp2_with fail
  refine (awake_any _).mono ?_
  rintro _ w1 ⟨rfl, hb1⟩
  go_wp2_with fail
  refine (awake_any _).mono ?_
  rintro _ w2 ⟨rfl, hb2⟩
  go_wp2
  go_ret
  exact ⟨rfl, bt hb1 hb2⟩

theorem makes_mid (ad : Option Addr) (n c : Nat) (w : World) (h : 64 < n) (h2 : n ≤ 200) :
    Calls Try.prog 4 #[.slice ad n c] w fun r w' => r = .returned (.bool true) ∧ Below w.heap.size w w' := by
  have hz : (zsec == zsec) = true := by simp
  go_enter Try.func4, Try.ntmps4
  go_wp2_with fail
  refine (awake_any _).mono ?_
  rintro _ w1 ⟨rfl, hb1⟩
  go_wp2_with fail
  refine (make_no ad n c _ h).mono ?_
  rintro _ w2 ⟨rfl, hb2⟩
  go_wp2
  go_ret
  exact ⟨rfl, ba _ (bt hb1 hb2)⟩

set_option maxHeartbeats 400000 in
theorem makes_small (ad : Option Addr) (n c : Nat) (l : List UInt8) (w : World) (hr : BytesAt w ad n l) (h : n ≤ 64) :
    Calls Try.prog 4 #[.slice ad n c] w fun r w' => r = .returned (.bool true) ∧ Below w.heap.size w w' := by
  have hz : (zsec == zsec) = true := by simp
  go_enter Try.func4, Try.ntmps4
  go_wp2_with fail
  refine (awake_any _).mono ?_
  rintro _ w1 ⟨rfl, hb1⟩
  have hr1 := hr.below hb1
  go_wp2_with fail
  refine (make_yes ad n c l _ hr1 h).mono ?_
  rintro _ w2 ⟨rfl, hb2⟩
  have Hr2 := Lib.hid (hr1.below hb2)
  have hb3 := bt hb1 hb2
  clear hb1 hb2 hr hr1
  go_wp2_with fail
  obtain ⟨wo, hwo⟩ : ∃ wo : World, wo = w2.alloc (.cells (av (secOf l)) 22) := ⟨_, rfl⟩
  have Hs : Hid (readAt wo w2.heap.size 0 64 = some (av (secOf l))) := by show _ = _; subst hwo; simp [go_sem]
  have Hr3 : Hid (BytesAt wo ad n l) := by show BytesAt wo ad n l; subst hwo; exact Hr2.out.below (ba _ (Below.refl _ _))
  have hb4 : Below w.heap.size w wo := by subst hwo; exact ba _ hb3
  rw [← hwo]
  clear hwo Hr2 hb3
  go_loopw [5] (fun i wr => ∃ k : Nat, k ≤ 64 ∧ i = .int .i64 k ∧ Below wo.heap.size wo wr) (fun i _ => 64 - (intOf i).toNat)
  case atStart => exact ⟨0, by omega, rfl, Below.refl _ _⟩
  case round =>
    obtain ⟨k, hk, rfl, hbr⟩ := hrel
    have hlt2 := readAt_lt Hs.out
    have hr := Hr3.out.below hbr
    by_cases hlt : k < 64
    · have hs1 : readAt wr w2.heap.size 0 64 = some (av (secOf l)) := by rw [readAt_below hbr hlt2]; exact Hs.out
      have hcs := readAt_cell hs1 k _ (av_get _ k hlt)
      rw [Nat.zero_add, secOf_get l k hlt] at hcs
      obtain ⟨hl, _, hrd⟩ := hr
      have Hl := Lib.hid hl
      by_cases hkn : k < n
      · obtain ⟨b, o, rfl, hrd2⟩ := hrd (by omega)
        have hcb := readAt_cell hrd2 k _ (bv_get l k (by omega))
        clear hl hrd hrd2 hs1
        generalize (l.getD k 0).toNat = X at *
        have hd : decide ((k : Int) < (n : Int)) = true := by simp; omega
        have hd2 : decide ((n : Int) ≤ (k : Int)) = false := by simp; omega
        have hd3 : decide (n ≤ k) = false := by simp; omega
        go_wp2_with fail
        go_quiet (fail)
        go_wp2
        go_roundw
        case rel => exact ⟨k + 1, by omega, by go_num, ⟨hbr.os, hbr.tape, hbr.output, hbr.size, hbr.block⟩⟩
        case measure => simp [intOf]; omega
      · have e0 : l.getD k 0 = 0 := by rw [List.getD_eq_getElem?_getD, List.getElem?_eq_none (by omega)]; rfl
        rw [e0] at hcs
        clear hl hrd hs1 e0
        have hd : decide ((k : Int) < (n : Int)) = false := by simp; omega
        have hd2 : decide ((n : Int) ≤ (k : Int)) = true := by simp; omega
        have hd3 : decide (n ≤ k) = true := by simp; omega
        have hd4 : decide (k < n) = false := by simp; omega
        go_wp2_with fail
        go_quiet (fail)
        go_wp2
        go_roundw
        case rel => exact ⟨k + 1, by omega, by go_num, ⟨hbr.os, hbr.tape, hbr.output, hbr.size, hbr.block⟩⟩
        case measure => simp [intOf]; omega
    · obtain rfl : k = 64 := by omega
      go_wp2
      go_ret
      exact ⟨rfl, bt hb4 hbr⟩

theorem law_makes (ad : Option Addr) (n c : Nat) (l : List UInt8) (w : World) (hr : BytesAt w ad n l) :
    Calls Try.prog 4 #[.slice ad n c] w fun r w' => r = .returned (.bool true) ∧ Below w.heap.size w w' := by
  by_cases h : n ≤ 64
  · exact makes_small ad n c l w hr h
  · by_cases h2 : n ≤ 200
    · exact makes_mid ad n c w (by omega) h2
    · exact makes_big ad n c w (by omega)
end Go.Proofs.Ytemjeppneahgeaa
