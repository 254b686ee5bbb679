/- The law CrcMatchesReference returns true. Conditions: the parts read as bytes; together they are no longer than 2^40 bytes. -/
import Derived.Test.YtmkiggcghbeacaaCrcAw
set_option linter.unusedSimpArgs false
set_option linter.unusedVariables false
namespace Go.Proofs.Ytmkiggcghbeacaa
open Go.RowKit

theorem csum_append (x y : List UInt8) : csum (x ++ y) = 4294967295 - upd (4294967295 - csum x) y := by
  unfold csum
  have h : upd 4294967295 x < 4294967296 := upd_lt (by omega)
  rw [upd_append, show 4294967295 - (4294967295 - upd 4294967295 x) = upd 4294967295 x by omega]

set_option maxHeartbeats 3200000 in
theorem law_matches (ad : Option Addr) (n c : Nat) (L : List (List UInt8)) (w : World) (hl : Ps w ad n c L) (hs : L.flatten.length ≤ 1099511627776) :
    Calls Try.prog 3 #[.slice ad n c] w fun r w' => r = .returned (.bool true) ∧ Below w.heap.size w w' := by
  have Hl := Lib.hid hl
  have Hlen := Lib.hid hl.1
  have hmx : n ≤ 9223372036854775807 := by have := hl.2.1; have := hl.2.2.1; omega
  clear hl
  by_cases hbig : 20 < n
  · have d0 : decide ((20 : Int) < (n : Int)) = true := by simp; omega
    go_enter Try.func3, Try.ntmps3
    go_wp2_with fail
    refine (awake_any _).mono ?_
    rintro _ w1 ⟨rfl, hb1⟩
    go_wp2_with fail
    refine (awake_any _).mono ?_
    rintro _ w2 ⟨rfl, hb2⟩
    have hfin := bt hb1 hb2
    go_wp2
    go_ret
    exact ⟨rfl, hfin⟩
  · have d0 : decide ((20 : Int) < (n : Int)) = false := by simp; omega
    have hn20 : n ≤ 20 := by omega
    go_enter Try.func3, Try.ntmps3
    go_wp2_with fail
    refine (awake_any _).mono ?_
    rintro _ w1 ⟨rfl, hb1⟩
    have Hl1 := Lib.hid (Hl.out.below hb1)
    have Hb1 := Lib.hid hb1
    clear hb1
    go_wp2_with fail
    refine (rjoin_any ad n c L _ Hl1.out hs).mono ?_
    rintro _ w2 ⟨⟨v, rfl, hown⟩, hb2⟩
    have Hl2 := Lib.hid (Hl1.out.below hb2)
    have Hb2 := Lib.hid (bt Hb1.out hb2)
    have HL : Hid ((L.take n).flatten = L.flatten) := by show _ = _; rw [List.take_of_length_le (by rw [Hlen.out]; exact Nat.le_refl _)]
    clear hb2 Hb1 Hl1
    obtain ⟨A, hA⟩ : ∃ A, L.flatten = A := ⟨_, rfl⟩
    rw [hA] at hown hs
    have HA := Lib.hid hA
    clear hA
    obtain ⟨aa, ac, rfl, hbs⟩ := hown.bs
    have HAs := Lib.hid hbs
    have ham : A.length ≤ 9223372036854775807 := by omega
    clear hown hbs
    generalize hN : A.length = N at *
    clear hN
    by_cases h2 : 2000 < N
    · have d2 : decide ((2000 : Int) < (N : Int)) = true := by simp; omega
      go_wp2
      go_ret
      exact ⟨rfl, Hb2.out⟩
    · have d2 : decide ((2000 : Int) < (N : Int)) = false := by simp; omega
      go_wp2_with fail
      go_loopw [4, 5] (fun s i wr => ∃ k : Nat, k ≤ n ∧ i = .int .i64 k ∧ s = .int .u32 (csum (L.take k).flatten : Nat) ∧ Below w2.heap.size w2 wr) (fun _ i _ => n - (intOf i).toNat)
      case atStart => exact ⟨0, by omega, rfl, by rw [show (L.take 0).flatten = [] by simp, sum_nil]; rfl, Below.refl _ _⟩
      case round =>
        obtain ⟨k, hk, rfl, rfl, hb⟩ := hrel
        by_cases hlt : k < n
        · obtain ⟨b, o, ai, ni, ci, rfl, hcell, hbs⟩ := (Hl2.out.below hb).at k hlt
          have hsn := flatten_snoc L k (by rw [Hlen.out]; exact hlt)
          have hcs := csum_append (L.take k).flatten (L.getD k [])
          rw [← hsn] at hcs
          have Hcs := Lib.hid hcs
          have hlt2 := csum_lt (L.take k).flatten
          clear hsn hcs
          generalize csum (L.take k).flatten = S at *
          go_wp2_with fail
          refine (update_any ai ni ci _ S _ hlt2 hbs).mono ?_
          rw [← Hcs.out]
          rintro _ w3 ⟨rfl, hb3⟩
          have hb4 := Lib.hid (bt hb hb3)
          clear hb3 hbs hcell
          go_wp2
          go_roundw
          case rel => exact ⟨k + 1, by omega, by go_num, rfl, hb4.out⟩
          case measure => simp [intOf]; omega
        · obtain rfl : k = n := by omega
          rw [HL.out, HA.out]
          have Hb3 := Lib.hid (bt Hb2.out hb)
          have Hl3 := Lib.hid (Hl2.out.below hb)
          have HA3 := Lib.hid (HAs.out.below hb)
          clear hb
          go_wp2_with fail
          refine (sum_any ad k c L _ Hl3.out).mono ?_
          rw [HA.out]
          rintro _ w4 ⟨rfl, hb4⟩
          have HA4 := Lib.hid (HA3.out.below hb4)
          have Hb4 := Lib.hid (bt Hb3.out hb4)
          clear hb4
          go_wp2_with fail
          refine (rsum_any _ _ _ A _ HA4.out).mono ?_
          rintro _ _ ⟨rfl, rfl⟩
          go_wp2_with fail
          refine (rsum_any _ _ _ A _ HA4.out).mono ?_
          rintro _ _ ⟨rfl, rfl⟩
          go_wp2
          go_ret
          exact ⟨rfl, Hb4.out⟩
end Go.Proofs.Ytmkiggcghbeacaa
