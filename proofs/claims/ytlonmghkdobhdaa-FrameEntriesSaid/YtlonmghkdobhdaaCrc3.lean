/- What Update, Sum of the reference of package crc compute, and Same, Join of the reference of package wire. Conditions: the numbers fit 32 bits; the slices read as bytes. -/
import Derived.Test.YtlonmghkdobhdaaCrc2
set_option linter.unusedSimpArgs false
set_option linter.unusedVariables false
namespace Go.Proofs.Ytlonmghkdobhdaa
open Go.RowKit

theorem refBit_succ (k r b : Nat) : refBit (k + 1) r b = if (refBit k r b % 2 ^^^ b / 2 ^ k % 2) = 1 then refBit k r b / 2 ^^^ poly else refBit k r b / 2 := by
  induction k generalizing r b with
  | zero => simp [refBit]
  | succ k ih =>
    rw [refBit, ih]
    conv => rhs; rw [refBit]
    rw [Nat.div_div_eq_div_mul, show 2 * 2 ^ k = 2 ^ (k + 1) by rw [Nat.pow_succ]; omega]
theorem refBit_lt {k r b : Nat} (h : r < 4294967296) : refBit k r b < 4294967296 := by
  induction k generalizing r b with
  | zero => exact h
  | succ k ih =>
    rw [refBit]
    apply ih
    split
    · exact Nat.xor_lt_two_pow (n := 32) (by omega) (by decide)
    · omega

set_option maxHeartbeats 800000 in
theorem rupdate_any (ad : Option Addr) (n c : Nat) (l : List UInt8) (s : Nat) (w : World) (hs : s < 4294967296) (hl : Bs w ad n c l) :
    Calls Try.prog 47 #[.int .u32 (s : Nat), .slice ad n c] w fun e w' => e = .returned (.int .u32 (4294967295 - upd (4294967295 - s) l : Nat)) ∧ w = w' := by
  have hn := hl.1
  have hmx : n ≤ 9223372036854775807 := by have := hl.2.1; have := hl.2.2.1; omega
  have Hl := Lib.hid hl
  have Hn := Lib.hid hn
  clear hl hn
  have e0 : IntKind.u32.wrap (4294967295 - (s : Int)) = ((4294967295 - s : Nat) : Int) := by rw [IntKind.wrap_u32']; omega
  have hx : 4294967295 - s < 4294967296 := by omega
  generalize 4294967295 - s = x at *
  go_enter Try.func47, Try.ntmps47
  go_wp2_with fail
  go_loop [5, 6] (fun y i => ∃ k : Nat, k ≤ n ∧ i = .int .i64 k ∧ y = .int .u32 (upd x (l.take k) : Nat)) (fun _ i => n - (intOf i).toNat)
  case atStart => exact ⟨0, by omega, rfl, rfl⟩
  case round =>
    obtain ⟨k, hk, rfl, rfl⟩ := hrel
    by_cases hlt : k < n
    · obtain ⟨b, o, rfl, hcell⟩ := Hl.out.at k hlt
      have hsn := take_snoc l k 0 (by rw [Hn.out]; exact hlt)
      have hb := toNat_lt (l.getD k 0)
      have hy : upd x (l.take k) < 4294967296 := upd_lt hx
      have hu := upd_snoc x (l.take k) (l.getD k 0)
      rw [← hsn] at hu
      have Hu := Lib.hid hu
      clear hsn hu
      generalize upd x (l.take k) = y at *
      generalize (l.getD k 0).toNat = z at *
      go_wp2_with fail
      go_loop [5, 7] (fun q j => ∃ m : Nat, m ≤ 8 ∧ j = .int .i64 m ∧ q = .int .u32 (refBit m y z : Nat)) (fun _ j => 8 - (intOf j).toNat)
      case atStart => exact ⟨0, by omega, rfl, rfl⟩
      case round =>
        obtain ⟨m, hm, rfl, rfl⟩ := hrel
        by_cases hlm : m < 8
        · have hq : refBit m y z < 4294967296 := refBit_lt hy
          have hsu := refBit_succ m y z
          generalize refBit m y z = q at *
          have Hsu := Lib.hid hsu
          clear hsu
          have hz2 : z / 2 ^ m % 2 < 2 := Nat.mod_lt _ (by omega)
          have e1 : bits .xor .u32 ((q : Int) % 2) ((z : Int) / 2 ^ m % 2) = ((q % 2 ^^^ z / 2 ^ m % 2 : Nat) : Int) := by
            have := u32_xor_nat (q % 2) (z / 2 ^ m % 2) (by omega) (by omega)
            push_cast at this
            exact this
          have e2 : bits .xor .u32 ((q : Int) / 2) 2197175160 = ((q / 2 ^^^ poly : Nat) : Int) := by
            have := u32_xor_nat (q / 2) 2197175160 (by omega) (by omega)
            rw [show ((2197175160 : Nat) : Int) = 2197175160 by rfl] at this
            exact this
          have Hr : Hid (refBit (m + 1) y z = if (q % 2 ^^^ z / 2 ^ m % 2) = 1 then q / 2 ^^^ poly else q / 2) := Hsu.out
          clear hz2 Hsu
          generalize q % 2 ^^^ z / 2 ^ m % 2 = t at *
          by_cases ht : t = 1
          · have Hf : Hid (refBit (m + 1) y z = (q / 2 ^^^ poly)) := by show _ = _; rw [Hr.out, if_pos ht]
            have h1 : ((t : Int) == 1) = true := by simp; omega
            clear ht Hr
            go_wp2
            go_round
            case rel => exact ⟨m + 1, by omega, by go_num, by rw [Hf.out]⟩
            case measure => simp [intOf]; omega
          · have Hf : Hid (refBit (m + 1) y z = q / 2) := by show _ = _; rw [Hr.out, if_neg ht]
            have h1 : ((t : Int) == 1) = false := by simp; omega
            clear ht Hr
            go_wp2
            go_round
            case rel => exact ⟨m + 1, by omega, by go_num, by rw [Hf.out]; rfl⟩
            case measure => simp [intOf]; omega
        · obtain rfl : m = 8 := by omega
          have h8 : refBit 8 y z = eight8 (y ^^^ z) := refBit_eight y z hb
          rw [h8]
          clear h8
          go_wp2
          go_round
          case rel => exact ⟨k + 1, by omega, by go_num, by rw [Hu.out]⟩
          case measure => simp [intOf]; omega
    · obtain rfl : k = n := by omega
      have hf2 : upd x (l.take k) = upd x l := by rw [List.take_of_length_le (by rw [Hn.out]; exact Nat.le_refl _)]
      rw [hf2]
      have hy : upd x l < 4294967296 := upd_lt hx
      have e1 : IntKind.u32.wrap (4294967295 - (upd x l : Int)) = ((4294967295 - upd x l : Nat) : Int) := by rw [IntKind.wrap_u32']; omega
      clear hf2
      go_wp2
      go_ret
      exact ⟨rfl, rfl⟩

theorem rsum_any (ad : Option Addr) (n c : Nat) (l : List UInt8) (w : World) (hl : Bs w ad n c l) :
    Calls Try.prog 42 #[.slice ad n c] w fun e w' => e = .returned (.int .u32 (csum l : Nat)) ∧ w = w' := by
  have Hl := Lib.hid hl
  clear hl
  go_enter Try.func42, Try.ntmps42
  go_wp2_with fail
  refine (rupdate_any ad n c l 0 _ (by omega) Hl.out).mono ?_
  rintro _ _ ⟨rfl, rfl⟩
  go_wp2
  go_ret
  exact ⟨rfl, rfl⟩

/-- Same compares bytes. -/
theorem same_any (ad bd : Option Addr) (n m c c2 : Nat) (A B : List UInt8) (w : World) (ha : Bs w ad n c A) (hb : Bs w bd m c2 B) :
    Calls Try.prog 12 #[.slice ad n c, .slice bd m c2] w fun e w' => e = .returned (.bool (decide (A = B))) ∧ Below w.heap.size w w' := by
  have hmx : n ≤ 9223372036854775807 := by have := ha.2.1; have := ha.2.2.1; omega
  by_cases h : n = m
  · subst h
    have Ha := Lib.hid ha
    have Hb := Lib.hid hb
    have HA := Lib.hid ha.1
    have HB := Lib.hid hb.1
    clear ha hb
    go_enter Try.func12, Try.ntmps12
    go_wp2
    go_loopw [5] (fun i wr => ∃ k : Nat, k ≤ n ∧ i = .int .i64 k ∧ Hid (A.take k = B.take k) ∧ Below w.heap.size w wr) (fun i _ => n - (intOf i).toNat)
    case atStart => exact ⟨0, Nat.zero_le _, rfl, by show _ = _; simp, Below.refl _ _⟩
    case round =>
      obtain ⟨k, hk, rfl, hsame, hbw⟩ := hrel
      by_cases hlt : k < n
      · obtain ⟨b1, o1, rfl, h1⟩ := (Ha.out.below hbw).at k hlt
        obtain ⟨b2, o2, rfl, h2⟩ := (Hb.out.below hbw).at k hlt
        have s1 := Lib.hid (take_snoc A k 0 (by rw [HA.out]; exact hlt))
        have s2 := Lib.hid (take_snoc B k 0 (by rw [HB.out]; exact hlt))
        by_cases hxy : A.getD k 0 = B.getD k 0
        · have hf : A.take (k + 1) = B.take (k + 1) := by rw [s1.out, s2.out, hsame.out, hxy]
          have Hf := Lib.hid hf
          have hd : (((A.getD k 0).toNat : Int) != ((B.getD k 0).toNat : Int)) = false := by rw [hxy]; simp
          clear hf hxy s1 s2
          generalize ((A.getD k 0).toNat : Int) = x at *
          generalize ((B.getD k 0).toNat : Int) = y at *
          go_wp2_with fail
          go_region
          go_wp2
          go_roundw
          case rel => exact ⟨k + 1, by omega, by go_num, Hf.out, hbw.drew⟩
          case measure => simp [intOf]; omega
        · have hfin : decide (A = B) = false := by
            rw [decide_eq_false_iff_not]; intro e; exact hxy (by rw [e])
          have Hfin := Lib.hid hfin
          have hd : (((A.getD k 0).toNat : Int) != ((B.getD k 0).toNat : Int)) = true := by
            rw [bne_iff_ne]; intro e; exact hxy (UInt8.toNat_inj.1 (by omega))
          clear hfin hxy s1 s2
          generalize ((A.getD k 0).toNat : Int) = x at *
          generalize ((B.getD k 0).toNat : Int) = y at *
          go_wp2_with fail
          go_region
          go_wp2
          go_ret
          exact ⟨by rw [Hfin.out]; rfl, hbw.drew⟩
      · obtain rfl : k = n := by omega
        have hfin : decide (A = B) = true := by
          rw [decide_eq_true_iff]
          have := hsame.out
          rw [List.take_of_length_le (by rw [HA.out]; exact Nat.le_refl _), List.take_of_length_le (by rw [HB.out]; exact Nat.le_refl _)] at this
          exact this
        have Hfin := Lib.hid hfin
        clear hfin
        go_wp2
        go_ret
        exact ⟨by rw [Hfin.out]; rfl, hbw⟩
  · have hne : ((n : Int) != (m : Int)) = true := by simp; omega
    have hf : decide (A = B) = false := by rw [decide_eq_false_iff_not]; intro e; apply h; rw [← ha.1, ← hb.1, e]
    rw [hf]
    clear ha hb h hf
    go_enter Try.func12, Try.ntmps12
    go_wp2
    go_ret
    exact ⟨rfl, Below.refl _ _⟩
end Go.Proofs.Ytlonmghkdobhdaa
