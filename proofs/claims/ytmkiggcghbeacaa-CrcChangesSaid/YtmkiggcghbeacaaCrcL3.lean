/- The law CrcChanges returns true. Conditions: the numbers fit their kinds; the slice reads as bytes. -/
import Derived.Test.YtmkiggcghbeacaaCrcL2
set_option linter.unusedSimpArgs false
set_option linter.unusedVariables false
namespace Go.Proofs.Ytmkiggcghbeacaa
open Go.RowKit

theorem flip_val (x : UInt8) (t : Nat) (ht : t < 8) : Value.int .u8 (bits .xor .u8 (x.toNat : Int) (2 ^ t % 256)) = B8 (x ^^^ (1 <<< UInt8.ofNat t)) := by
  have e : (1 <<< (UInt8.ofNat t) : UInt8).toNat = 2 ^ t := by
    have : t = 0 ∨ t = 1 ∨ t = 2 ∨ t = 3 ∨ t = 4 ∨ t = 5 ∨ t = 6 ∨ t = 7 := by omega
    rcases this with rfl | rfl | rfl | rfl | rfl | rfl | rfl | rfl <;> decide
  have h2 : 2 ^ t < 256 := by
    have : 2 ^ t < 2 ^ 8 := Nat.pow_lt_pow_right (by omega) ht
    omega
  have h3 : ((2 : Int) ^ t % 256) = ((2 ^ t : Nat) : Int) := by
    rw [show ((2 : Int) ^ t) = ((2 ^ t : Nat) : Int) by push_cast; rfl]; omega
  have hx := x.toNat_lt
  rw [h3, u8_xor_nat _ _ (by omega) h2]
  simp only [B8, UInt8.toNat_xor, e]
theorem bit_and (change k : Nat) (hc : change < 4294967296) : bits .and .u32 ((change : Int) / 2 ^ k) 1 = ((change / 2 ^ k % 2 : Nat) : Int) := by
  have h := and1_u32 (change / 2 ^ k) (Nat.lt_of_le_of_lt (Nat.div_le_self _ _) hc)
  rw [← h]
  congr 1

set_option maxHeartbeats 3200000 in
theorem law_changes (ad : Option Addr) (n c : Nat) (l : List UInt8) (at' change : Nat) (w : World) (hl : Bs w ad n c l) (ha : at' < 65536) (hc : change < 4294967296) :
    Calls Try.prog 5 #[.slice ad n c, .int .u16 at', .int .u32 change] w fun r w' => r = .returned (.bool true) ∧ Below w.heap.size w w' := by
  have Hl := Lib.hid hl
  have Hlen := Lib.hid hl.1
  have hmx : n ≤ 9223372036854775807 := by have := hl.2.1; have := hl.2.2.1; omega
  clear hl
  by_cases hex : 500 < n ∨ change = 0 ∨ n = 0
  · have hd : decide ((500 : Int) < (n : Int)) = true ∨ (decide ((500 : Int) < (n : Int)) = false ∧ ((change : Int) == 0) = true) ∨ (decide ((500 : Int) < (n : Int)) = false ∧ ((change : Int) == 0) = false ∧ ((n : Int) == 0) = true) := by
      by_cases h1 : 500 < n
      · left; simp; omega
      · by_cases h2 : change = 0
        · right; left; exact ⟨by simp; omega, by simp [h2]⟩
        · right; right; exact ⟨by simp; omega, by simp; omega, by simp; omega⟩
    clear hex
    rcases hd with d1 | ⟨d1, d2⟩ | ⟨d1, d2, d3⟩
    all_goals
      go_enter Try.func5, Try.ntmps5
      go_wp2_with fail
      refine (awake_any _).mono ?_
      rintro _ w1 ⟨rfl, hb1⟩
      go_wp2_with fail
      refine (awake_any _).mono ?_
      rintro _ w2 ⟨rfl, hb2⟩
      have hfin := bt hb1 hb2
      go_wp2
      go_ret
      exact ⟨rfl, hfin⟩
  · have d1 : decide ((500 : Int) < (n : Int)) = false := by simp; omega
    have d2 : ((change : Int) == 0) = false := by simp; omega
    have d3 : ((n : Int) == 0) = false := by simp; omega
    have hn0 : 0 < n := by omega
    have hn5 : n ≤ 500 := by omega
    clear hex
    go_enter Try.func5, Try.ntmps5
    go_wp2_with fail
    refine (awake_any _).mono ?_
    rintro _ w1 ⟨rfl, hb1⟩
    have Hl1 := Lib.hid (Hl.out.below hb1)
    have Hb1 := Lib.hid hb1
    clear hb1
    go_wp2_with fail
    refine (rappend_any _ n c l _ Hl1.out (by omega)).mono ?_
    rintro _ s1 ⟨⟨sv, rfl, hown⟩, hs1⟩
    have HlA := Lib.hid (Hl1.out.below hs1)
    have HbA := Lib.hid (bt Hb1.out hs1)
    have hsl : (l ++ be 4 (csum l)).length = n + 4 := by rw [List.length_append, be_length, Hlen.out]
    obtain ⟨g, sc, rfl, hgb, hsc, hscm, hsr, hsk⟩ := hown.view (by omega)
    rw [hsl] at hsc hsr hsk ⊢
    have Hgb := Lib.hid (Nat.le_trans Hb1.out.size hgb)
    have Hsr := Lib.hid hsr
    have Hsk := Lib.hid hsk
    clear hs1 hown hsl hsr hsk hgb Hl1 Hb1
    go_wp2_with fail
    have hI : ((at' : Int) % (8 * (n : Int))) = ((at' % (8 * n) : Nat) : Int) := by push_cast; rfl
    have hIlt : at' % (8 * n) < 8 * n := Nat.mod_lt _ (by omega)
    rw [hI]
    generalize at' % (8 * n) = I at *
    clear hI
    go_loopw [9] (fun i wr => ∃ (k : Nat) (F : List UInt8), k ≤ 32 ∧ I + k ≤ 8 * n ∧ i = .int .i64 k ∧ Hid (Burst l F I change k) ∧ Hid (readAt wr g 0 (n + 4) = some (bv (F ++ be 4 (csum l)))) ∧ Hid (canAt wr g 0 (n + 4) = true) ∧ OnlyB g s1 wr) (fun i _ => 32 - (intOf i).toNat)
    case atStart => exact ⟨0, l, by omega, by omega, rfl, Burst.start _ _ _, Hsr.out, Hsk.out, OnlyB.refl _ _⟩
    case round =>
      obtain ⟨k, F, hk, hIk, rfl, HF, HFr, HFc, ho⟩ := hrel
      have hFl : Hid (F.length = n) := by show _ = _; rw [HF.out.len, Hlen.out]
      by_cases hlt : k < 32 ∧ I + k < 8 * n
      · obtain ⟨hlt1, hlt2⟩ := hlt
        have e1 : decide ((k : Int) < 32) = true := by simp; omega
        have e2 : decide ((I : Int) + (k : Int) < 8 * (n : Int)) = true := by simp; omega
        by_cases hbit : change / 2 ^ k % 2 = 1
        · have hand := bit_and change k hc
          rw [hbit] at hand
          have hcell := readAt_cell HFr.out ((I + k) / 8) (B8 (F.getD ((I + k) / 8) 0)) (by
            have : (I + k) / 8 < F.length := by rw [hFl.out]; omega
            simp [bv, List.getD, this, List.getElem?_append_left])
          have hfr := canAt_cell HFc.out ((I + k) / 8)
          rw [Nat.zero_add] at hcell hfr
          simp only [B8] at hcell
          have hz := toNat_lt (F.getD ((I + k) / 8) 0)
          have hfv := flip_val (F.getD ((I + k) / 8) 0) ((I + k) % 8) (by omega)
          have Hfv := Lib.hid hfv
          have Hbit := Lib.hid hbit
          clear hfv hbit
          generalize hzz : (F.getD ((I + k) / 8) 0).toNat = z at *
          clear hzz
          go_wp2
          go_roundw
          case rel =>
            have hcan1 := canAt_sub HFc.out ((I + k) / 8) 1 (by omega)
            refine ⟨k + 1, flipB F (I + k), by omega, by omega, by go_num, HF.out.flip (by rw [Hlen.out]; exact hlt2) Hbit.out, ?_, ?_, ?_⟩
            · show _ = _
              rw [setCell_setAt hcan1, Hfv.out, readAt_setAt_over _ _ 0 (n + 4) _ HFr.out HFc.out ((I + k) / 8) _ (by omega) (by simp; omega), Nat.sub_zero, bv_set _ _ (by rw [List.length_append, be_length, hFl.out]; omega), List.set_append_left _ _ (by rw [hFl.out]; omega)]
              rfl
            · show _ = _
              rw [setCell_setAt hcan1, canAt_setAt _ _ _ _ _ _ _ (by simpa using hcan1)]; exact HFc.out
            · rw [setCell_setAt hcan1]; exact ho.trans (OnlyB.setAt _ _ _ _)
          case measure => simp [intOf]; omega
        · have hand := bit_and change k hc
          have hb0 : change / 2 ^ k % 2 = 0 := by omega
          rw [hb0] at hand
          have Hbit := Lib.hid hbit
          clear hbit hb0
          go_wp2
          go_roundw
          case rel => exact ⟨k + 1, F, by omega, by omega, by go_num, HF.out.keep Hbit.out, HFr.out, HFc.out, ho⟩
          case measure => simp [intOf]; omega
      · have hgw := Hgb.out
        have hend := HF.out.end hk
        have Hend := Lib.hid hend
        have HbF := Lib.hid (ho.below HbA.out hgw)
        have HlF := Lib.hid (Hl.out.below HbF.out)
        have hsl : (F ++ be 4 (csum l)).length = n + 4 := by rw [List.length_append, be_length, hFl.out]
        have hbsS : Bs wr (some ⟨g, 0, none⟩) (n + 4) sc (F ++ be 4 (csum l)) := ⟨hsl, hsc, hscm, fun h => (by cases h), fun _ => ⟨g, 0, rfl, HFr.out⟩⟩
        have HSF := Lib.hid hbsS
        have hok : okC (F ++ be 4 (csum l)) = decide (F = l) := by
          unfold okC
          rw [hsl, Nat.add_sub_cancel, ← hFl.out, List.drop_left, List.take_left, nb_be4 _ (csum_lt l)]
          have := Hend.out
          by_cases h : F = l
          · rw [decide_eq_true h, decide_eq_true (by rw [h])]
          · rw [decide_eq_false h, decide_eq_false (fun e => h (this.1 e.symm))]
        have hsame : decide (F ++ be 4 (csum l) = l ++ be 4 (csum l)) = decide (F = l) := by simp
        have Hok := Lib.hid hok
        have Hsame := Lib.hid hsame
        clear hend hbsS hok ho hsl hsame Hend
        have hstop : decide ((k : Int) < 32) = false ∨ (decide ((k : Int) < 32) = true ∧ decide ((I : Int) + (k : Int) < 8 * (n : Int)) = false) := by
          by_cases h1 : k < 32
          · right; exact ⟨by simp; omega, by simp; omega⟩
          · left; simp; omega
        clear hlt
        generalize F ++ be 4 (csum l) = S at *
        generalize decide (F = l) = t at *
        rcases hstop with e1 | ⟨e1, e2⟩
        all_goals
          go_wp2_with fail
          refine (check_all _ (n + 4) sc S _ HSF.out (by omega) (by omega)).mono ?_
          rintro ee s2 ⟨hp, hs2⟩
          have HlG := Lib.hid (HlF.out.below hs2)
          have HbG := Lib.hid (bt HbF.out hs2)
          have HSG := Lib.hid (HSF.out.below hs2)
          have hres : ∃ v, ee = Ending.returned (.tuple #[v, .bool t]) := by
            cases hq : t with
            | true =>
              obtain ⟨v, he, _⟩ := hp.yes (by rw [Hok.out]; exact hq)
              exact ⟨v, he⟩
            | false => exact ⟨_, hp.no (by rw [Hok.out]; exact hq)⟩
          obtain ⟨v, rfl⟩ := hres
          clear hp hs2
          go_wp2_with fail
          refine (rappend_any _ n c l _ HlG.out (by omega)).mono ?_
          generalize l ++ be 4 (csum l) = R at *
          rintro _ s3 ⟨⟨rv, rfl, hown⟩, hs3⟩
          obtain ⟨ra, rc, rfl, hrb⟩ := hown.bs
          have HbH := Lib.hid (bt HbG.out hs3)
          have HSH := Lib.hid (HSG.out.below hs3)
          have HR := Lib.hid hrb
          clear hs3 hown hrb
          go_wp2_with fail
          refine (same_any _ _ _ _ _ _ S _ _ HSH.out HR.out).mono ?_
          rw [Hsame.out]
          rintro _ s4 ⟨rfl, hs4⟩
          have hfin := bt HbH.out hs4
          go_wp2
          go_ret
          exact ⟨rfl, hfin⟩

theorem law_changesI (ad : Option Addr) (n c : Nat) (l : List UInt8) (at' change : Int) (w : World) (hl : Bs w ad n c l) (ha : 0 ≤ at' ∧ at' ≤ 65535) (hc : 0 ≤ change ∧ change ≤ 4294967295) :
    Calls Try.prog 5 #[.slice ad n c, .int .u16 at', .int .u32 change] w fun r w' => r = .returned (.bool true) ∧ Below w.heap.size w w' := by
  obtain ⟨a, rfl⟩ := Int.eq_ofNat_of_zero_le ha.1
  obtain ⟨b, rfl⟩ := Int.eq_ofNat_of_zero_le hc.1
  exact law_changes ad n c l a b w hl (by omega) (by omega)
end Go.Proofs.Ytmkiggcghbeacaa
