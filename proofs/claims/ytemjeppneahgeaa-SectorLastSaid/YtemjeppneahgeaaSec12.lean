/- The law SectorLast returns true. Condition: the rows read as rows whose numbers fit 64 bits; the byte is a byte; the sector's number fits 64 bits. -/
import Derived.Test.YtemjeppneahgeaaLast
set_option linter.unusedSimpArgs false
set_option linter.unusedVariables false
namespace Go.Proofs.Ytemjeppneahgeaa
open Go.RowKit

theorem tear_all (x y : Sec) : tear x y 64 = y := by
  apply Vector.ext
  intro i hi
  simp only [tear]
  simp
  intro h2
  omega
theorem crash_last (L : List Sec) (W : List (Int × Sec)) (j : Nat) (hj : j < L.length) (hat : ∀ p ∈ W, 0 ≤ p.1) : ∀ k, k ≤ W.length → (crashK L W (fun _ => 64) k).getD j zsec = (lastM (W.take k) j).getD (L.getD j zsec) := by
  intro k
  induction k with
  | zero => intro _; simp [crashK, lastM]
  | succ k ih =>
    intro hk
    have hk2 : k < W.length := by omega
    rw [List.take_succ_eq_append_getElem hk2, lastM_snoc]
    simp only [crashK, step1, tear_all]
    have e : W.getD k (0, zsec) = W[k] := by rw [List.getD_eq_getElem?_getD, List.getElem?_eq_getElem hk2]; rfl
    rw [e]
    have h0 := hat W[k] (List.getElem_mem _)
    by_cases h : W[k].1 = (j : Int)
    · rw [if_pos h, h, Int.toNat_natCast, List.getD_eq_getElem?_getD, List.getElem?_set_self (by rw [crashK_length]; exact hj)]; rfl
    · rw [if_neg h, List.getD_eq_getElem?_getD, List.getElem?_set_ne (by omega), ← List.getD_eq_getElem?_getD]
      exact ih (by omega)

set_option maxHeartbeats 1600000 in
theorem law_last (ad : Option Addr) (m c : Nat) (R : List Rw3) (a : Nat) (b : Int) (w : World) (hl : R.length = m) (hr : RdS w (.slice ad m c) m 3 (flat rv R)) (h64 : ∀ r ∈ R, Is64 r.1 ∧ Is64 r.2.1) (ha : a ≤ 255) (hb : Is64 b) :
    Calls Try.prog 7 #[.slice ad m c, .int .u8 a, .int .i64 b] w fun e w' => e = .returned (.bool true) ∧ Below w.heap.size w w' := by
  by_cases hm : m ≤ 50
  · have hmI : decide ((50 : Int) < (m : Int)) = false := by simp; omega
    have hmN : decide (50 < m) = false := by simp; omega
    obtain ⟨hk1, hk8⟩ := cnt_le a
    obtain ⟨hb0, hb1'⟩ := hb
    have Hat := Lib.hid (writes_at (cnt a) R hk1 hk8)
    have Hr := Lib.hid hr
    have Hl := Lib.hid hl
    have H64 := Lib.hid h64
    clear hr hl h64
    go_enter Try.func7, Try.ntmps7
    go_wp2_with fail
    refine (awake_any _).mono ?_
    rintro _ w1 ⟨rfl, hb1⟩
    go_wp2_with fail
    rw [show (1 + (a : Int) % 8) = ((cnt a : Nat) : Int) by unfold cnt; omega]
    generalize cnt a = n at *
    refine (blank_any n 5 w1 hk8 ⟨by decide, by decide⟩).mono ?_
    rintro _ w2 ⟨⟨vold, rfl, hold⟩, hb2⟩
    go_wp2_with fail
    have hb13 := bt hb1 hb2
    refine (rows_any ad m c n R w2 hm Hl.out (Hr.out.below hb13) H64.out hk1 hk8).mono ?_
    rintro _ w3 ⟨⟨va, vb, vc, rfl, hva, hvb, hvc, sab, sac, sbc⟩, hb3⟩
    have hb14 := bt hb13 hb3
    have Hold := Lib.hid ((RdS_of_own hold).below hb3)
    have Hb := Lib.hid (RdS_of_own hvb)
    have hlowv : ∀ g, vb.ownBlock = some g → g < w3.heap.size := fun g hg => (hvb.lt g hg).2
    have hvb' := hvb.2
    clear hold hva hvb hvc sab sac sbc hb1 hb2 hb3
    have hWL : (writes n R).length = m := by rw [writes_length, Hl.out]
    have hBL : (blank n 5).length = n := blank_length n 5
    have HBL := Lib.hid hBL
    have HWL := Lib.hid hWL
    clear hBL hWL
    generalize blank n 5 = B at *
    generalize writes n R = W at *
    clear Hr Hl H64 hmI hmN
    obtain ⟨adb, cb, rfl⟩ : ∃ adb cb, vb = .slice adb m cb := by
      obtain ⟨ad, cap, h1, _⟩ := Hb.out; exact ⟨ad, cap, h1⟩
    have Hlow : Hid (∀ x, adb = some x → x.block < w3.heap.size) := by
      intro x hx
      subst hx
      exact hlowv x.block (by simp [Value.ownBlock])
    clear hlowv hvb'
    go_wp2_with fail
    refine (last_any adb m cb W b w3 HWL.out (by omega) Hb.out Hlow.out).mono ?_
    rintro _ w4 ⟨rfl, hb4⟩
    have hb5 := bt hb14 hb4
    have Hb4 := Lib.hid (Hb.out.below hb4)
    have Hold4 := Lib.hid (Hold.out.below hb4)
    clear Hb Hold Hlow hb4 hb14
    obtain ⟨X, hX⟩ : ∃ X : Sec, (lastM W b).getD zsec = X := ⟨_, rfl⟩
    obtain ⟨ok, hok⟩ : ∃ ok : Bool, (lastM W b).isSome = ok := ⟨_, rfl⟩
    rw [hX, hok]
    have HX := Lib.hid hX
    have Hok := Lib.hid hok
    clear hX hok
    go_wp2_with fail
    have q1 := (Blk.new w4 22 (av X)).alloc (.cells (av zsec) 22)
    have q2 := Blk.new (w4.alloc (.cells (av X) 22)) 22 (av zsec)
    rw [World.size_alloc] at q2
    have h1 := q1.read (n := 64) (by simp)
    have h2 := q2.read (n := 64) (by simp)
    have h3 := q2.can (n := 64) (by simp)
    go_loopw [15, 16] (fun h i wr => ∃ k : Nat, k ≤ m ∧ i = .int .i64 k ∧ h = .bool (lastM (W.take k) b).isSome ∧ Hid (readAt wr w4.heap.size 0 64 = some (av X)) ∧ Hid (readAt wr (w4.heap.size + 1) 0 64 = some (av ((lastM (W.take k) b).getD zsec))) ∧ Hid (canAt wr (w4.heap.size + 1) 0 64 = true) ∧ Below w4.heap.size w4 wr) (fun _ i _ => m - (intOf i).toNat)
    case atStart => exact ⟨0, Nat.zero_le _, rfl, rfl, h1, h2, h3, ba _ (ba _ (Below.refl _ _))⟩
    case round =>
      obtain ⟨k, hk, rfl, rfl, g1, g2, g3, hb⟩ := hrel
      clear q1 q2 h1 h2 h3
      by_cases hlt : k < m
      · obtain ⟨bw, ow, cw', e1, _, _, hrw⟩ := (Hb4.out.below hb).at k hlt
        simp only [Value.slice.injEq, true_and] at e1
        obtain ⟨rfl, rfl⟩ := e1
        rw [flat_get wp2 65 size_wp2 W k (by rw [HWL.out]; exact hlt)] at hrw
        have htk : W.take (k + 1) = W.take k ++ [W[k]'(by rw [HWL.out]; exact hlt)] := List.take_succ_eq_append_getElem _
        obtain ⟨p, hpk⟩ : ∃ p, W[k]'(by rw [HWL.out]; exact hlt) = p := ⟨_, rfl⟩
        rw [hpk] at hrw htk
        have hls := lastM_snoc (W.take k) p b
        rw [← htk] at hls
        obtain ⟨at_, d⟩ := p
        simp only [wp2] at hrw
        have hat0 := readAt_cell hrw 0 (.int .i64 at_) (wv_at _ _)
        rw [Nat.add_zero] at hat0
        have hdat : readAt wr bw (ow + k * 65 + 1) 64 = some (av d) := by
          rw [readAt_sub hrw (ow + k * 65 + 1) 64 (by omega) (by omega)]
          rw [show ow + k * 65 + 1 - (ow + k * 65) = 1 by omega]; exact congrArg some (wv_data _ _)
        have hbw : bw < w4.heap.size := by
          obtain ⟨b', o', cap', e1, _, _, hrd⟩ := Hb4.out.at k hlt
          simp only [Value.slice.injEq, Option.some.injEq, Addr.mk.injEq, true_and] at e1
          obtain ⟨⟨rfl, _⟩, _⟩ := e1
          exact readAt_lt hrd
        have g3' := g3.out
        simp only at hls
        have Hls := Lib.hid hls
        clear hrw htk hpk hls
        by_cases hx : at_ = b
        · subst hx
          rw [if_pos rfl] at Hls
          go_wp2
          go_roundw
          case rel =>
            refine ⟨k + 1, by omega, by go_num, by rw [Hls.out]; rfl, ?_, ?_, ?_, setAt_below hb (Nat.le_succ _) _ _⟩
            · show _ = _
              rw [readAt_setAt_other _ _ _ _ _ _ _ (by omega)]; exact g1.out
            · show _ = _
              rw [Hls.out]
              exact readAt_setAt_same _ _ _ _ _ (by simp) g3'
            · show _ = _
              rw [canAt_setAt _ _ _ _ _ _ _ (by simpa using g3')]; exact g3'
          case measure => simp [intOf]; omega
        · have hxB : (at_ == b) = false := by simpa using hx
          rw [if_neg hx] at Hls
          clear hx
          go_wp2
          go_roundw
          case rel => exact ⟨k + 1, by omega, by go_num, by rw [Hls.out], g1, by show _ = _; rw [Hls.out]; exact g2.out, g3, hb⟩
          case measure => simp [intOf]; omega
      · obtain rfl : k = m := by omega
        have ek : W.take k = W := List.take_of_length_le (by rw [HWL.out]; exact Nat.le_refl _)
        rw [ek] at g2 ⊢
        rw [HX.out] at g2
        rw [Hok.out]
        clear ek hlt hk
        have hB : Below w.heap.size w wr := bt hb5 hb
        have Hbr := Lib.hid (Hb4.out.below hb)
        have Holdr := Lib.hid (Hold4.out.below hb)
        clear Hb4 Hold4
        go_wp2_with fail
        refine (all_any vold (.slice adb k cb) n k B W wr hk1 (by omega) HBL.out (by omega) HWL.out Holdr.out Hbr.out Hat.out).mono ?_
        rintro _ w5 ⟨⟨_, rfl, g, cg, rfl, hg, hcg, hmg, _, hrg, _⟩, hb6⟩
        have r1 : readAt w5 w4.heap.size 0 64 = some (av X) := by rw [readAt_below hb6 (readAt_lt g1.out)]; exact g1.out
        have r2 : readAt w5 (w4.heap.size + 1) 0 64 = some (av X) := by rw [readAt_below hb6 (readAt_lt g2.out)]; exact g2.out
        have hO5 := Holdr.out.below hb6
        have hB5 := bt hB hb6
        have hself : (X == X) = true := by simp
        have hself2 : (ok == ok) = true := by simp
        clear g1 g2 g3 Hbr Holdr hB hb6
        go_wp2_with fail
        by_cases hneg : b < 0
        · have hn1 : decide (b < 0) = true := by simpa using hneg
          go_region
          all_goals go_wp2
          all_goals go_ret
          all_goals exact ⟨rfl, hB5.drew⟩
        by_cases hbig : (n : Int) ≤ b
        · have hn1 : decide (b < 0) = false := by simpa using hneg
          have hn2 : decide ((n : Int) ≤ b) = true := by simpa using hbig
          clear hneg hbig
          go_region
          all_goals go_wp2
          all_goals go_ret
          all_goals exact ⟨rfl, hB5.drew⟩
        obtain ⟨j, rfl⟩ := Int.eq_ofNat_of_zero_le (show 0 ≤ b by omega)
        have hjn : j < n := by omega
        have hML : (crashK B W (fun _ => 64) k).length = n := by rw [crashK_length, HBL.out]
        have hxj : readAt w5 g (j * 64) 64 = some (av ((crashK B W (fun _ => 64) k).getD j zsec)) := by
          have hle : j * 64 + 64 ≤ n * 64 := by omega
          have := readAt_sub hrg (j * 64) 64 (by omega) (by omega)
          rw [this, Nat.sub_zero, flat_get av 64 size_av _ j (by rw [hML]; exact hjn), List.getD_eq_getElem?_getD, List.getElem?_eq_getElem (by rw [hML]; exact hjn)]; rfl
        rw [crash_last B W j (by rw [HBL.out]; exact hjn) (fun p hp => (Hat.out p hp).1) k (by rw [HWL.out]; exact Nat.le_refl _), List.take_of_length_le (by rw [HWL.out]; exact Nat.le_refl _)] at hxj
        obtain ⟨bo, oo, co, rfl, _, _, hoj⟩ := hO5.at j hjn
        rw [flat_get av 64 size_av B j (by rw [HBL.out]; exact hjn)] at hoj
        have hn1 : decide ((j : Int) < 0) = false := by simp
        have hn2 : decide ((n : Int) ≤ (j : Int)) = false := by simp; omega
        have hn3 : decide (n ≤ j) = false := by simp; omega
        have hBj : B.getD j zsec = B[j]'(by rw [HBL.out]; exact hjn) := by rw [List.getD_eq_getElem?_getD, List.getElem?_eq_getElem (by rw [HBL.out]; exact hjn)]; rfl
        rw [hBj] at hxj
        generalize B[j]'(by rw [HBL.out]; exact hjn) = Y at hxj hoj
        have hY : (Y == Y) = true := by simp
        have HXo := HX.out
        have Hoko := Hok.out
        clear hneg hbig hO5 hrg hBj hML HX Hok
        cases ok with
        | true =>
          obtain ⟨d, hd⟩ := Option.isSome_iff_exists.1 Hoko
          rw [hd] at HXo hxj
          simp only [Option.getD_some] at HXo hxj
          subst HXo
          clear Hoko hd
          go_region
          all_goals go_wp2
          all_goals go_ret
          all_goals exact ⟨rfl, hB5.drew⟩
        | false =>
          have hd : lastM W (j : Int) = none := by simpa using Hoko
          rw [hd] at HXo hxj
          simp only [Option.getD_none] at HXo hxj
          subst HXo
          clear Hoko hd
          go_region
          all_goals go_wp2
          all_goals go_ret
          all_goals exact ⟨rfl, hB5.drew⟩
  · have hmI : decide ((50 : Int) < (m : Int)) = true := by simp; omega
    have hmN : decide (50 < m) = true := by simp; omega
    clear hm
    go_enter Try.func7, Try.ntmps7
    go_wp2_with fail
    refine (awake_any _).mono ?_
    rintro _ w1 ⟨rfl, hb1⟩
    go_wp2_with fail
    refine (awake_any _).mono ?_
    rintro _ w2 ⟨rfl, hb2⟩
    go_wp2
    go_ret
    exact ⟨rfl, bt hb1 hb2⟩
theorem law_lastI (ad : Option Addr) (m c : Nat) (R : List Rw3) (a b : Int) (w : World) (hl : R.length = m) (hr : RdS w (.slice ad m c) m 3 (flat rv R)) (h64 : ∀ r ∈ R, Is64 r.1 ∧ Is64 r.2.1) (ha : 0 ≤ a ∧ a ≤ 255) (hb : -9223372036854775808 ≤ b ∧ b ≤ 9223372036854775807) :
    Calls Try.prog 7 #[.slice ad m c, .int .u8 a, .int .i64 b] w fun e w' => e = .returned (.bool true) ∧ Below w.heap.size w w' := by
  obtain ⟨x, rfl⟩ := Int.eq_ofNat_of_zero_le ha.1
  exact law_last ad m c R x b w hl hr h64 (by omega) hb
end Go.Proofs.Ytemjeppneahgeaa
