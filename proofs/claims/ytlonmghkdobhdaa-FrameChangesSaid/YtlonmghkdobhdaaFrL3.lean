/- The law FrameTears returns true. Conditions: the numbers fit; the slice reads as bytes. -/
import Derived.Test.YtlonmghkdobhdaaFrL2
import Derived.Test.YtlonmghkdobhdaaFrL1
set_option linter.unusedSimpArgs false
set_option linter.unusedVariables false
namespace Go.Proofs.Ytlonmghkdobhdaa
open Go.RowKit

theorem tear_stage (x o : List UInt8) (i : Nat) (hx : x.length = 64) (ho : o.length = 64) (hi : i < 64) : (x.take i ++ o.drop i).set i (x.getD i 0) = x.take (i + 1) ++ o.drop (i + 1) := by
  rw [set_len _ _ _ _ i (by rw [List.length_take, hx]; omega) (Nat.le_refl _), Nat.sub_self, take_snoc x i 0 (by omega)]
  rw [List.drop_eq_getElem_cons (show i < o.length by omega), List.set_cons_zero, List.append_assoc]; rfl
theorem tear_len (x o : List UInt8) (i : Nat) (hx : x.length = 64) (ho : o.length = 64) (hi : i ≤ 64) : (x.take i ++ o.drop i).length = 64 := by
  rw [List.length_append, List.length_take, List.length_drop, hx, ho]; omega

set_option maxRecDepth 100000 in
set_option maxHeartbeats 6400000 in
theorem law_ftears (g : Nat) (ad : Option Addr) (n c : Nat) (p : List UInt8) (old : Sec) (cut : Nat) (w : World) (hg : g < 4294967296) (hp : Bs w ad n c p) (hc : cut < 256) :
    Calls Try.prog 4 #[.int .u32 g, .slice ad n c, .agg (av old), .int .u8 cut] w fun r w' => r = .returned (.bool true) ∧ Below w.heap.size w w' := by
  have Hp := Lib.hid hp
  have Hlen := Lib.hid hp.1
  have hmx : n ≤ 9223372036854775807 := by have := hp.2.1; have := hp.2.2.1; omega
  clear hp
  have hr0 : readAt (w.alloc (.cells (av old) 25)) w.heap.size 0 64 = some (av old) := by simp [go_sem]
  have hk0 : canAt (w.alloc (.cells (av old) 25)) w.heap.size 0 64 = true := by simp [go_sem]
  have hb0 := ba (.cells (av old) 25) (Below.refl w.heap.size w)
  have hs0 : (w.alloc (.cells (av old) 25)).heap.size = w.heap.size + 1 := by simp
  have Hr0 := Lib.hid hr0
  have Hk0 := Lib.hid hk0
  have Hb0 := Lib.hid hb0
  have Hs0 := Lib.hid hs0
  clear hk0 hb0 hs0 hr0
  by_cases h1 : 54 < n
  · have d1 : decide ((54 : Int) < (n : Int)) = true := by simp; omega
    go_enter Try.func4, Try.ntmps4
    go_wp2_with fail
    refine (awake_any _).mono ?_
    rintro _ w1 ⟨rfl, hb1⟩
    go_wp2_with fail
    refine (awake_any _).mono ?_
    rintro _ w2 ⟨rfl, hb2⟩
    have hfin := bt Hb0.out (bt hb1 hb2)
    go_wp2
    go_ret
    exact ⟨rfl, hfin⟩
  · have d1 : decide ((54 : Int) < (n : Int)) = false := by simp; omega
    have hn : n ≤ 54 := by omega
    clear h1
    go_enter Try.func4, Try.ntmps4
    go_wp2_with fail
    refine (awake_any _).mono ?_
    rintro _ w1 ⟨rfl, hb1⟩
    have hlt0 : w.heap.size < (w.alloc (.cells (av old) 25)).heap.size := by rw [Hs0.out]; omega
    have hr1 : readAt w1 w.heap.size 0 64 = some (av old) := by rw [readAt_below hb1 hlt0]; exact Hr0.out
    have Hk1 : Hid (canAt w1 w.heap.size 0 64 = true) := by show _ = _; rw [canAt_below hb1 hlt0]; exact Hk0.out
    have Hb1 := Lib.hid (bt Hb0.out hb1)
    have Hr1 := Lib.hid hr1
    clear hb1 Hr0 Hk0 Hb0 Hs0 hlt0
    go_wp2_with fail
    refine (rtag_any old _).mono ?_
    rintro _ w2 ⟨rfl, hb2⟩
    have hlt1 := readAt_lt Hr1.out
    have Hr2 : Hid (readAt w2 w.heap.size 0 64 = some (av old)) := by show _ = _; rw [readAt_below hb2 hlt1]; exact Hr1.out
    have Hk2 : Hid (canAt w2 w.heap.size 0 64 = true) := by show _ = _; rw [canAt_below hb2 hlt1]; exact Hk1.out
    have Hb2 := Lib.hid (bt Hb1.out hb2)
    clear hb2 Hr1 Hk1 Hb1 hr1 hlt1
    by_cases ht : tagOf old = g
    · have d2 : (((tagOf old : Nat) : Int) == (g : Int)) = true := by simp; omega
      go_wp2_with fail
      refine (awake_any _).mono ?_
      rintro _ w3 ⟨rfl, hb3⟩
      have hfin := bt Hb2.out hb3
      go_wp2
      go_ret
      exact ⟨rfl, hfin⟩
    · have d2 : (((tagOf old : Nat) : Int) == (g : Int)) = false := by simp; omega
      have Ht := Lib.hid ht
      clear ht
      go_wp2_with fail
      refine (fmake_yes g ad n c p _ hg (Hp.out.below Hb2.out) hn).mono ?_
      rintro _ w3 ⟨rfl, hb3⟩
      have hpl : p.length ≤ 54 := by rw [Hlen.out]; exact hn
      have hokX := rec_ok (g := g) hpl
      have htagX := rec_tag hpl hg
      have hpayX := rec_pay (g := g) hpl
      generalize recS g p = X at *
      have HokX := Lib.hid hokX
      have HtagX := Lib.hid htagX
      have HpayX := Lib.hid hpayX
      have hlt2 := readAt_lt Hr2.out
      have hrX : readAt (w3.alloc (.cells (av X) 25)) w3.heap.size 0 64 = some (av X) := by simp [go_sem]
      have hb4 := ba (.cells (av X) 25) hb3
      have hO : w.heap.size < w3.heap.size := by have := hb3.size; omega
      have hWs : (w3.alloc (.cells (av X) 25)).heap.size = w3.heap.size + 1 := by simp
      generalize hW : w3.alloc (.cells (av X) 25) = w4 at *
      have HrO : Hid (readAt w4 w.heap.size 0 64 = some (av old)) := by show _ = _; rw [readAt_below hb4 hlt2]; exact Hr2.out
      have HkO : Hid (canAt w4 w.heap.size 0 64 = true) := by show _ = _; rw [canAt_below hb4 hlt2]; exact Hk2.out
      have Hb4 := Lib.hid (bt Hb2.out hb4)
      have HrX := Lib.hid hrX
      have HWs := Lib.hid hWs
      clear hb3 hb4 hokX htagX hpayX hlt2 hrX hWs Hr2 Hk2 Hb2 hpl
      have hk65 : cut % 65 < 65 := Nat.mod_lt _ (by omega)
      have hkk : ((cut : Int) % 65) = ((cut % 65 : Nat) : Int) := by omega
      generalize cut % 65 = k at *
      go_wp2_with fail
      clear hW
      simp only [hkk]
      go_loopw [12] (fun q wr => ∃ i : Nat, i ≤ k ∧ q = .int .i64 i ∧ Hid (readAt wr w.heap.size 0 64 = some (bv ((sl X).take i ++ (sl old).drop i))) ∧ Hid (canAt wr w.heap.size 0 64 = true) ∧ OnlyB w.heap.size w4 wr) (fun q _ => k - (intOf q).toNat)
      case atStart => exact ⟨0, by omega, rfl, by show _ = _; rw [HrO.out, av_sl]; rfl, HkO.out, OnlyB.refl _ _⟩
      case round =>
        obtain ⟨i, hi, rfl, hr, hk, ho⟩ := hrel
        have hl := tear_len (sl X) (sl old) i (sl_length X) (sl_length old) (by omega)
        have hrx : readAt wr w3.heap.size 0 64 = some (av X) := by rw [ho.readAt _ _ _ (by omega)]; exact HrX.out
        by_cases hlt : i < k
        · have hcell := sl_cell hrx i (by omega)
          have hold := sec_cell hr.out hl (show i < 64 by omega)
          have hfr := canAt_cell hk.out i
          rw [Nat.zero_add] at hfr
          have hset := Lib.hid (sec_set ((sl X).getD i 0) hr.out hk.out hl (show i < 64 by omega))
          have hst := Lib.hid (tear_stage (sl X) (sl old) i (sl_length X) (sl_length old) (by omega))
          have hB : Hid (B8 ((sl X).getD i 0) = .int .u8 (((sl X).getD i 0).toNat : Int)) := rfl
          have hz := toNat_lt ((sl X).getD i 0)
          have Ho := Lib.hid ho
          clear hl ho hrx
          generalize (((sl X).take i ++ (sl old).drop i).getD i 0).toNat = z2 at *
          generalize ((sl X).getD i 0).toNat = z at *
          go_wp2
          go_roundw
          case rel =>
            obtain ⟨h1, h2, h3⟩ := hset.out
            rw [hB.out, hst.out] at h1
            rw [hB.out] at h2 h3
            exact ⟨i + 1, by omega, by go_num, h1, h2, Ho.out.trans h3⟩
          case measure => simp [intOf]; omega
        · obtain rfl : i = k := by omega
          have hrY := hr.out
          rw [bv_secOf _ hl] at hrY
          have hno := tear_not X old (secOf ((sl X).take i ++ (sl old).drop i)) i (by omega) (sl_secOf _ hl) (by rw [HtagX.out]; exact Ht.out)
          generalize secOf ((sl X).take i ++ (sl old).drop i) = Y at *
          have HrY := Lib.hid hrY
          have Hno := Lib.hid hno
          have HrX5 := Lib.hid hrx
          have Hb5 := Lib.hid (ho.below Hb4.out (Nat.le_refl _))
          clear hr hk ho hl hno hrx HrX HrO HkO Hb4 HWs
          go_wp2_with fail
          clear hrY
          refine (fparse_any Y _).mono ?_
          rintro _ w5 ⟨hpo, hb6⟩
          have hlY := readAt_lt HrY.out
          have hlX := readAt_lt HrX5.out
          have hrY6 : readAt w5 w.heap.size 0 64 = some (av Y) := by rw [readAt_below hb6 hlY]; exact HrY.out
          have hrX6 : readAt w5 w3.heap.size 0 64 = some (av X) := by rw [readAt_below hb6 hlX]; exact HrX5.out
          have Hb6 := Lib.hid (bt Hb5.out hb6)
          clear hb6 HrY HrX5 Hb5 hlY hlX
          by_cases hYX : Y = X
          · subst hYX
            have heq : (Y == Y) = true := by simp
            obtain ⟨v, rfl, hown⟩ := hpo.yes HokX.out
            rw [HtagX.out]
            rw [HpayX.out] at hown
            obtain ⟨pa, pc, rfl, hpb⟩ := hown.bs
            have HP := Lib.hid hpb
            clear hpo hown hpb
            go_wp2_with fail
            refine (same_any _ _ _ _ _ _ p p _ HP.out (Hp.out.below Hb6.out)).mono ?_
            rw [show decide (p = p) = true by simp]
            rintro _ w7 ⟨rfl, hb7⟩
            have hfin := Lib.hid (bt Hb6.out hb7)
            clear hrY6 hrX6
            go_wp2
            go_ret
            exact ⟨rfl, hfin.out⟩
          · have heq : (Y == X) = false := by simp; exact hYX
            obtain ⟨hk64, htg⟩ := Hno.out hYX
            have d9 : decide ((i : Int) < 64) = true := by simp; omega
            rw [HtagX.out] at htg
            clear Hno
            by_cases hok : okF Y = true
            · obtain ⟨v, rfl, hown⟩ := hpo.yes hok
              have d10 : (((tagOf Y : Nat) : Int) != (g : Int)) = true := by simp; omega
              obtain ⟨pa, pc, rfl, hpb⟩ := hown.bs
              clear hpo hown hpb
              go_wp2
              go_ret
              exact ⟨rfl, Hb6.out⟩
            · obtain rfl := hpo.no (by simpa using hok)
              clear hpo
              go_wp2
              go_ret
              exact ⟨rfl, Hb6.out⟩

theorem law_fmakesI (g : Int) (ad : Option Addr) (n c : Nat) (p : List UInt8) (w : World) (hp : Bs w ad n c p) (hg : 0 ≤ g ∧ g ≤ 4294967295) :
    Calls Try.prog 3 #[.int .u32 g, .slice ad n c] w fun r w' => r = .returned (.bool true) ∧ Below w.heap.size w w' := by
  obtain ⟨a, rfl⟩ := Int.eq_ofNat_of_zero_le hg.1
  exact law_fmakes a ad n c p w (by omega) hp
theorem law_fchangesI (g : Int) (ad : Option Addr) (n c : Nat) (p : List UInt8) (at' d : Int) (w : World) (hp : Bs w ad n c p) (hg : 0 ≤ g ∧ g ≤ 4294967295) (ha : 0 ≤ at' ∧ at' ≤ 255) (hd : 0 ≤ d ∧ d ≤ 255) :
    Calls Try.prog 5 #[.int .u32 g, .slice ad n c, .int .u8 at', .int .u8 d] w fun r w' => r = .returned (.bool true) ∧ Below w.heap.size w w' := by
  obtain ⟨a, rfl⟩ := Int.eq_ofNat_of_zero_le hg.1
  obtain ⟨b, rfl⟩ := Int.eq_ofNat_of_zero_le ha.1
  obtain ⟨d, rfl⟩ := Int.eq_ofNat_of_zero_le hd.1
  exact law_fchanges a ad n c p b d w (by omega) hp (by omega) (by omega)
theorem law_ftearsI (g : Int) (ad : Option Addr) (n c : Nat) (p : List UInt8) (old : Sec) (cut : Int) (w : World) (hp : Bs w ad n c p) (hg : 0 ≤ g ∧ g ≤ 4294967295) (hc : 0 ≤ cut ∧ cut ≤ 255) :
    Calls Try.prog 4 #[.int .u32 g, .slice ad n c, .agg (av old), .int .u8 cut] w fun r w' => r = .returned (.bool true) ∧ Below w.heap.size w w' := by
  obtain ⟨a, rfl⟩ := Int.eq_ofNat_of_zero_le hg.1
  obtain ⟨b, rfl⟩ := Int.eq_ofNat_of_zero_le hc.1
  exact law_ftears a ad n c p old b w (by omega) hp (by omega)
end Go.Proofs.Ytlonmghkdobhdaa
