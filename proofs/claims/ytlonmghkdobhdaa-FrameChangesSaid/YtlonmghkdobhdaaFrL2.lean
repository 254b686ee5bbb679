/- The laws FrameChanges and FrameTears return true. Conditions: the numbers fit; the slice reads as bytes. -/
import Derived.Test.YtlonmghkdobhdaaFrAw
set_option linter.unusedSimpArgs false
set_option linter.unusedVariables false
namespace Go.Proofs.Ytlonmghkdobhdaa
open Go.RowKit

theorem ok_sum {x : Sec} (h : okF x = true) : stoOf x = sumOf x := by
  unfold okF at h
  simp only [Bool.and_eq_true, decide_eq_true_eq] at h
  exact h.2.2
theorem xor_val (a : UInt8) (d : Nat) (hd : d < 256) : Value.int .u8 (bits .xor .u8 (a.toNat : Int) (d : Int)) = B8 (a ^^^ UInt8.ofNat d) := by
  have ha := a.toNat_lt
  rw [u8_xor_nat _ _ (by omega) hd]
  simp only [B8, UInt8.toNat_xor, UInt8.toNat_ofNat']
  rw [Nat.mod_eq_of_lt hd]
theorem ofNat_ne (d : Nat) (hd : d < 256) (h : d ≠ 0) : UInt8.ofNat d ≠ 0 := by
  intro e
  have := congrArg UInt8.toNat e
  rw [UInt8.toNat_ofNat', Nat.mod_eq_of_lt hd] at this
  exact h this

set_option maxRecDepth 100000 in
set_option maxHeartbeats 6400000 in
theorem law_fchanges (g : Nat) (ad : Option Addr) (n c : Nat) (p : List UInt8) (at' d : Nat) (w : World) (hg : g < 4294967296) (hp : Bs w ad n c p) (ha : at' < 256) (hd : d < 256) :
    Calls Try.prog 5 #[.int .u32 g, .slice ad n c, .int .u8 at', .int .u8 d] w fun r w' => r = .returned (.bool true) ∧ Below w.heap.size w w' := by
  have Hp := Lib.hid hp
  have Hlen := Lib.hid hp.1
  have hmx : n ≤ 9223372036854775807 := by have := hp.2.1; have := hp.2.2.1; omega
  clear hp
  by_cases hex : 54 < n ∨ d = 0
  · have hdd : decide ((54 : Int) < (n : Int)) = true ∨ (decide ((54 : Int) < (n : Int)) = false ∧ ((d : Int) == 0) = true) := by
      by_cases h1 : 54 < n
      · left; simp; omega
      · right; exact ⟨by simp; omega, by simp; omega⟩
    clear hex
    rcases hdd with d1 | ⟨d1, d2⟩
    all_goals
      go_enter Try.func5, Try.ntmps5
      go_wp2_with fail
      refine (awake_any _).mono ?_
      rintro _ w1 ⟨rfl, hb1⟩
      go_wp2_with fail
      refine (awake_any _).mono ?_
      rintro _ w2 ⟨rfl, hb2⟩
      have hfin := bt hb1 hb2
      go_wp2
      go_ret
      exact ⟨rfl, hfin⟩
  · have d1 : decide ((54 : Int) < (n : Int)) = false := by simp; omega
    have d2 : ((d : Int) == 0) = false := by simp; omega
    have hn : n ≤ 54 := by omega
    have hd0 := Lib.hid (ofNat_ne d hd (by omega))
    clear hex
    go_enter Try.func5, Try.ntmps5
    go_wp2_with fail
    refine (awake_any _).mono ?_
    rintro _ w1 ⟨rfl, hb1⟩
    have Hp1 := Lib.hid (Hp.out.below hb1)
    have Hb1 := Lib.hid hb1
    clear hb1
    go_wp2_with fail
    refine (rmake_any g ad n c p _ hg Hp1.out hn).mono ?_
    rintro _ w2 ⟨rfl, hb2⟩
    have hokX := rec_ok (g := g) (p := p) (by rw [Hlen.out]; exact hn)
    generalize recS g p = X at *
    have hi : at' % 64 < 64 := Nat.mod_lt _ (by omega)
    have hidx : ((at' : Int) % 64) = ((at' % 64 : Nat) : Int) := by omega
    have hr2 : readAt (w2.alloc (.cells (av X) 25)) w2.heap.size 0 64 = some (bv (sl X)) := by rw [← av_sl]; simp [go_sem]
    have hk2 : canAt (w2.alloc (.cells (av X) 25)) w2.heap.size 0 64 = true := by simp [go_sem]
    have hb3 := ba (.cells (av X) 25) (bt Hb1.out hb2)
    have hwS : w.heap.size ≤ w2.heap.size := by have := Hb1.out.size; have := hb2.size; omega
    generalize hW : w2.alloc (.cells (av X) 25) = w3 at *
    generalize at' % 64 = I at *
    have hcell := sec_cell hr2 (sl_length X) hi
    have hfr := canAt_cell hk2 I
    rw [Nat.zero_add] at hfr
    have hset := sec_set ((sl X).getD I 0 ^^^ UInt8.ofNat d) hr2 hk2 (sl_length X) hi
    rw [← xor_val _ d hd] at hset
    have hYl : ((sl X).set I ((sl X).getD I 0 ^^^ UInt8.ofNat d)).length = 64 := by simp
    have hno := change_not X (secOf ((sl X).set I ((sl X).getD I 0 ^^^ UInt8.ofNat d))) I hi (UInt8.ofNat d) hd0.out (ok_sum hokX) (sl_secOf _ hYl)
    rw [bv_secOf _ hYl] at hset
    generalize secOf ((sl X).set I ((sl X).getD I 0 ^^^ UInt8.ofNat d)) = Y at *
    have hz := toNat_lt ((sl X).getD I 0)
    generalize ((sl X).getD I 0).toNat = z at *
    have hrY := hset.1
    have Hset := Lib.hid hset
    have Hno := Lib.hid hno
    have Hb3 := Lib.hid hb3
    clear hset hno hb3 hb2 hokX hr2 hk2 hYl Hb1 Hp1
    go_wp2_with fail
    have Hb4 := Lib.hid ((Hset.out.2.2).below Hb3.out hwS)
    generalize w3.setCell ⟨w2.heap.size, I, none⟩ (.int .u8 (bits .xor .u8 (z : Int) (d : Int))) = w4 at *
    clear hcell hfr hW Hset hrY
    refine (fparse_any Y _).mono ?_
    rintro _ w5 ⟨hpo, hb5⟩
    obtain rfl := hpo.no Hno.out
    have hfin := Lib.hid (bt Hb4.out hb5)
    clear hpo hb5
    go_wp2
    go_ret
    exact ⟨rfl, hfin.out⟩
end Go.Proofs.Ytlonmghkdobhdaa
