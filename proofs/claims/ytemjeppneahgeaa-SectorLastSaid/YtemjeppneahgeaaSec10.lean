/- The law SectorCrashes returns true. Condition: the rows read as rows whose numbers fit 64 bits; the two bytes are bytes. -/
import Derived.Test.YtemjeppneahgeaaSec9
set_option linter.unusedSimpArgs false
set_option linter.unusedVariables false
namespace Go.Proofs.Ytemjeppneahgeaa
open Go.RowKit

theorem norm_range (n : Nat) (x : Int) (h : 1 ≤ n) (h8 : n ≤ 8) : 0 ≤ norm n x ∧ norm n x < n := by
  unfold norm
  have h1 := Int.tmod_lt_of_pos x (show (0 : Int) < n by omega)
  have h2 : -(n : Int) < x.tmod n := by
    rcases Int.le_total 0 x with hx | hx
    · have := Int.tmod_nonneg (n : Int) hx; omega
    · have h3 := Int.tmod_lt_of_pos (-x) (show (0 : Int) < n by omega)
      rw [Int.neg_tmod] at h3; omega
  have e : wrap64 (x.tmod n + n) = x.tmod n + n := by
    unfold wrap64; omega
  rw [e]
  exact ⟨Int.tmod_nonneg _ (by omega), Int.tmod_lt_of_pos _ (by omega)⟩
theorem writes_at (n : Nat) (R : List Rw3) (h : 1 ≤ n) (h8 : n ≤ 8) : ∀ p ∈ writes n R, 0 ≤ p.1 ∧ p.1 < n := by
  intro p hp
  simp only [writes, List.mem_map] at hp
  obtain ⟨r, _, rfl⟩ := hp
  exact norm_range n r.1 h h8
@[simp] theorem writes_length (n : Nat) (R : List Rw3) : (writes n R).length = R.length := by simp [writes]
@[simp] theorem cutsOf_length (R : List Rw3) : (cutsOf R).length = R.length := by simp [cutsOf]
theorem crashK_congr (L : List Sec) (W : List (Int × Sec)) (C D : Nat → Int) (k : Nat) (h : ∀ j, j < k → C j = D j) : crashK L W C k = crashK L W D k := by
  induction k with
  | zero => rfl
  | succ k ih => simp only [crashK]; rw [ih (fun j hj => h j (by omega)), h k (by omega)]
theorem RdS.take {w : World} {ad : Option Addr} {m c q : Nat} {xs : List Int} (h : RdS w (.slice ad m c) m 1 (xs.map (Value.int .i64))) (hq : q ≤ m) : RdS w (.slice ad q c) q 1 ((xs.take q).map (Value.int .i64)) := by
  obtain ⟨ad', cap, e, h1, h2, h3, h4, h5⟩ := h
  simp only [Value.slice.injEq, true_and] at e
  obtain ⟨rfl, rfl⟩ := e
  refine ⟨ad, c, rfl, by omega, h2, by simp at h3 ⊢; omega, fun h => ?_, fun h => ?_⟩
  · have := h4 h; omega
  · obtain ⟨b, o, e, hr⟩ := h5 (by omega)
    refine ⟨b, o, e, ?_⟩
    have := readAt_sub hr o (q * 1) (by omega) (by omega)
    rw [this]
    congr 1
    apply Array.ext'
    simp [List.extract_eq_take_drop, List.map_take]

theorem same_self (va vb : Value) (n : Nat) (A : List Sec) (w : World) (hA : A.length = n) (hn : n ≤ 5000) (ha : RdS w va n 64 (flat av A)) (hb : RdS w vb n 64 (flat av A)) :
    Calls Try.prog 15 #[va, vb] w fun e w' => e = .returned (.bool true) ∧ Below w.heap.size w w' := by
  have := same_eq va vb n A A w hA hA (by omega) ha hb
  simpa using this

/-- The number of sectors that a byte names. -/
def cnt (a : Nat) : Nat := 1 + a % 8
theorem cnt_le (a : Nat) : 1 ≤ cnt a ∧ cnt a ≤ 8 := by unfold cnt; omega

set_option maxHeartbeats 1600000 in
theorem law_crashes (ad : Option Addr) (m c : Nat) (R : List Rw3) (a b : Nat) (w : World) (hl : R.length = m) (hr : RdS w (.slice ad m c) m 3 (flat rv R)) (h64 : ∀ r ∈ R, Is64 r.1 ∧ Is64 r.2.1) (ha : a ≤ 255) (hb : b ≤ 255) :
    Calls Try.prog 6 #[.slice ad m c, .int .u8 a, .int .u8 b] w fun e w' => e = .returned (.bool true) ∧ Below w.heap.size w w' := by
  by_cases hm : m ≤ 50
  · have hmI : decide ((50 : Int) < (m : Int)) = false := by simp; omega
    have hmN : decide (50 < m) = false := by simp; omega
    obtain ⟨hk1, hk8⟩ := cnt_le a
    have Hat := Lib.hid (writes_at (cnt a) R hk1 hk8)
    have Hr := Lib.hid hr
    have Hl := Lib.hid hl
    have H64 := Lib.hid h64
    clear hr hl h64
    go_enter Try.func6, Try.ntmps6
    go_wp2_with fail
    refine (awake_any _).mono ?_
    rintro _ w1 ⟨rfl, hb1⟩
    go_wp2_with fail
    rw [show (1 + (a : Int) % 8) = ((cnt a : Nat) : Int) by unfold cnt; omega]
    generalize cnt a = n at *
    refine (blank_any n 3 w1 hk8 ⟨by decide, by decide⟩).mono ?_
    rintro _ w2 ⟨⟨vold, rfl, hold⟩, hb2⟩
    go_wp2_with fail
    refine (blank_any n 3 w2 hk8 ⟨by decide, by decide⟩).mono ?_
    rintro _ w3 ⟨⟨vown, rfl, hown⟩, hb3⟩
    go_wp2_with fail
    have hb13 := bt (bt hb1 hb2) hb3
    refine (rows_any ad m c n R w3 hm Hl.out (Hr.out.below hb13) H64.out hk1 hk8).mono ?_
    rintro _ w4 ⟨⟨va, vb, vc, rfl, hva, hvb, hvc, sab, sac, sbc⟩, hb4⟩
    have hb14 := bt hb13 hb4
    have Hold := Lib.hid ((RdS_of_own hold).below (bt hb3 hb4))
    have Hown := Lib.hid ((RdS_of_own hown).below hb4)
    have Ha := Lib.hid (RdS_of_own hva)
    have Hb := Lib.hid (RdS_of_own hvb)
    have hc := RdS_of_own hvc
    clear hold hown hva hvb hvc sab sac sbc hb1 hb2 hb3 hb4 hb13
    obtain ⟨adc, cc, rfl, hcc⟩ : ∃ adc cc, vc = .slice adc m cc ∧ m ≤ cc := by
      obtain ⟨adc, cc, h1, h2, _⟩ := hc; exact ⟨adc, cc, h1, h2⟩
    obtain ⟨ada, ca, rfl⟩ : ∃ ada ca, va = .slice ada m ca := by
      obtain ⟨ada, ca, h1, _⟩ := Ha.out; exact ⟨ada, ca, h1⟩
    have Hc : Hid (∀ q, q ≤ m → RdS w4 (.slice adc q cc) q 1 (((cutsOf R).take q).map (Value.int .i64))) := fun q hq => hc.take hq
    clear hc
    have hBL : (blank n 3).length = n := blank_length n 3
    have hWL : (writes n R).length = m := by rw [writes_length, Hl.out]
    have Hcl : Hid (∀ q, q ≤ m → ((cutsOf R).take q).length = q) := fun q hq => by simp [Hl.out, Nat.min_eq_left hq]
    have Hcong : Hid (crashK (blank n 3) (writes n R) (cutAt (List.replicate m 64)) m = crashK (blank n 3) (writes n R) (fun _ => 64) m) :=
      crashK_congr _ _ _ _ _ (fun j hj => by simp [cutAt, List.getD, hj])
    have HBL := Lib.hid hBL
    have HWL := Lib.hid hWL
    clear hBL hWL
    generalize blank n 3 = B at *
    generalize writes n R = W at *
    generalize cutsOf R = cs at *
    clear Hr Hl H64 hmI hmN
    go_wp2_with fail
    all_goals
      (try rw [show ((m : Int) - (b : Int) % 4).toNat = m - b % 4 by omega])
      refine (crash_any vown vb _ n m _ _ _ _ w4 hk1 (by omega) HBL.out (by omega) HWL.out (Hcl.out _ (by omega)) Hown.out Hb.out (Hc.out _ (by omega)) Hat.out).mono ?_
      rintro _ w5 ⟨⟨v5, rfl, ho5⟩, hb5⟩
      go_wp2_with fail
      refine (rcrash_any vold (.slice ada m ca) _ n m _ _ _ _ w5 hk1 (by omega) HBL.out (by omega) HWL.out (Hcl.out _ (by omega)) (Hold.out.below hb5) (Ha.out.below hb5) ((Hc.out _ (by omega)).below hb5) Hat.out).mono ?_
      rintro _ w6 ⟨⟨v6, rfl, ho6⟩, hb6⟩
      go_wp2_with fail
      refine (same_self v5 v6 n _ w6 (by rw [crashK_length, HBL.out]) (by omega) (ho5.below hb6).rd ho6.rd).mono ?_
      rintro _ w7 ⟨rfl, hb7⟩
      have hb47 := bt (bt hb5 hb6) hb7
      clear ho5 ho6
      go_wp2_with fail
      refine (all_any vown vb n m _ _ w7 hk1 (by omega) HBL.out (by omega) HWL.out (Hown.out.below hb47) (Hb.out.below hb47) Hat.out).mono ?_
      rintro _ w8 ⟨⟨v8, rfl, ho8⟩, hb8⟩
      go_wp2_with fail
      refine (whole_any m w8 (by omega)).mono ?_
      rintro _ w9 ⟨⟨v9, rfl, ho9⟩, hb9⟩
      have hb49 := bt (bt hb47 hb8) hb9
      go_wp2_with fail
      refine (rcrash_any vold (.slice ada m ca) v9 n m m _ _ (List.replicate m 64) w9 hk1 (by omega) HBL.out (by omega) HWL.out (by simp) (Hold.out.below hb49) (Ha.out.below hb49) (RdS_of_own ho9) Hat.out).mono ?_
      rintro _ wa ⟨⟨va, rfl, hoa⟩, hba⟩
      rw [Hcong.out] at hoa
      go_wp2_with fail
      refine (same_self v8 va n _ wa (by rw [crashK_length, HBL.out]) (by omega) (ho8.below (bt hb9 hba)).rd hoa.rd).mono ?_
      rintro _ wb ⟨rfl, hbb⟩
      have hb4b := bt (bt hb49 hba) hbb
      clear ho8 ho9 hoa
      go_wp2_with fail
      refine (same_self vown vold n _ wb HBL.out (by omega) (Hown.out.below hb4b) (Hold.out.below hb4b)).mono ?_
      rintro _ wc ⟨rfl, hbc⟩
      go_wp2
      go_ret
      exact ⟨rfl, bt hb14 (bt hb4b hbc)⟩
  · have hmI : decide ((50 : Int) < (m : Int)) = true := by simp; omega
    have hmN : decide (50 < m) = true := by simp; omega
    clear hm
    go_enter Try.func6, Try.ntmps6
    go_wp2_with fail
    refine (awake_any _).mono ?_
    rintro _ w1 ⟨rfl, hb1⟩
    go_wp2_with fail
    refine (awake_any _).mono ?_
    rintro _ w2 ⟨rfl, hb2⟩
    go_wp2
    go_ret
    exact ⟨rfl, bt hb1 hb2⟩
theorem law_crashesI (ad : Option Addr) (m c : Nat) (R : List Rw3) (a b : Int) (w : World) (hl : R.length = m) (hr : RdS w (.slice ad m c) m 3 (flat rv R)) (h64 : ∀ r ∈ R, Is64 r.1 ∧ Is64 r.2.1) (ha : 0 ≤ a ∧ a ≤ 255) (hb : 0 ≤ b ∧ b ≤ 255) :
    Calls Try.prog 6 #[.slice ad m c, .int .u8 a, .int .u8 b] w fun e w' => e = .returned (.bool true) ∧ Below w.heap.size w w' := by
  obtain ⟨x, rfl⟩ := Int.eq_ofNat_of_zero_le ha.1
  obtain ⟨y, rfl⟩ := Int.eq_ofNat_of_zero_le hb.1
  exact law_crashes ad m c R x y w hl hr h64 (by omega) (by omega)
end Go.Proofs.Ytemjeppneahgeaa
