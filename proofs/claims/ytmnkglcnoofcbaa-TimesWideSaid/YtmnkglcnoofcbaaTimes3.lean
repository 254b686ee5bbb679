/- The check awake of tolllaw03 returns true, and the laws TimesMatchesReference and TimesOrder return true. Conditions: integer arguments fit 64 bits. -/
import Derived.Test.YtmnkglcnoofcbaaTimes2
namespace Go.Proofs.Ytmnkglcnoofcbaa
open Go.RowKit

theorem is64_lit (x : Int) (h : -9223372036854775808 ≤ x ∧ x ≤ 9223372036854775807) : Is64 x := h
theorem bt {w w1 w2 : World} (h : Below w.heap.size w w1) (h2 : Below w1.heap.size w1 w2) : Below w.heap.size w w2 := h.trans (h2.mono h.size)
theorem ba {w w1 : World} (o : Obj) (h : Below w.heap.size w w1) : Below w.heap.size w (w1.alloc o) := h.alloc h.size o

set_option maxHeartbeats 400000 in
theorem awake_any (w : World) :
    Calls Try.prog 7 #[] w fun r w' => r = .returned (.bool true) ∧ Below w.heap.size w w' := by
  go_enter Try.func7, Try.ntmps7
  go_wp2_with fail
  refine (window_any 10 20 1 _ (is64_lit _ (by decide)) (is64_lit _ (by decide)) (is64_lit _ (by decide))).mono ?_
  rintro _ w1 ⟨rfl, hb1⟩
  rw [show sat (10 - 1) = 9 from by decide, show sat (20 + 1) = 21 from by decide]
  go_wp2_with fail
  refine (add_one _ 5 _ _ (is64_lit _ (by decide)) (is64_lit _ (by decide)) (by simp) (by simp)).mono ?_
  rintro _ w2 ⟨rfl, hb2⟩
  replace hb2 := bt (ba _ hb1) hb2
  rw [show sat (9223372036854775807 + 5) = 9223372036854775807 from by decide]
  go_wp2_with fail
  refine (sub_any _ _ _ (is64_lit _ (by decide)) (is64_lit _ (by decide))).mono ?_
  rintro _ _ ⟨rfl, rfl⟩
  rw [show sat (-9223372036854775808 - 1) = -9223372036854775808 from by decide]
  go_wp2_with fail
  refine (side_any _ _ _ _ _ (is64_lit _ (by decide)) (is64_lit _ (by decide)) (is64_lit _ (by decide))).mono ?_
  rintro _ w3 ⟨rfl, hb3⟩
  replace hb3 := bt hb2 hb3
  rw [show side 9 10 20 1 = 0 from by decide]
  go_wp2_with fail
  refine (apart_any _ _ _ (is64_lit _ (by decide)) (is64_lit _ (by decide))).mono ?_
  rintro _ _ ⟨rfl, rfl⟩
  rw [show sat (max 3 10 - min 3 10) = 7 from by decide]
  go_wp2_with fail
  refine (most_nil _ _ _).mono ?_
  rintro _ _ ⟨rfl, rfl⟩
  rw [show low = -9223372036854775808 from rfl]
  go_wp2_with fail
  refine (add_nil _ _ _ _).mono ?_
  rintro _ w4 ⟨rfl, hb4⟩
  replace hb4 := bt hb3 hb4
  go_wp2
  go_ret
  exact ⟨rfl, hb4⟩

theorem apart_comm (a b : Int) : sat (max a b - min a b) = sat (max b a - min b a) := by congr 1; omega

set_option maxHeartbeats 400000 in
theorem law_matches (a b : Int) (w : World) (ha : Is64 a) (hb : Is64 b) :
    Calls Try.prog 3 #[.int .i64 a, .int .i64 b] w fun r w' => r = .returned (.bool true) ∧ Below w.heap.size w w' := by
  go_enter Try.func3, Try.ntmps3
  go_wp2_with fail
  refine (awake_any _).mono ?_
  rintro _ w1 ⟨rfl, hb1⟩
  go_wp2_with fail
  refine (add_one a b _ _ ha hb (by simp) (by simp)).mono ?_
  rintro _ w2 ⟨rfl, hb2⟩
  replace hb2 := bt (ba _ hb1) hb2
  go_wp2_with fail
  refine (radd_any a b _ ha hb).mono ?_
  rintro _ _ ⟨rfl, rfl⟩
  go_wp2_with fail
  refine (sub_any a b _ ha hb).mono ?_
  rintro _ _ ⟨rfl, rfl⟩
  go_wp2_with fail
  refine (rsub_any a b _ ha hb).mono ?_
  rintro _ _ ⟨rfl, rfl⟩
  go_wp2_with fail
  refine (apart_any a b _ ha hb).mono ?_
  rintro _ _ ⟨rfl, rfl⟩
  go_wp2_with fail
  refine (rapart_any a b _ ha hb).mono ?_
  rintro _ _ ⟨rfl, rfl⟩
  go_wp2
  go_ret
  exact ⟨rfl, hb2⟩


theorem sat_mono (x y : Int) (h : x ≤ y) : sat x ≤ sat y := by simp only [sat]; (repeat' split) <;> omega
theorem sat_ge (x y : Int) (hy : Is64 y) (h : y ≤ x) : y ≤ sat x := by simp only [Is64, sat] at *; (repeat' split) <;> omega
theorem sat_le (x y : Int) (hy : Is64 y) (h : x ≤ y) : sat x ≤ y := by simp only [Is64, sat] at *; (repeat' split) <;> omega
theorem sat_zero (x : Int) : sat x = 0 ↔ x = 0 := by simp only [sat]; (repeat' split) <;> omega

set_option maxHeartbeats 800000 in
theorem law_order (a b c : Int) (w : World) (ha : Is64 a) (hb : Is64 b) (hc : Is64 c) :
    Calls Try.prog 5 #[.int .i64 a, .int .i64 b, .int .i64 c] w fun r w' => r = .returned (.bool true) ∧ Below w.heap.size w w' := by
  have hd0 : 0 ≤ sat (max a b - min a b) := sat_ge _ _ (is64_lit _ (by decide)) (by omega)
  have hd : sat (max a b - min a b) = sat (max b a - min b a) := by congr 1; omega
  have hd1 : (sat (max a b - min a b) == 0) = (a == b) := by rw [Bool.eq_iff_iff, beq_iff_eq, beq_iff_eq, sat_zero]; omega
  have Hd := Lib.hid hd; clear hd
  have Hd1 := Lib.hid hd1; clear hd1
  by_cases hab : a ≤ b <;> by_cases hc0 : 0 ≤ c
  · have h1 := sat_mono (a + c) (b + c) (by omega)
    have h2 := sat_mono (a - c) (b - c) (by omega)
    have h3 := sat_ge (a + c) a ha (by omega)
    have h4 := sat_le (a - c) a ha (by omega)
    go_enter Try.func5, Try.ntmps5
    go_wp2_with fail
    refine (awake_any _).mono ?_
    rintro _ w1 ⟨rfl, hb1⟩
    go_wp2_with fail
    refine (add_one a c _ _ ha hc (by simp) (by simp)).mono ?_
    rintro _ w2 ⟨rfl, hb2⟩
    replace hb2 := bt (ba _ hb1) hb2
    go_wp2_with fail
    refine (add_one b c _ _ hb hc (by simp) (by simp)).mono ?_
    rintro _ w3 ⟨rfl, hb3⟩
    replace hb3 := bt (ba _ hb2) hb3
    go_wp2_with fail
    refine (sub_any a c _ ha hc).mono ?_
    rintro _ _ ⟨rfl, rfl⟩
    go_wp2_with fail
    refine (sub_any b c _ hb hc).mono ?_
    rintro _ _ ⟨rfl, rfl⟩
    go_wp2_with fail
    refine (add_one a c _ _ ha hc (by simp) (by simp)).mono ?_
    rintro _ w4 ⟨rfl, hb4⟩
    replace hb4 := bt (ba _ hb3) hb4
    go_wp2_with fail
    refine (sub_any a c _ ha hc).mono ?_
    rintro _ _ ⟨rfl, rfl⟩
    go_wp2_with fail
    refine (apart_any a b _ ha hb).mono ?_
    rintro _ _ ⟨rfl, rfl⟩
    go_wp2_with fail
    refine (apart_any b a _ hb ha).mono ?_
    rintro _ _ ⟨rfl, rfl⟩
    rw [← Hd.out]
    go_wp2
    go_ret
    exact ⟨by simp [Hd1.out], hb4⟩
  · have h1 := sat_mono (a + c) (b + c) (by omega)
    have h2 := sat_mono (a - c) (b - c) (by omega)
    go_enter Try.func5, Try.ntmps5
    go_wp2_with fail
    refine (awake_any _).mono ?_
    rintro _ w1 ⟨rfl, hb1⟩
    go_wp2_with fail
    refine (add_one a c _ _ ha hc (by simp) (by simp)).mono ?_
    rintro _ w2 ⟨rfl, hb2⟩
    replace hb2 := bt (ba _ hb1) hb2
    go_wp2_with fail
    refine (add_one b c _ _ hb hc (by simp) (by simp)).mono ?_
    rintro _ w3 ⟨rfl, hb3⟩
    replace hb3 := bt (ba _ hb2) hb3
    go_wp2_with fail
    refine (sub_any a c _ ha hc).mono ?_
    rintro _ _ ⟨rfl, rfl⟩
    go_wp2_with fail
    refine (sub_any b c _ hb hc).mono ?_
    rintro _ _ ⟨rfl, rfl⟩
    go_wp2_with fail
    refine (apart_any a b _ ha hb).mono ?_
    rintro _ _ ⟨rfl, rfl⟩
    go_wp2_with fail
    refine (apart_any b a _ hb ha).mono ?_
    rintro _ _ ⟨rfl, rfl⟩
    rw [← Hd.out]
    go_wp2
    go_ret
    exact ⟨by simp [Hd1.out], hb3⟩
  · have h3 := sat_ge (a + c) a ha (by omega)
    have h4 := sat_le (a - c) a ha (by omega)
    go_enter Try.func5, Try.ntmps5
    go_wp2_with fail
    refine (awake_any _).mono ?_
    rintro _ w1 ⟨rfl, hb1⟩
    go_wp2_with fail
    refine (add_one a c _ _ ha hc (by simp) (by simp)).mono ?_
    rintro _ w4 ⟨rfl, hb4⟩
    replace hb4 := bt (ba _ hb1) hb4
    go_wp2_with fail
    refine (sub_any a c _ ha hc).mono ?_
    rintro _ _ ⟨rfl, rfl⟩
    go_wp2_with fail
    refine (apart_any a b _ ha hb).mono ?_
    rintro _ _ ⟨rfl, rfl⟩
    go_wp2_with fail
    refine (apart_any b a _ hb ha).mono ?_
    rintro _ _ ⟨rfl, rfl⟩
    rw [← Hd.out]
    go_wp2
    go_ret
    exact ⟨by simp [Hd1.out], hb4⟩
  · go_enter Try.func5, Try.ntmps5
    go_wp2_with fail
    refine (awake_any _).mono ?_
    rintro _ w1 ⟨rfl, hb1⟩
    go_wp2_with fail
    refine (apart_any a b _ ha hb).mono ?_
    rintro _ _ ⟨rfl, rfl⟩
    go_wp2_with fail
    refine (apart_any b a _ hb ha).mono ?_
    rintro _ _ ⟨rfl, rfl⟩
    rw [← Hd.out]
    go_wp2
    go_ret
    exact ⟨by simp [Hd1.out], hb1⟩

end Go.Proofs.Ytmnkglcnoofcbaa
