/- The laws TimesWide and TimesSums return true. Conditions: integer arguments fit 64 bits; the slice reads as its numbers. -/
import Derived.Test.YtmnkglcnoofcbaaTimes3
namespace Go.Proofs.Ytmnkglcnoofcbaa
open Go.RowKit

theorem side_vals (t s e k : Int) : side t s e k = -1 ∨ side t s e k = 0 ∨ side t s e k = 1 := by
  unfold side; (repeat' split) <;> simp
theorem side_wide (t s e k m : Int) (hs : Is64 s) (he : Is64 e) (hk : Is64 k) (_hk0 : 0 ≤ k) (_hm : Is64 m) (hm0 : 0 ≤ m) (h : side t s e k = 0) :
    side t s e (sat (k + m)) = 0 ∧ side t (sat (s - m)) e k = 0 ∧ side t s (sat (e + m)) k = 0 := by
  have h1 : sat (s - k) ≤ t ∧ t ≤ sat (e + k) := by
    unfold side at h; split at h
    · simp at h
    · split at h
      · simp at h
      · omega
  have ha : sat (s - sat (k + m)) ≤ sat (s - k) := sat_mono _ _ (by have := sat_ge (k + m) k hk (by omega); omega)
  have hb : sat (e + k) ≤ sat (e + sat (k + m)) := sat_mono _ _ (by have := sat_ge (k + m) k hk (by omega); omega)
  have hc : sat (sat (s - m) - k) ≤ sat (s - k) := sat_mono _ _ (by have := sat_le (s - m) s hs (by omega); omega)
  have hd : sat (e + k) ≤ sat (sat (e + m) + k) := sat_mono _ _ (by have := sat_ge (e + m) e he (by omega); omega)
  refine ⟨?_, ?_, ?_⟩ <;> (unfold side; rw [if_neg (by omega), if_neg (by omega)])

set_option maxHeartbeats 800000 in
theorem law_wide (t s e k m : Int) (w : World) (_ht : Is64 t) (hs : Is64 s) (he : Is64 e) (hk : Is64 k) (hm : Is64 m) :
    Calls Try.prog 6 #[.int .i64 t, .int .i64 s, .int .i64 e, .int .i64 k, .int .i64 m] w fun r w' => r = .returned (.bool true) ∧ Below w.heap.size w w' := by
  by_cases hk0 : 0 ≤ k
  · by_cases hm0 : 0 ≤ m
    · by_cases h : side t s e k = 0
      · obtain ⟨s1, s2, s3⟩ := side_wide t s e k m hs he hk hk0 hm hm0 h
        have H := Lib.hid h
        have S1 := Lib.hid s1
        have S2 := Lib.hid s2
        have S3 := Lib.hid s3
        clear h s1 s2 s3
        go_enter Try.func6, Try.ntmps6
        go_wp2_with fail
        refine (awake_any _).mono ?_
        rintro _ w1 ⟨rfl, hb1⟩
        go_wp2_with fail
        refine (side_any t s e k _ hs he hk).mono ?_
        rintro _ w2 ⟨rfl, hb2⟩
        replace hb2 := bt hb1 hb2
        rw [H.out]
        go_wp2_with fail
        refine (radd_any k m _ hk hm).mono ?_
        rintro _ _ ⟨rfl, rfl⟩
        go_wp2_with fail
        refine (side_any t s e (sat (k + m)) _ hs he (sat_is _)).mono ?_
        rintro _ w3 ⟨rfl, hb3⟩
        replace hb3 := bt hb2 hb3
        rw [S1.out]
        go_wp2_with fail
        refine (rsub_any s m _ hs hm).mono ?_
        rintro _ _ ⟨rfl, rfl⟩
        go_wp2_with fail
        refine (side_any t (sat (s - m)) e k _ (sat_is _) he hk).mono ?_
        rintro _ w4 ⟨rfl, hb4⟩
        replace hb4 := bt hb3 hb4
        rw [S2.out]
        go_wp2_with fail
        refine (radd_any e m _ he hm).mono ?_
        rintro _ _ ⟨rfl, rfl⟩
        go_wp2_with fail
        refine (side_any t s (sat (e + m)) k _ hs (sat_is _) hk).mono ?_
        rintro _ w5 ⟨rfl, hb5⟩
        replace hb5 := bt hb4 hb5
        rw [S3.out]
        go_wp2
        go_ret
        exact ⟨rfl, hb5⟩
      · have h1 : (side t s e k == 0) = false := by simpa using h
        have h2 : (side t s e k != 0) = true := by simpa using h
        clear h
        go_enter Try.func6, Try.ntmps6
        go_wp2_with fail
        refine (awake_any _).mono ?_
        rintro _ w1 ⟨rfl, hb1⟩
        go_wp2_with fail
        refine (side_any t s e k _ hs he hk).mono ?_
        rintro _ w2 ⟨rfl, hb2⟩
        replace hb2 := bt hb1 hb2
        go_wp2_with fail
        refine (rside_any t s e k _ hs he hk).mono ?_
        rintro _ _ ⟨rfl, rfl⟩
        go_wp2
        go_ret
        exact ⟨rfl, hb2⟩
    · go_enter Try.func6, Try.ntmps6
      go_wp2_with fail
      refine (awake_any _).mono ?_
      rintro _ w1 ⟨rfl, hb1⟩
      go_wp2_with fail
      refine (awake_any _).mono ?_
      rintro _ w2 ⟨rfl, hb2⟩
      replace hb2 := bt hb1 hb2
      go_wp2
      go_ret
      exact ⟨rfl, hb2⟩
  · go_enter Try.func6, Try.ntmps6
    go_wp2_with fail
    refine (awake_any _).mono ?_
    rintro _ w1 ⟨rfl, hb1⟩
    go_wp2_with fail
    refine (awake_any _).mono ?_
    rintro _ w2 ⟨rfl, hb2⟩
    replace hb2 := bt hb1 hb2
    go_wp2
    go_ret
    exact ⟨rfl, hb2⟩

theorem intsAt_mono {w w1 : World} {ad : Option Addr} {n : Nat} {zs : List Int} (h : IntsAt w ad n zs) (hb : Below w.heap.size w w1) : IntsAt w1 ad n zs := by
  obtain ⟨h1, h2, h3, h4⟩ := h
  refine ⟨h1, h2, h3, fun h0 => ?_⟩
  obtain ⟨b, off, e, hlt, hc⟩ := h4 h0
  exact ⟨b, off, e, Nat.lt_of_lt_of_le hlt hb.size, fun j hj => by rw [hb.cell (p := ⟨b, off + j, none⟩) hlt]; exact hc j hj⟩

def small (n : Nat) : Bool := decide (n ≤ 50)

set_option maxHeartbeats 800000 in
theorem law_sums_big (a : Int) (ad : Option Addr) (n c : Nat) (w : World) (h : 50 < n) :
    Calls Try.prog 4 #[.int .i64 a, .slice ad n c] w fun r w' => r = .returned (.bool true) ∧ Below w.heap.size w w' := by
  go_enter Try.func4, Try.ntmps4
  go_wp2_with fail
  refine (awake_any _).mono ?_
  rintro _ w1 ⟨rfl, hb1⟩
  go_wp2_with fail
  refine (awake_any _).mono ?_
  rintro _ w2 ⟨rfl, hb2⟩
  replace hb2 := bt hb1 hb2
  go_wp2
  go_ret
  exact ⟨rfl, hb2⟩

theorem gt50 (n : Nat) (h : n ≤ 50) : decide ((50 : Int) < (n : Int)) = false := by simp; omega

set_option maxHeartbeats 800000 in
theorem law_sums_nil (a : Int) (ad : Option Addr) (c : Nat) (w : World) :
    Calls Try.prog 4 #[.int .i64 a, .slice ad 0 c] w fun r w' => r = .returned (.bool true) ∧ Below w.heap.size w w' := by
  go_enter Try.func4, Try.ntmps4
  go_wp2_with fail
  refine (awake_any _).mono ?_
  rintro _ w1 ⟨rfl, hb1⟩
  go_wp2_with fail
  refine wp_loop_rounds 1 ?_
  rw [rounds_succ]
  go_wp2_with fail
  refine (add_nil a _ _ _).mono ?_
  rintro _ w2 ⟨rfl, hb2⟩
  replace hb2 := bt hb1 hb2
  go_wp2_with fail
  refine (most_nil _ _ _).mono ?_
  rintro _ _ ⟨rfl, rfl⟩
  rw [show low = -9223372036854775808 from rfl]
  go_wp2
  go_ret
  exact ⟨rfl, hb2⟩

set_option maxHeartbeats 800000 in
theorem law_sums_some (a : Int) (b off n c : Nat) (zs : List Int) (w : World) (ha : Is64 a) (h0 : 0 < n) (h : IntsAt w (some ⟨b, off, none⟩) n zs) (hn : n ≤ 50) :
    Calls Try.prog 4 #[.int .i64 a, .slice (some ⟨b, off, none⟩) n c] w fun r w' => r = .returned (.bool true) ∧ Below w.heap.size w w' := by
  have hd := gt50 n hn
  go_enter Try.func4, Try.ntmps4
  go_wp2_with fail
  refine (awake_any _).mono ?_
  rintro _ w1 ⟨rfl, hb1⟩
  go_wp2_with fail
  have H1 := Lib.hid (intsAt_mono h hb1)
  clear h
  go_loop [5, 6, 7] (fun s m i => ∃ k : Nat, k ≤ n ∧ s = .int .i64 (sums a (zs.take k)) ∧ m = .int .i64 (mosts low (zs.take k)) ∧ i = .int .i64 k) (fun _ _ i => n - (intOf i).toNat)
  case atStart => exact ⟨0, Nat.zero_le _, rfl, rfl, rfl⟩
  case round =>
    obtain ⟨k, hk, rfl, rfl, rfl⟩ := hrel
    have H2 := Lib.hid H1.out
    obtain ⟨hl, hm, hz, hs⟩ := H1.out
    clear H1
    obtain ⟨b', off', e, hlt', hc⟩ := hs h0
    simp only [Option.some.injEq, Addr.mk.injEq, and_true] at e
    obtain ⟨rfl, rfl⟩ := e
    clear hs
    by_cases hlt : k < n
    · have hcell := hc k hlt
      clear hc
      have hsn := sums_snoc a zs k (by rw [hl]; exact hlt)
      have hmn := mosts_snoc low zs k (by rw [hl]; exact hlt)
      have hzk : Is64 (zs.getD k 0) := by
        have h1 : k < zs.length := by rw [hl]; exact hlt
        have := hz (zs[k]) (List.getElem_mem h1); simpa [List.getD, h1] using this
      have hsi := sums_is a (zs.take k) ha
      have Hl := Lib.hid hl
      have Hsn := Lib.hid hsn
      have Hmn := Lib.hid hmn
      clear hl hsn hmn hz
      generalize zs.getD k 0 = z at *
      generalize sums a (zs.take k) = S at *
      generalize mosts low (zs.take k) = M at *
      by_cases hmz : M < z
      all_goals
        go_wp2_with fail
        refine (radd_any S z _ hsi hzk).mono ?_
        rintro _ _ ⟨rfl, rfl⟩
        go_wp2_with fail
        go_round
        case rel => exact ⟨k + 1, by omega, by rw [Hsn.out], by rw [Hmn.out]; go_num, by go_num⟩
        case measure => simp [intOf]; omega
    · obtain rfl : k = n := by omega
      have ek : zs.take k = zs := List.take_of_length_le (by omega)
      rw [ek]
      have Hl := Lib.hid hl
      clear hl hz hc ek
      go_wp2_with fail
      refine (add_any a _ k _ zs _ ha H2.out).mono ?_
      rintro _ w2 ⟨rfl, hb2⟩
      have hb3 := bt hb1 hb2
      have H3 := Lib.hid (intsAt_mono H2.out hb2)
      go_wp2_with fail
      refine (most_any _ k _ zs _ H3.out).mono ?_
      rintro _ _ ⟨rfl, rfl⟩
      go_wp2
      go_ret
      exact ⟨rfl, hb3⟩

theorem law_sums (a : Int) (ad : Option Addr) (n c : Nat) (zs : List Int) (w : World) (ha : Is64 a) (h : IntsAt w ad n zs) :
    Calls Try.prog 4 #[.int .i64 a, .slice ad n c] w fun r w' => r = .returned (.bool true) ∧ Below w.heap.size w w' := by
  by_cases hn : n ≤ 50
  · by_cases h0 : 0 < n
    · obtain ⟨_, _, _, h4⟩ := id h
      obtain ⟨b, off, rfl, _⟩ := h4 h0
      exact law_sums_some a b off n c zs w ha h0 h hn
    · obtain rfl : n = 0 := by omega
      exact law_sums_nil a ad c w
  · exact law_sums_big a ad n c w (by omega)

end Go.Proofs.Ytmnkglcnoofcbaa
