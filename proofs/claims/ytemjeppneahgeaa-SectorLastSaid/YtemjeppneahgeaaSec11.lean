/- The law SectorOrder returns true. Condition: the rows read as rows whose numbers fit 64 bits; the two bytes are bytes. -/
import Derived.Test.YtemjeppneahgeaaSec10
set_option linter.unusedSimpArgs false
set_option linter.unusedVariables false
namespace Go.Proofs.Ytemjeppneahgeaa
open Go.RowKit

/-! ### plain -/
theorem tear_zero (x y : Sec) (c : Int) (h : c ≤ 0) : tear x y c = x := by
  apply Vector.ext
  intro i hi
  simp only [tear]
  simp
  intro h2
  have : cutN c = 0 := by simp only [cutN]; omega
  omega
theorem set_getD {L : List Sec} (j : Nat) : L.set j (L.getD j zsec) = L := by
  by_cases h : j < L.length
  · rw [List.getD_eq_getElem?_getD, List.getElem?_eq_getElem h]; simp
  · exact List.set_eq_of_length_le (by omega)
theorem crash_nil (L : List Sec) (W : List (Int × Sec)) (k : Nat) : crashK L W (cutAt []) k = L := by
  induction k with
  | zero => rfl
  | succ k ih => simp only [crashK, step1, ih]; rw [tear_zero _ _ _ (by simp [cutAt]), set_getD]
theorem step1_comm (L : List Sec) (p q : Int × Sec) (c d : Int) (h : p.1.toNat ≠ q.1.toNat) : step1 (step1 L p c) q d = step1 (step1 L q d) p c := by
  simp only [step1, List.getD_eq_getElem?_getD, List.getElem?_set_ne h, List.getElem?_set_ne (Ne.symm h)]
  exact List.set_comm _ _ h
theorem crashK_congr2 (L : List Sec) (W V : List (Int × Sec)) (C D : Nat → Int) (k : Nat) (h : ∀ j, j < k → W.getD j (0, zsec) = V.getD j (0, zsec) ∧ C j = D j) : crashK L W C k = crashK L V D k := by
  induction k with
  | zero => rfl
  | succ k ih => simp only [crashK]; rw [ih (fun j hj => h j (by omega)), (h k (by omega)).1, (h k (by omega)).2]
def swp {α : Type} (W : List α) (i : Nat) (d : α) : List α := (W.set i (W.getD (i + 1) d)).set (i + 1) (W.getD i d)
theorem swp_length {α : Type} (W : List α) (i : Nat) (d : α) : (swp W i d).length = W.length := by simp [swp]
theorem swp_other {α : Type} (W : List α) (i : Nat) (d : α) (j : Nat) (h1 : j ≠ i) (h2 : j ≠ i + 1) : (swp W i d).getD j d = W.getD j d := by
  simp only [swp, List.getD_eq_getElem?_getD, List.getElem?_set_ne (Ne.symm h1), List.getElem?_set_ne (Ne.symm h2)]
theorem swp_fst {α : Type} (W : List α) (i : Nat) (d : α) (h : i + 1 < W.length) : (swp W i d).getD i d = W.getD (i + 1) d := by
  simp only [swp, List.getD_eq_getElem?_getD]
  rw [List.getElem?_set_ne (by omega), List.getElem?_set_self (by omega)]; rfl
theorem swp_snd {α : Type} (W : List α) (i : Nat) (d : α) (h : i + 1 < W.length) : (swp W i d).getD (i + 1) d = W.getD i d := by
  simp only [swp, List.getD_eq_getElem?_getD]
  rw [List.getElem?_set_self (by simp; omega)]; rfl
theorem crash_swap (L : List Sec) (W : List (Int × Sec)) (cs : List Int) (i m : Nat) (hW : W.length = m) (hc : cs.length = m) (hi : i + 1 < m) (hne : (W.getD i (0, zsec)).1.toNat ≠ (W.getD (i + 1) (0, zsec)).1.toNat) :
    crashK L (swp W i (0, zsec)) (cutAt (swp cs i 0)) m = crashK L W (cutAt cs) m := by
  have key : ∀ t, crashK L (swp W i (0, zsec)) (cutAt (swp cs i 0)) (i + 2 + t) = crashK L W (cutAt cs) (i + 2 + t) := by
    intro t
    induction t with
    | zero =>
      simp only [Nat.add_zero, crashK]
      rw [crashK_congr2 L (swp W i (0, zsec)) W (cutAt (swp cs i 0)) (cutAt cs) i (fun j hj => ⟨swp_other W i _ j (by omega) (by omega), swp_other cs i _ j (by omega) (by omega)⟩)]
      rw [swp_fst W i _ (by omega), swp_snd W i _ (by omega)]
      simp only [cutAt]
      rw [swp_fst cs i _ (by omega), swp_snd cs i _ (by omega)]
      exact step1_comm _ _ _ _ _ (Ne.symm hne)
    | succ t ih =>
      rw [← Nat.add_assoc]
      simp only [crashK]
      rw [ih, swp_other W i _ _ (by omega) (by omega)]
      simp only [cutAt]
      rw [swp_other cs i _ _ (by omega) (by omega)]
  have := key (m - (i + 2))
  rwa [show i + 2 + (m - (i + 2)) = m by omega] at this
theorem swp_mem {α : Type} (W : List α) (i : Nat) (d : α) (h : i + 1 < W.length) (p : α) (hp : p ∈ swp W i d) : p ∈ W := by
  simp only [swp] at hp
  have e1 : W.getD (i + 1) d ∈ W := by rw [List.getD_eq_getElem?_getD, List.getElem?_eq_getElem h]; exact List.getElem_mem _
  have e2 : W.getD i d ∈ W := by rw [List.getD_eq_getElem?_getD, List.getElem?_eq_getElem (by omega)]; exact List.getElem_mem _
  rcases List.mem_or_eq_of_mem_set hp with hp | rfl
  · rcases List.mem_or_eq_of_mem_set hp with hp | rfl
    · exact hp
    · exact e1
  · exact e2

/-! ### the walk -/
theorem two_writes {w : World} {g i m : Nat} {W : List (Int × Sec)} (hr : readAt w g 0 (m * 65) = some (flat wp2 W).toArray) (hW : W.length = m) (hi : i < m) : readAt w g (i * 65) 65 = some (wv (W.getD i (0, zsec)).1 (W.getD i (0, zsec)).2) := by
  have hle : i * 65 + 65 ≤ m * 65 := by omega
  have := readAt_sub hr (i * 65) 65 (by omega) (by omega)
  rw [this, Nat.sub_zero, flat_get wp2 65 size_wp2 W i (by omega), List.getD_eq_getElem?_getD, List.getElem?_eq_getElem (by omega)]
  rfl
theorem one_cut {w : World} {g i m : Nat} {cs : List Int} (hr : readAt w g 0 (m * 1) = some (cs.map (Value.int .i64)).toArray) (hc : cs.length = m) (hi : i < m) : w.cell? ⟨g, i, none⟩ = some (.int .i64 (cs.getD i 0)) := by
  have := readAt_cell hr i (.int .i64 (cs.getD i 0)) (by simp [hc, hi, List.getD])
  simpa using this

def iv (x : Int) : Array Value := #[.int .i64 x]
theorem flat_iv (cs : List Int) : flat iv cs = cs.map (Value.int .i64) := by
  induction cs with
  | nil => rfl
  | cons x cs ih => simp only [flat, List.flatMap_cons, List.map_cons] at ih ⊢; rw [ih]; rfl
theorem put_cut {cs : List Int} (i : Nat) (hi : i < cs.length) (q : Int) : putAt (cs.map (Value.int .i64)).toArray i #[.int .i64 q] = ((cs.set i q).map (Value.int .i64)).toArray := by
  have := flat_set iv 1 (fun _ => rfl) cs i hi q
  rw [flat_iv, flat_iv, Nat.mul_one] at this
  exact this

set_option maxHeartbeats 1600000 in
theorem law_order (ad : Option Addr) (m c : Nat) (R : List Rw3) (a b : Nat) (w : World) (hl : R.length = m) (hr : RdS w (.slice ad m c) m 3 (flat rv R)) (h64 : ∀ r ∈ R, Is64 r.1 ∧ Is64 r.2.1) (ha : a ≤ 255) (hb : b ≤ 255) :
    Calls Try.prog 5 #[.slice ad m c, .int .u8 a, .int .u8 b] w fun e w' => e = .returned (.bool true) ∧ Below w.heap.size w w' := by
  by_cases hm : m ≤ 50
  · have hmI : decide ((50 : Int) < (m : Int)) = false := by simp; omega
    have hmN : decide (50 < m) = false := by simp; omega
    obtain ⟨hk1, hk8⟩ := cnt_le a
    have Hat := Lib.hid (writes_at (cnt a) R hk1 hk8)
    have Hr := Lib.hid hr
    have Hl := Lib.hid hl
    have H64 := Lib.hid h64
    clear hr hl h64
    go_enter Try.func5, Try.ntmps5
    go_wp2_with fail
    refine (awake_any _).mono ?_
    rintro _ w1 ⟨rfl, hb1⟩
    go_wp2_with fail
    rw [show (1 + (a : Int) % 8) = ((cnt a : Nat) : Int) by unfold cnt; omega]
    generalize cnt a = n at *
    refine (blank_any n 9 w1 hk8 ⟨by decide, by decide⟩).mono ?_
    rintro _ w2 ⟨⟨vold, rfl, hold⟩, hb2⟩
    go_wp2_with fail
    have hb13 := bt hb1 hb2
    refine (rows_any ad m c n R w2 hm Hl.out (Hr.out.below hb13) H64.out hk1 hk8).mono ?_
    rintro _ w3 ⟨⟨va, vb, vc, rfl, hva, hvb, hvc, sab, sac, sbc⟩, hb3⟩
    have hb14 := bt hb13 hb3
    have Hold2 := Lib.hid (RdS_of_own hold)
    have Hold := Lib.hid ((RdS_of_own hold).below hb3)
    have Hb := Lib.hid hvb
    have Hc := Lib.hid hvc
    have Hsep := Lib.hid sbc
    clear hold hva hvb hvc sab sac sbc hb1 hb2
    have hWL : (writes n R).length = m := by rw [writes_length, Hl.out]
    have hcl : (cutsOf R).length = m := by simp [Hl.out]
    have hBL : (blank n 9).length = n := blank_length n 9
    have HBL := Lib.hid hBL
    have HWL := Lib.hid hWL
    have Hcl := Lib.hid hcl
    clear hBL hWL hcl
    generalize blank n 9 = B at *
    generalize writes n R = W at *
    generalize cutsOf R = cs at *
    clear Hr Hl H64 hmI hmN
    obtain ⟨adb, cb, rfl⟩ : ∃ adb cb, vb = .slice adb m cb := by
      obtain ⟨ad, cap, h1, _⟩ := RdS_of_own Hb.out; exact ⟨ad, cap, h1⟩
    go_wp2_with fail
    refine (crash_any vold (.slice adb m cb) (.slice none 0 0) n m 0 B W [] w3 hk1 (by omega) HBL.out (by omega) HWL.out rfl Hold.out (RdS_of_own Hb.out) ⟨none, 0, rfl, Nat.le_refl _, by simp [maxLen], rfl, fun _ => ⟨rfl, rfl⟩, fun h => absurd h (by omega)⟩ Hat.out).mono ?_
    rintro _ w4 ⟨⟨v4, rfl, ho4⟩, hb4⟩
    rw [crash_nil] at ho4
    go_wp2_with fail
    refine (same_self v4 vold n B w4 HBL.out (by omega) ho4.rd (Hold.out.below hb4)).mono ?_
    rintro _ w5 ⟨rfl, hb5⟩
    have hb35 := bt hb4 hb5
    clear ho4 hb4 hb5
    go_wp2_with fail
    · go_ret
      exact ⟨rfl, bt hb14 hb35⟩
    have h2n : 2 ≤ m := by omega
    obtain ⟨gb, cb', e1, hgb, hcb, hcbm, hrb3, hkb3⟩ := ownsRow_view Hb.out (by omega)
    simp only [Value.slice.injEq, true_and] at e1
    obtain ⟨rfl, rfl⟩ := e1
    obtain ⟨gc, cc, rfl, hgc, hcc, hccm, hrc3, hkc3⟩ := ownsRow_view Hc.out (by omega)
    have hne : gb ≠ gc := by
      intro e
      refine Hsep.out gb ?_ (by rw [e]; simp [Value.ownBlock])
      simp [Value.ownBlock]
    have hlb3 := readAt_lt hrb3
    have hlc3 := readAt_lt hrc3
    have Hold5 := Lib.hid (Hold.out.below hb35)
    have Hrb := Lib.hid (show readAt w5 gb 0 (m * 65) = some (flat wp2 W).toArray by rw [readAt_below hb35 hlb3]; exact hrb3)
    have Hkb := Lib.hid (show canAt w5 gb 0 (m * 65) = true by rw [canAt_below hb35 hlb3]; exact hkb3)
    have Hrc := Lib.hid (show readAt w5 gc 0 (m * 1) = some (cs.map (Value.int .i64)).toArray by rw [readAt_below hb35 hlc3]; exact hrc3)
    have Hkc := Lib.hid (show canAt w5 gc 0 (m * 1) = true by rw [canAt_below hb35 hlc3]; exact hkc3)
    clear hrb3 hkb3 hrc3 hkc3 Hb Hc Hsep
    rw [show ((b : Int) % ((m : Int) - 1)) = ((b % (m - 1) : Nat) : Int) by rw [show (m : Int) - 1 = ((m - 1 : Nat) : Int) by omega]; exact (Int.natCast_emod _ _).symm]
    have hi : b % (m - 1) + 1 < m := by have := Nat.mod_lt b (show m - 1 > 0 by omega); omega
    generalize b % (m - 1) = i at *
    obtain ⟨⟨x, dx⟩, hx⟩ : ∃ p, W.getD i (0, zsec) = p := ⟨_, rfl⟩
    obtain ⟨⟨y, dy⟩, hy⟩ : ∃ p, W.getD (i + 1) (0, zsec) = p := ⟨_, rfl⟩
    have hwx : readAt w5 gb (i * 65) 65 = some (wv x dx) := by have := two_writes Hrb.out HWL.out (show i < m by omega); rw [hx] at this; exact this
    have hwy : readAt w5 gb ((i + 1) * 65) 65 = some (wv y dy) := by have := two_writes Hrb.out HWL.out hi; rw [hy] at this; exact this
    have hax := readAt_cell hwx 0 (.int .i64 x) (wv_at _ _)
    have hay := readAt_cell hwy 0 (.int .i64 y) (wv_at _ _)
    rw [Nat.add_zero] at hax hay
    have Hx := Lib.hid hx
    have Hy := Lib.hid hy
    have hW5 : Below w.heap.size w w5 := bt hb14 hb35
    have hV5 : Below w2.heap.size w2 w5 := bt hb3 hb35
    clear hx hy hb35 hb14 Hold
    go_region
    obtain ⟨w6, hw6⟩ : ∃ w6, w5.drew = w6 := ⟨_, rfl⟩
    have hW6 : Below w.heap.size w w6 := by rw [← hw6]; exact hW5.drew
    have hV6 : Below w2.heap.size w2 w6 := by rw [← hw6]; exact hV5.drew
    have Hold6 : Hid (RdS w6 vold n 64 (flat av B)) := by rw [← hw6]; exact Hold5
    have Hrb6 : Hid (readAt w6 gb 0 (m * 65) = some (flat wp2 W).toArray) := by rw [← hw6]; exact Hrb
    have Hkb6 : Hid (canAt w6 gb 0 (m * 65) = true) := by rw [← hw6]; exact Hkb
    have Hrc6 : Hid (readAt w6 gc 0 (m * 1) = some (cs.map (Value.int .i64)).toArray) := by rw [← hw6]; exact Hrc
    have Hkc6 : Hid (canAt w6 gc 0 (m * 1) = true) := by rw [← hw6]; exact Hkc
    rw [hw6]
    clear hw6 hW5 hV5 Hold5 Hrb Hkb Hrc Hkc hwx hwy hax hay
    by_cases hxy : x = y
    · subst hxy
      go_wp2
      go_ret
      exact ⟨rfl, hW6⟩
    have hxyB : (x == y) = false := by simpa using hxy
    have hnat : x.toNat ≠ y.toNat := by
      have e1 : (x, dx) ∈ W := by rw [← Hx.out, List.getD_eq_getElem?_getD, List.getElem?_eq_getElem (by rw [HWL.out]; omega)]; exact List.getElem_mem _
      have e2 : (y, dy) ∈ W := by rw [← Hy.out, List.getD_eq_getElem?_getD, List.getElem?_eq_getElem (by rw [HWL.out]; omega)]; exact List.getElem_mem _
      have := Hat.out _ e1
      have := Hat.out _ e2
      simp only at *
      omega
    have Hnat := Lib.hid hnat
    clear hxy hnat
    go_wp2_with fail
    have HB6 : Hid (RdS w6 (.slice (some ⟨gb, 0, none⟩) m cb) m 65 (flat wp2 W)) := ⟨_, cb, rfl, hcb, hcbm, by rw [flat_length wp2 65 size_wp2, HWL.out], fun h => (by cases h), fun _ => ⟨gb, 0, rfl, Hrb6.out⟩⟩
    have HC6 : Hid (RdS w6 (.slice (some ⟨gc, 0, none⟩) m cc) m 1 (cs.map (Value.int .i64))) := ⟨_, cc, rfl, hcc, hccm, by simp [Hcl.out], fun h => (by cases h), fun _ => ⟨gc, 0, rfl, Hrc6.out⟩⟩
    refine (crash_any vold (.slice (some ⟨gb, 0, none⟩) m cb) (.slice (some ⟨gc, 0, none⟩) m cc) n m m B W cs w6 hk1 (by omega) HBL.out (by omega) HWL.out Hcl.out Hold6.out HB6.out HC6.out Hat.out).mono ?_
    rintro _ w7 ⟨⟨v7, rfl, ho7⟩, hb7⟩
    have hlb := readAt_lt Hrb6.out
    have hlc := readAt_lt Hrc6.out
    have hW7 := bt hW6 hb7
    have hV7 := bt hV6 hb7
    have Ho7 := Lib.hid ho7
    have Hold7 := Lib.hid (Hold6.out.below hb7)
    have Hrb := Lib.hid (show readAt w7 gb 0 (m * 65) = some (flat wp2 W).toArray by rw [readAt_below hb7 hlb]; exact Hrb6.out)
    have Hkb := Lib.hid (show canAt w7 gb 0 (m * 65) = true by rw [canAt_below hb7 hlb]; exact Hkb6.out)
    have Hrc := Lib.hid (show readAt w7 gc 0 (m * 1) = some (cs.map (Value.int .i64)).toArray by rw [readAt_below hb7 hlc]; exact Hrc6.out)
    have Hkc := Lib.hid (show canAt w7 gc 0 (m * 1) = true by rw [canAt_below hb7 hlc]; exact Hkc6.out)
    have hwx : readAt w7 gb (i * 65) 65 = some (wv x dx) := by have := two_writes Hrb.out HWL.out (show i < m by omega); rw [Hx.out] at this; exact this
    have hwy : readAt w7 gb ((i + 1) * 65) 65 = some (wv y dy) := by have := two_writes Hrb.out HWL.out hi; rw [Hy.out] at this; exact this
    have hcx : canAt w7 gb (i * 65) 65 = true := canAt_sub Hkb.out _ _ (by omega)
    have hcy : canAt w7 gb ((i + 1) * 65) 65 = true := canAt_sub Hkb.out _ _ (by omega)
    have hc2 : canAt (setAt w7.drew gb (i * 65) (wv y dy)) gb ((i + 1) * 65) 65 = true := by rw [canAt_setAt _ _ _ _ _ _ _ (by simpa using hcx)]; exact hcy
    clear ho7 HB6 HC6 Hrb6 Hkb6 Hrc6 Hkc6 Hold6 hW6
    go_wp2_with fail
    go_region
    obtain ⟨w8, hw8⟩ : ∃ w8, setAt (setAt w7.drew gb (i * 65) (wv y dy)) gb ((i + 1) * 65) (wv x dx) = w8 := ⟨_, rfl⟩
    rw [hw8]
    have hwgb : w.heap.size ≤ gb := Nat.le_trans hb13.size hgb
    have hwgc : w.heap.size ≤ gc := Nat.le_trans hb13.size hgc
    have hW8 : Below w.heap.size w w8 := by rw [← hw8]; exact setAt_below (setAt_below hW7.drew hwgb _ _) hwgb _ _
    have hV8 : Below w2.heap.size w2 w8 := by rw [← hw8]; exact setAt_below (setAt_below hV7.drew hgb _ _) hgb _ _
    have hrb8 : readAt w8 gb 0 (m * 65) = some (flat wp2 (swp W i (0, zsec))).toArray := by
      have h1 := readAt_setAt_over w7.drew gb 0 (m * 65) _ Hrb.out Hkb.out (i * 65) (wv y dy) (Nat.zero_le _) (by simp; omega)
      rw [Nat.sub_zero, show wv y dy = wp2 (y, dy) from rfl, flat_set wp2 65 size_wp2 W i (by rw [HWL.out]; omega)] at h1
      have hk1 : canAt (setAt w7.drew gb (i * 65) (wv y dy)) gb 0 (m * 65) = true := by rw [canAt_setAt _ _ _ _ _ _ _ (by simpa using hcx)]; exact Hkb.out
      have h2 := readAt_setAt_over (setAt w7.drew gb (i * 65) (wv y dy)) gb 0 (m * 65) _ h1 hk1 ((i + 1) * 65) (wv x dx) (Nat.zero_le _) (by simp; omega)
      rw [Nat.sub_zero, show wv x dx = wp2 (x, dx) from rfl, flat_set wp2 65 size_wp2 _ (i + 1) (by simp; rw [HWL.out]; omega)] at h2
      rw [← hw8]
      simp only [swp, Hx.out, Hy.out]
      exact h2
    have hrc8 : readAt w8 gc 0 (m * 1) = some (cs.map (Value.int .i64)).toArray := by
      rw [← hw8, readAt_setAt_other _ _ _ _ _ _ _ (Ne.symm hne), readAt_setAt_other _ _ _ _ _ _ _ (Ne.symm hne)]; exact Hrc.out
    have hkc8 : canAt w8 gc 0 (m * 1) = true := by
      rw [← hw8, canAt_setAt_other _ _ _ _ _ _ _ (Ne.symm hne), canAt_setAt_other _ _ _ _ _ _ _ (Ne.symm hne)]; exact Hkc.out
    obtain ⟨g7, c7, rfl, hg7, hc7, hm7, hl7, hr7, _⟩ := Ho7.out
    have hg7b : g7 ≠ gb := by omega
    have hr78 : readAt w8 g7 0 (n * 64) = some (flat av (crashK B W (cutAt cs) m)).toArray := by
      rw [← hw8, readAt_setAt_other _ _ _ _ _ _ _ hg7b, readAt_setAt_other _ _ _ _ _ _ _ hg7b]; exact hr7
    clear hw8 hW7 hV7 Ho7 Hold7 Hrb Hkb Hrc Hkc hwx hwy hcx hcy hc2 hr7
    have hex := one_cut hrc8 Hcl.out (show i < m by omega)
    have hey := one_cut hrc8 Hcl.out hi
    have hfx := canAt_cell hkc8 i
    have hfy := canAt_cell hkc8 (i + 1)
    rw [Nat.zero_add] at hfx hfy
    obtain ⟨p, hp⟩ : ∃ p, cs.getD i 0 = p := ⟨_, rfl⟩
    obtain ⟨q, hq⟩ : ∃ q, cs.getD (i + 1) 0 = q := ⟨_, rfl⟩
    rw [hp] at hex
    rw [hq] at hey
    have Hp := Lib.hid hp
    have Hq := Lib.hid hq
    have Hrb8 := Lib.hid hrb8
    have Hrc8 := Lib.hid hrc8
    have Hkc8 := Lib.hid hkc8
    have Hr78 := Lib.hid hr78
    clear hp hq hrb8 hrc8 hkc8 hr78
    go_wp2_with fail
    go_region
    obtain ⟨w9, hw9⟩ : ∃ w9, ((w8.setCell ⟨gc, i, none⟩ (.int .i64 q)).setCell ⟨gc, i + 1, none⟩ (.int .i64 p)).drew = w9 := ⟨_, rfl⟩
    rw [hw9]
    have hkA : canAt w8 gc i 1 = true := canAt_sub Hkc8.out _ _ (by omega)
    have hkB : canAt (setAt w8 gc i #[.int .i64 q]) gc (i + 1) 1 = true := by rw [canAt_setAt _ _ _ _ _ _ _ hkA]; exact canAt_sub Hkc8.out _ _ (by omega)
    rw [setCell_setAt hkA, setCell_setAt hkB] at hw9
    have hW9 : Below w.heap.size w w9 := by rw [← hw9]; exact (setAt_below (setAt_below hW8 hwgc _ _) hwgc _ _).drew
    have hV9 : Below w2.heap.size w2 w9 := by rw [← hw9]; exact (setAt_below (setAt_below hV8 hgc _ _) hgc _ _).drew
    have hrc9 : readAt w9 gc 0 (m * 1) = some ((swp cs i 0).map (Value.int .i64)).toArray := by
      have h1 := readAt_setAt_over w8 gc 0 (m * 1) _ Hrc8.out Hkc8.out i #[.int .i64 q] (Nat.zero_le _) (by simp; omega)
      rw [Nat.sub_zero, put_cut i (by rw [Hcl.out]; omega)] at h1
      have hk3 : canAt (setAt w8 gc i #[.int .i64 q]) gc 0 (m * 1) = true := by rw [canAt_setAt _ _ _ _ _ _ _ hkA]; exact Hkc8.out
      have h2 := readAt_setAt_over _ gc 0 (m * 1) _ h1 hk3 (i + 1) #[.int .i64 p] (Nat.zero_le _) (by simp; omega)
      rw [Nat.sub_zero, put_cut (i + 1) (by simp; rw [Hcl.out]; omega)] at h2
      rw [← hw9]
      simp only [swp, Hp.out, Hq.out]
      exact h2
    have hrb9 : readAt w9 gb 0 (m * 65) = some (flat wp2 (swp W i (0, zsec))).toArray := by
      rw [← hw9, readAt_drew, readAt_setAt_other _ _ _ _ _ _ _ hne, readAt_setAt_other _ _ _ _ _ _ _ hne]; exact Hrb8.out
    have hg7c : g7 ≠ gc := by omega
    have hr79 : readAt w9 g7 0 (n * 64) = some (flat av (crashK B W (cutAt cs) m)).toArray := by
      rw [← hw9, readAt_drew, readAt_setAt_other _ _ _ _ _ _ _ hg7c, readAt_setAt_other _ _ _ _ _ _ _ hg7c]; exact Hr78.out
    have HO9 := Lib.hid (Hold2.out.below hV9)
    have HWl : Hid ((swp W i (0, zsec)).length = m) := by show _ = _; rw [swp_length, HWL.out]
    have HCl : Hid ((swp cs i 0).length = m) := by show _ = _; rw [swp_length, Hcl.out]
    have HB9 : Hid (RdS w9 (.slice (some ⟨gb, 0, none⟩) m cb) m 65 (flat wp2 (swp W i (0, zsec)))) := ⟨_, cb, rfl, hcb, hcbm, by rw [flat_length wp2 65 size_wp2, HWl.out], fun h => (by cases h), fun _ => ⟨gb, 0, rfl, hrb9⟩⟩
    have HC9 : Hid (RdS w9 (.slice (some ⟨gc, 0, none⟩) m cc) m 1 ((swp cs i 0).map (Value.int .i64))) := ⟨_, cc, rfl, hcc, hccm, by simp [HCl.out], fun h => (by cases h), fun _ => ⟨gc, 0, rfl, hrc9⟩⟩
    have H7 : Hid (RdS w9 (.slice (some ⟨g7, 0, none⟩) n c7) n 64 (flat av (crashK B W (cutAt cs) m))) := ⟨_, c7, rfl, hc7, hm7, hl7, fun h => (by cases h), fun _ => ⟨g7, 0, rfl, hr79⟩⟩
    have Hsw : Hid (crashK B (swp W i (0, zsec)) (cutAt (swp cs i 0)) m = crashK B W (cutAt cs) m) :=
      crash_swap B W cs i m HWL.out Hcl.out hi (by rw [Hx.out, Hy.out]; exact Hnat.out)
    have Hat2 : Hid (∀ p ∈ swp W i (0, zsec), 0 ≤ p.1 ∧ p.1 < n) := fun p hp => Hat.out p (swp_mem W i _ (by rw [HWL.out]; exact hi) p hp)
    clear hw9 hW8 hV8 hr79 hrb9 hrc9 hkA hkB Hrb8 Hrc8 Hkc8 Hr78 hex hey hfx hfy hV9
    go_wp2_with fail
    refine (crash_any vold (.slice (some ⟨gb, 0, none⟩) m cb) (.slice (some ⟨gc, 0, none⟩) m cc) n m m B _ _ w9 hk1 (by omega) HBL.out (by omega) HWl.out HCl.out HO9.out HB9.out HC9.out Hat2.out).mono ?_
    rintro _ wa ⟨⟨va', rfl, hoa⟩, hba⟩
    rw [Hsw.out] at hoa
    go_wp2_with fail
    refine (same_self va' (.slice (some ⟨g7, 0, none⟩) n c7) n _ wa (by rw [crashK_length, HBL.out]) (by omega) hoa.rd (H7.out.below hba)).mono ?_
    rintro _ wb ⟨rfl, hbb⟩
    go_wp2
    go_ret
    exact ⟨rfl, bt (bt hW9 hba) hbb⟩
  · have hmI : decide ((50 : Int) < (m : Int)) = true := by simp; omega
    have hmN : decide (50 < m) = true := by simp; omega
    clear hm
    go_enter Try.func5, Try.ntmps5
    go_wp2_with fail
    refine (awake_any _).mono ?_
    rintro _ w1 ⟨rfl, hb1⟩
    go_wp2_with fail
    refine (awake_any _).mono ?_
    rintro _ w2 ⟨rfl, hb2⟩
    go_wp2
    go_ret
    exact ⟨rfl, bt hb1 hb2⟩
theorem law_orderI (ad : Option Addr) (m c : Nat) (R : List Rw3) (a b : Int) (w : World) (hl : R.length = m) (hr : RdS w (.slice ad m c) m 3 (flat rv R)) (h64 : ∀ r ∈ R, Is64 r.1 ∧ Is64 r.2.1) (ha : 0 ≤ a ∧ a ≤ 255) (hb : 0 ≤ b ∧ b ≤ 255) :
    Calls Try.prog 5 #[.slice ad m c, .int .u8 a, .int .u8 b] w fun e w' => e = .returned (.bool true) ∧ Below w.heap.size w w' := by
  obtain ⟨x, rfl⟩ := Int.eq_ofNat_of_zero_le ha.1
  obtain ⟨y, rfl⟩ := Int.eq_ofNat_of_zero_le hb.1
  exact law_order ad m c R x y w hl hr h64 (by omega) (by omega)
end Go.Proofs.Ytemjeppneahgeaa
