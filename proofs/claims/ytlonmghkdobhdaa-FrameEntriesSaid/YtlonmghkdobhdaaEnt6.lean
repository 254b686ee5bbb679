/- The law FrameMatchesReference returns true. No conditions. -/
import Derived.Test.YtlonmghkdobhdaaEnt5
import Derived.Test.YtlonmghkdobhdaaQuiet
import Derived.BigQuiet
set_option linter.unusedSimpArgs false
set_option linter.unusedVariables false
namespace Go.Proofs.Ytlonmghkdobhdaa
open Go.RowKit

def gT (x : Sec) : Nat := if okF x = true then tagOf x else 0
def gP (x : Sec) : List UInt8 := if okF x = true then payOf x else []
theorem ParseOut.gen {x : Sec} {base : Nat} {e : Ending} {w' : World} (h : ParseOut x base e w') : ∃ pa pc, e = .returned (.tuple #[.int .u32 (gT x : Nat), .slice pa (gP x).length pc, .bool (okF x)]) ∧ Bs w' pa (gP x).length pc (gP x) := by
  unfold gT gP
  by_cases hk : okF x = true
  · obtain ⟨v, rfl, hown⟩ := h.yes hk
    obtain ⟨pa, pc, rfl, hb⟩ := hown.bs
    rw [if_pos hk, if_pos hk, hk]
    exact ⟨pa, pc, rfl, hb⟩
  · have hk' : okF x = false := by simpa using hk
    obtain rfl := h.no hk'
    rw [if_neg hk, if_neg hk, hk']
    exact ⟨none, 0, rfl, Bs.nil _⟩
def eT (x : Sec) : Nat := if okE x = true then tagOf x else 0
def eD (x : Sec) : Dig := if okE x = true then entOf x else zdig
def eX (x : Sec) : Int := if okE x = true then (expOf x : Int) else 0
theorem PEnt.gen {x : Sec} {e : Ending} (h : PEnt x e) : e = .returned (.tuple #[.int .u32 (eT x : Nat), .agg (ev (eD x) (eX x)), .bool (okE x)]) := by
  unfold PEnt at h
  unfold eT eD eX
  by_cases hk : okE x = true
  · rw [if_pos hk] at h
    rw [if_pos hk, if_pos hk, if_pos hk, hk]; exact h
  · rw [if_neg hk] at h
    rw [if_neg hk, if_neg hk, if_neg hk, show okE x = false by simpa using hk]; exact h
theorem okE_F (x : Sec) (h : okE x = true) : okF x = true := by
  unfold okE at h; simp only [Bool.and_eq_true] at h; exact h.1
theorem okH_F (x : Sec) (h : okH x = true) : okF x = true := by
  unfold okH at h; simp only [Bool.and_eq_true] at h; exact h.1
theorem okE_H (x : Sec) (h : okE x = true) : okH x = false := by
  unfold okE at h
  simp only [Bool.and_eq_true, decide_eq_true_eq] at h
  have h40 := h.2.1
  unfold okH
  rw [decide_eq_false (by intro e; rw [e] at h40; exact absurd h40 (by decide)), Bool.and_false]
theorem newE (w : World) (d : Dig) (x : Int) : readAt (w.alloc (.cells (ev d x) 39)) w.heap.size 0 33 = some (ev d x) := by
  rw [readAt_alloc_at _ _ _ _ _ _ _ rfl (by simp), ev_all]

set_option maxRecDepth 100000 in
set_option maxHeartbeats 12800000 in
theorem law_fmatches (x : Sec) (w : World) :
    Calls Try.prog 6 #[.agg (av x)] w fun r w' => r = .returned (.bool true) ∧ Below w.heap.size w w' := by
  have hbx := ba (.cells (av x) 25) (Below.refl w.heap.size w)
  have Hb0 := Lib.hid hbx
  have Hr0 := Lib.hid (show readAt (w.alloc (.cells (av x) 25)) w.heap.size 0 64 = some (av x) by simp [go_sem])
  clear hbx
  go_enter Try.func6, Try.ntmps6
  go_wp2_with fail
  refine (awake_any _).mono ?_
  rintro _ w1 ⟨rfl, hb1⟩
  have hr1 := (readAt_below hb1 (readAt_lt Hr0.out) 0 64).trans Hr0.out
  have Hr1 := Lib.hid hr1
  have Hb1 := Lib.hid (bt Hb0.out hb1)
  clear hb1 Hr0 Hb0
  go_wp2_with fail
  clear hr1
  refine (fparse_any x _).mono ?_
  rintro _ w2 ⟨hpo, hb2⟩
  obtain ⟨pa, pc, rfl, hp⟩ := hpo.gen
  have hr2 := (readAt_below hb2 (readAt_lt Hr1.out) 0 64).trans Hr1.out
  have Hr2 := Lib.hid hr2
  have Hp2 := Lib.hid hp
  have Hb2 := Lib.hid (bt Hb1.out hb2)
  clear hb2 hpo hp Hr1 Hb1
  go_wp2_with fail
  clear hr2
  refine (rparse_any x _).mono ?_
  rintro _ w3 ⟨hpo, hb3⟩
  obtain ⟨qa, qc, rfl, hq⟩ := hpo.gen
  have hr3 := (readAt_below hb3 (readAt_lt Hr2.out) 0 64).trans Hr2.out
  have Hr3 := Lib.hid hr3
  have Hp3 := Lib.hid (Hp2.out.below hb3)
  have Hq3 := Lib.hid hq
  have Hb3 := Lib.hid (bt Hb2.out hb3)
  clear hb3 hpo hq Hr2 Hb2 Hp2
  go_wp2_with fail
  clear hr3
  refine (fpentry_any x _).mono ?_
  rintro _ w4 ⟨hpe, hb4⟩
  obtain rfl := hpe.gen
  have hy := bt hb4 (ba (.cells (ev (eD x) (eX x)) 39) (Below.refl w4.heap.size w4))
  have Hr4 := Lib.hid ((readAt_below hy (readAt_lt Hr3.out) 0 64).trans Hr3.out)
  have Hp4 := Lib.hid (Hp3.out.below hy)
  have Hq4 := Lib.hid (Hq3.out.below hy)
  have Hb4 := Lib.hid (bt Hb3.out hy)
  have He4 := Lib.hid (newE w4 (eD x) (eX x))
  have hr4w : readAt w4 w.heap.size 0 64 = some (av x) := (readAt_below hb4 (readAt_lt Hr3.out) 0 64).trans Hr3.out
  have hlt4 : w.heap.size < w4.heap.size := readAt_lt hr4w
  clear hb4 hy hpe Hr3 Hb3 Hp3 Hq3
  go_wp2_with fail
  generalize w4.alloc (.cells (ev (eD x) (eX x)) 39) = w5 at *
  generalize hE1 : w4.heap.size = E1 at *
  refine (rpentry_any x _).mono ?_
  rintro _ w6 ⟨hpe, hb6⟩
  obtain rfl := hpe.gen
  have hy := bt hb6 (ba (.cells (ev (eD x) (eX x)) 39) (Below.refl w6.heap.size w6))
  have hr6w := (readAt_below hb6 (readAt_lt Hr4.out) 0 64).trans Hr4.out
  have hlt6 : w.heap.size < w6.heap.size := readAt_lt hr6w
  have he6w := (readAt_below hb6 (readAt_lt He4.out) 0 33).trans He4.out
  have hlt6e : E1 < w6.heap.size := readAt_lt he6w
  have Hr6 := Lib.hid ((readAt_below hy (readAt_lt Hr4.out) 0 64).trans Hr4.out)
  have Hp6 := Lib.hid (Hp4.out.below hy)
  have Hq6 := Lib.hid (Hq4.out.below hy)
  have Hb6 := Lib.hid (bt Hb4.out hy)
  have He6 := Lib.hid ((readAt_below hy (readAt_lt He4.out) 0 33).trans He4.out)
  have Hf6 := Lib.hid (newE w6 (eD x) (eX x))
  clear hb6 hy hpe Hr4 Hb4 Hp4 Hq4 He4 hr4w hlt4 he6w
  go_wp2_with fail
  generalize w6.alloc (.cells (ev (eD x) (eX x)) 39) = w7 at *
  generalize hE2 : w6.heap.size = E2 at *
  clear hr6w hlt6 hlt6e
  refine (fhead_any x _).mono ?_
  rintro _ w8 ⟨rfl, hb8⟩
  have hr8 := (readAt_below hb8 (readAt_lt Hr6.out) 0 64).trans Hr6.out
  have Hr8 := Lib.hid hr8
  have Hp8 := Lib.hid (Hp6.out.below hb8)
  have Hq8 := Lib.hid (Hq6.out.below hb8)
  have Hb8 := Lib.hid (bt Hb6.out hb8)
  have He8 := Lib.hid ((readAt_below hb8 (readAt_lt He6.out) 0 33).trans He6.out)
  have Hf8 := Lib.hid ((readAt_below hb8 (readAt_lt Hf6.out) 0 33).trans Hf6.out)
  clear hb8 Hr6 Hb6 Hp6 Hq6 He6 Hf6
  go_wp2_with fail
  clear hr8
  refine (rhead_any x _).mono ?_
  rintro _ w9 ⟨rfl, hb9⟩
  have Hr9 := Lib.hid ((readAt_below hb9 (readAt_lt Hr8.out) 0 64).trans Hr8.out)
  have Hp9 := Lib.hid (Hp8.out.below hb9)
  have Hq9 := Lib.hid (Hq8.out.below hb9)
  have Hb9 := Lib.hid (bt Hb8.out hb9)
  have He9 := Lib.hid ((readAt_below hb9 (readAt_lt He8.out) 0 33).trans He8.out)
  have Hf9 := Lib.hid ((readAt_below hb9 (readAt_lt Hf8.out) 0 33).trans Hf8.out)
  clear hb9 Hr8 Hb8 Hp8 Hq8 He8 Hf8
  have hcase : (okF x = false ∧ okE x = false ∧ okH x = false) ∨ (okF x = true ∧ gT x = tagOf x ∧ okE x = false ∧ okH x = false) ∨ (okF x = true ∧ gT x = tagOf x ∧ okE x = false ∧ okH x = true) ∨ (okF x = true ∧ gT x = tagOf x ∧ okE x = true ∧ okH x = false) := by
    have h1 := okE_F x
    have h2 := okH_F x
    have h3 := okE_H x
    have h4 : okF x = true → gT x = tagOf x := fun h => by unfold gT; rw [if_pos h]
    cases hF : okF x <;> cases hE : okE x <;> cases hH : okH x <;> simp_all
  have Hcase := Lib.hid hcase
  clear hcase
  obtain ⟨L, hL⟩ : ∃ L, gP x = L := ⟨_, rfl⟩
  rw [hL] at Hp9 Hq9 ⊢
  generalize hG : gT x = G at *
  generalize eT x = T at *
  generalize eX x = X at *
  generalize eD x = D at *
  generalize headTag x = HT at *
  have Hx9 : Hid (∀ w', Below w9.heap.size w9 w' → readAt w' w.heap.size 0 64 = some (av x)) := fun w' h => (readAt_below h (readAt_lt Hr9.out) 0 64).trans Hr9.out
  have Hx9e : Hid (∀ w', Below w9.heap.size w9 w' → readAt w' E1 0 33 = some (ev D X)) := fun w' h => (readAt_below h (readAt_lt He9.out) 0 33).trans He9.out
  have Hx9f : Hid (∀ w', Below w9.heap.size w9 w' → readAt w' E2 0 33 = some (ev D X)) := fun w' h => (readAt_below h (readAt_lt Hf9.out) 0 33).trans Hf9.out
  clear Hr9 He9 Hf9 hL hE1 hE2 hG
  go_wp2_with fail
  rcases Hcase.out with ⟨c1, c2, c3⟩ | ⟨c1, cT, c2, c3⟩ | ⟨c1, cT, c2, c3⟩ | ⟨c1, cT, c2, c3⟩
  all_goals
    rw [c1, c2, c3]
    clear c1 c2 c3 Hcase
    try subst cT
    refine wp_region_quiet (C := fun w' => Below w9.heap.size w9 w') (by kernel_rfl) (by kernel_rfl) (Below.refl _ _).drew ?_
    repeat (first
      | (refine q_off rfl ?_; simp only [Act.put, Act.eval, List.setIfInBounds_toArray, List.set_cons_zero, List.set_cons_succ, Array.getD_eq_getD_getElem?, List.getElem?_toArray, List.getElem?_cons_succ, List.getElem?_cons_zero, Option.getD_some])
      | (refine q_move _ rfl rfl ?_; simp only [Act.put, Act.eval, List.setIfInBounds_toArray, List.set_cons_zero, List.set_cons_succ, Array.getD_eq_getD_getElem?, List.getElem?_toArray, List.getElem?_cons_succ, List.getElem?_cons_zero, Option.getD_some])
      | (refine q_assign _ rfl rfl ?_; simp only [Act.put, Act.eval, List.setIfInBounds_toArray, List.set_cons_zero, List.set_cons_succ, Array.getD_eq_getD_getElem?, List.getElem?_toArray, List.getElem?_cons_succ, List.getElem?_cons_zero, Option.getD_some])
      | (refine q_ex rfl ?_; apply Exists.intro; refine ⟨fun w' hC' => ?_, ?_⟩; (have hr' := Hx9.out w' hC'; have he' := Hx9e.out w' hC'; have hf' := Hx9f.out w' hC'; go_simp; exact rfl); simp only [Act.put, Act.eval, List.setIfInBounds_toArray, List.set_cons_zero, List.set_cons_succ, Array.getD_eq_getD_getElem?, List.getElem?_toArray, List.getElem?_cons_succ, List.getElem?_cons_zero, Option.getD_some])
      | (refine q_cx rfl ?_; apply Exists.intro; apply Exists.intro; apply Exists.intro; refine ⟨fun w' hC' => ?_, fun w' hC' => ?_, ?_⟩; (go_simp; exact ⟨rfl, rfl⟩); (first | (refine (same_any _ _ _ _ _ _ L L _ (Hp9.out.below hC') (Hq9.out.below hC')).mono ?_; rw [show decide (L = L) = true by simp]; rintro _ w7 ⟨rfl, hb7⟩; exact ⟨rfl, bt hC' hb7⟩) | (refine (ftag_any x _).mono ?_; rintro _ w7 ⟨rfl, hb7⟩; exact ⟨rfl, bt hC' hb7⟩) | (refine (rtag_any x _).mono ?_; rintro _ w7 ⟨rfl, hb7⟩; exact ⟨rfl, bt hC' hb7⟩)); simp only [Act.put, Act.eval, List.setIfInBounds_toArray, List.set_cons_zero, List.set_cons_succ, Array.getD_eq_getD_getElem?, List.getElem?_toArray, List.getElem?_cons_succ, List.getElem?_cons_zero, Option.getD_some]))
    refine wpQuiet_nil ?_
    intro w' hC'
    have hfin := Lib.hid (bt Hb9.out hC')
    clear hC'
    go_wp2
    go_ret
    exact ⟨rfl, hfin.out⟩
end Go.Proofs.Ytlonmghkdobhdaa
