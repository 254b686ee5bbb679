/- The law PolicyOrder returns true. Conditions: the numbers fit 64 bits; the names read. -/
import Derived.Test.YtmmimjpgaalbcaaPol2
import Derived.Test.YtmmimjpgaalbcaaQuiet
set_option linter.unusedSimpArgs false
set_option linter.unusedVariables false
namespace Go.Proofs.Ytmmimjpgaalbcaa
open Go.RowKit

/-- The answers increase, from 3 to 6. -/
theorem fl_inc (f0 f1 f2 f3 : Bool) : ∀ k, 1 ≤ k → k < (fl (fails f0 f1 f2 f3) 4).length → (fl (fails f0 f1 f2 f3) 4).getD (k - 1) 0 < (fl (fails f0 f1 f2 f3) 4).getD k 0 := by
  have h4 : (fl (fails f0 f1 f2 f3) 4).length ≤ 4 := fl_len _ 4
  intro k h1 h2
  have hk : k = 1 ∨ k = 2 ∨ k = 3 := by omega
  revert h2
  rcases hk with rfl | rfl | rfl <;> cases f0 <;> cases f1 <;> cases f2 <;> cases f3 <;> decide
theorem fl_range (f0 f1 f2 f3 : Bool) : ∀ x ∈ fl (fails f0 f1 f2 f3) 4, 3 ≤ x ∧ x ≤ 6 := by
  cases f0 <;> cases f1 <;> cases f2 <;> cases f3 <;> decide

theorem rest_none (f0 f1 f2 f3 : Bool) (h : rest f0 f1 f2 f3 0 = 0) : f0 = false ∧ f1 = false ∧ f2 = false ∧ f3 = false := by
  revert h; cases f0 <;> cases f1 <;> cases f2 <;> cases f3 <;> decide
/-- No check fails at a greater skew if none does at a lesser one. -/
theorem rest_more (s e t now skew more : Int) (b : Bool) (hk : 0 ≤ skew) (hm : 0 ≤ more) (h : rest (decide (now < sat (s - skew))) (decide (sat (e + skew) < now)) b (decide (skew < sat (max t now - min t now))) 0 = 0) (hs64 : Is64 skew) :
    rest (decide (now < sat (s - sat (skew + more)))) (decide (sat (e + sat (skew + more)) < now)) b (decide (sat (skew + more) < sat (max t now - min t now))) 0 = 0 := by
  obtain ⟨h0, h1, h2, h3⟩ := rest_none _ _ _ _ h
  have g : skew ≤ sat (skew + more) := by unfold Is64 at hs64; simp only [sat]; (repeat' split) <;> omega
  generalize sat (skew + more) = k2 at *
  have e0 : decide (now < sat (s - k2)) = false := by
    have := of_decide_eq_false h0
    apply decide_eq_false
    simp only [sat] at *; (repeat' split at this) <;> (repeat' split) <;> omega
  have e1 : decide (sat (e + k2) < now) = false := by
    have := of_decide_eq_false h1
    apply decide_eq_false
    simp only [sat] at *; (repeat' split at this) <;> (repeat' split) <;> omega
  have e3 : decide (k2 < sat (max t now - min t now)) = false := by
    have := of_decide_eq_false h3
    apply decide_eq_false
    omega
  rw [e0, e1, h2, e3]; rfl

set_option maxHeartbeats 1600000 in
theorem law_porder (r q : ByteArray) (ad bd : Option Addr) (n m c c2 : Nat) (A B : List ByteArray) (s e t mi sq now skew more : Int) (k : Key) (w : World) (hs : Is64 s) (he : Is64 e) (ht : Is64 t) (hn : Is64 now) (hk : Is64 skew) (hm : Is64 more) (ha : StrsAt w ad n c A) (hb : StrsAt w bd m c2 B) :
    Calls Try.prog 5 #[.agg (tv r ad n c s e k), .agg #[.string q, .slice bd m c2, .int .i64 t, .int .u32 mi, .int .u32 sq], .int .i64 now, .int .i64 skew, .int .i64 more] w fun x w' => x = .returned (.bool true) ∧ Below w.heap.size w w' := by
  have T0 := (TkAt.new w r ad n c s e k).below (ba (.cells #[.string q, .slice bd m c2, .int .i64 t, .int .u32 mi, .int .u32 sq] 33) (Below.refl _ _))
  have U0 := AuAt.new (w.alloc (.cells (tv r ad n c s e k) 27)) q bd m c2 t mi sq
  rw [World.size_alloc] at U0
  have hb0 := ba (.cells #[.string q, .slice bd m c2, .int .i64 t, .int .u32 mi, .int .u32 sq] 33) (ba (.cells (tv r ad n c s e k) 27) (Below.refl _ w))
  have Ha0 := ha.below hb0
  have Hb0 := hb.below hb0
  go_enter Try.func5, Try.ntmps5
  go_wp2_with fail
  refine (awake_any _).mono ?_
  rintro _ w1 ⟨rfl, hb1⟩
  have T1 := Lib.hid (T0.below hb1)
  have U1 := Lib.hid (U0.below hb1)
  have Ha1 := Lib.hid (Ha0.below hb1)
  have Hb1 := Lib.hid (Hb0.below hb1)
  have hw1 := bt hb0 hb1
  clear T0 U0 Ha0 Hb0 ha hb hb0 hb1
  obtain ⟨f0, f1, f2, f3, f4⟩ := T1.out.cells
  obtain ⟨g0, g1, g2, g3, g4, g5⟩ := U1.out
  go_wp2_with fail
  refine (rfew_any r q ad bd n m c c2 A B s e t mi sq k _ Ha1.out Hb1.out).mono ?_
  rintro _ w2 ⟨⟨b, rfl⟩, hb2⟩
  have T2 := Lib.hid (T1.out.below hb2)
  have U2 := Lib.hid (U1.out.below hb2)
  have Ha2 := Lib.hid (Ha1.out.below hb2)
  have Hb2 := Lib.hid (Hb1.out.below hb2)
  have hw2 := bt hw1 hb2
  clear f0 f1 f2 f3 f4 g0 g1 g2 g3 g4 g5 T1 U1 Ha1 Hb1 hb2 hw1
  obtain ⟨f0, f1, f2, f3, f4⟩ := T2.out.cells
  obtain ⟨g0, g1, g2, g3, g4, g5⟩ := U2.out
  cases b with
  | false =>
    go_wp2_with fail
    refine (awake_any _).mono ?_
    rintro _ w3 ⟨rfl, hb3⟩
    go_wp2
    go_ret
    exact ⟨rfl, bt hw2 hb3⟩
  | true =>
    by_cases hneg : skew < 0 ∨ more < 0
    · by_cases h1 : skew < 0
      · have d0 : decide (skew < 0) = true := by simpa using h1
        clear hneg
        go_wp2_with fail
        refine (awake_any _).mono ?_
        rintro _ w3 ⟨rfl, hb3⟩
        go_wp2
        go_ret
        exact ⟨rfl, bt hw2 hb3⟩
      · have d0 : decide (skew < 0) = false := by simpa using h1
        have d1 : decide (more < 0) = true := by simp; omega
        clear hneg h1
        go_wp2_with fail
        refine (awake_any _).mono ?_
        rintro _ w3 ⟨rfl, hb3⟩
        go_wp2
        go_ret
        exact ⟨rfl, bt hw2 hb3⟩
    · have d0 : decide (skew < 0) = false := by simp; omega
      have d1 : decide (more < 0) = false := by simp; omega
      have Hneg := Lib.hid hneg
      clear hneg
      go_wp2_with fail
      refine (failing_any r q ad bd n m c c2 A B s e t mi sq now skew k _ hs he ht hn hk Ha2.out Hb2.out _ rfl).mono ?_
      rintro _ w3 ⟨⟨v, rfl, hown⟩, hb3⟩
      have T3 := Lib.hid (T2.out.below hb3)
      have U3 := Lib.hid (U2.out.below hb3)
      have Ha3 := Lib.hid (Ha2.out.below hb3)
      have Hb3 := Lib.hid (Hb2.out.below hb3)
      have hw3 := bt hw2 hb3
      have hinc := fl_inc (decide (now < sat (s - skew))) (decide (sat (e + skew) < now)) (!nsame r q A B) (decide (skew < sat (max t now - min t now)))
      have hrange := fl_range (decide (now < sat (s - skew))) (decide (sat (e + skew) < now)) (!nsame r q A B) (decide (skew < sat (max t now - min t now)))
      have hhead := fl_head (decide (now < sat (s - skew))) (decide (sat (e + skew) < now)) (!nsame r q A B) (decide (skew < sat (max t now - min t now)))
      have hlen : (fl (fails (decide (now < sat (s - skew))) (decide (sat (e + skew) < now)) (!nsame r q A B) (decide (skew < sat (max t now - min t now)))) 4).length ≤ 4 := fl_len _ 4
      generalize fl (fails (decide (now < sat (s - skew))) (decide (sat (e + skew) < now)) (!nsame r q A B) (decide (skew < sat (max t now - min t now)))) 4 = L at *
      have Hrd := Lib.hid (RdS_of_own hown)
      have Hinc := Lib.hid hinc
      have Hrange := Lib.hid hrange
      have Hhead := Lib.hid hhead
      obtain ⟨la, lc, rfl⟩ : ∃ la lc, v = .slice la L.length lc := by
        obtain ⟨ad, cap, h1, _⟩ := Hrd.out; exact ⟨ad, cap, h1⟩
      clear f0 f1 f2 f3 f4 g0 g1 g2 g3 g4 g5 T2 U2 Ha2 Hb2 hb3 hw2 hown hinc hrange hhead
      generalize hN : L.length = N at *
      have HN := Lib.hid hN
      clear hN
      go_wp2_with fail
      go_loopw [12] (fun i wr => ∃ k : Nat, 1 ≤ k ∧ (k ≤ N ∨ k = 1) ∧ i = .int .i64 k ∧ Below w3.heap.size w3 wr) (fun i _ => N + 1 - (intOf i).toNat)
      case atStart => exact ⟨1, Nat.le_refl _, .inr rfl, rfl, Below.refl _ _⟩
      case round =>
        obtain ⟨k', hk1, hk2, rfl, hbr⟩ := hrel
        by_cases hlt : k' < N
        · obtain ⟨b1, o1, c1, e1, _, _, hr1⟩ := (Hrd.out.below hbr).at k' hlt
          obtain ⟨b2, o2, c3, e2, _, _, hr2⟩ := (Hrd.out.below hbr).at (k' - 1) (by omega)
          simp only [Value.slice.injEq, true_and] at e1 e2
          obtain ⟨rfl, rfl⟩ := e1
          obtain ⟨e3, rfl⟩ := e2
          simp only [Option.some.injEq, Addr.mk.injEq, and_true] at e3
          obtain ⟨rfl, rfl⟩ := e3
          have x1 := readAt_cell hr1 0 (.int .i64 (L.getD k' 0)) (by
            rw [extract_get _ _ _ _ (by simp; rw [HN.out]; omega)]
            simp [List.getD, show k' < L.length by rw [HN.out]; exact hlt])
          have x2 := readAt_cell hr2 0 (.int .i64 (L.getD (k' - 1) 0)) (by
            rw [extract_get _ _ _ _ (by simp; rw [HN.out]; omega)]
            simp [List.getD, show k' - 1 < L.length by rw [HN.out]; omega])
          have hlt2 := Hinc.out k' hk1 hlt
          obtain ⟨j, rfl⟩ : ∃ j, k' = j + 1 := ⟨k' - 1, by omega⟩
          simp only [Nat.add_sub_cancel, Nat.mul_one, Nat.add_zero] at x1 x2 hlt2
          generalize L.getD (j + 1) 0 = X at *
          generalize L.getD j 0 = Y at *
          have hd : decide (X ≤ Y) = false := by simp; omega
          clear hr1 hr2 hlt2
          go_wp2_with fail
          go_region
          go_wp2
          go_roundw
          case rel => exact ⟨j + 1 + 1, by omega, by omega, by go_num, hbr.drew⟩
          case measure => simp [intOf]; omega
        · have T4 := Lib.hid (T3.out.below hbr)
          have U4 := Lib.hid (U3.out.below hbr)
          have Ha4 := Lib.hid (Ha3.out.below hbr)
          have Hb4 := Lib.hid (Hb3.out.below hbr)
          have hw4 := bt hw3 hbr
          have Hrd4 := Lib.hid (Hrd.out.below hbr)
          have hge : decide (k' < N) = false := by simp; omega
          by_cases h0 : N = 0
          · have eL : L = [] := List.eq_nil_of_length_eq_zero (by rw [HN.out]; exact h0)
            have hz := rest_more s e t now skew more (!nsame r q A B) (by have := Hneg.out; omega) (by have := Hneg.out; omega) (by rw [← Hhead.out, eL]; rfl) hk
            have Hz := Lib.hid hz
            subst h0
            clear hz eL
            go_wp2_with fail
            refine wp_region_quiet (C := fun w' => Below wr.heap.size wr w') (by kernel_rfl) (by kernel_rfl) (Below.refl _ _).drew ?_
            repeat (first
              | (refine q_off rfl ?_; simp only [Act.put, Act.eval, List.setIfInBounds_toArray, List.set_cons_zero, List.set_cons_succ, Array.getD_eq_getD_getElem?, List.getElem?_toArray, List.getElem?_cons_succ, List.getElem?_cons_zero, Option.getD_some])
              | (refine q_move _ rfl rfl ?_; simp only [Act.put, Act.eval, List.setIfInBounds_toArray, List.set_cons_zero, List.set_cons_succ, Array.getD_eq_getD_getElem?, List.getElem?_toArray, List.getElem?_cons_succ, List.getElem?_cons_zero, Option.getD_some])
              | (refine q_assign _ rfl rfl ?_; simp only [Act.put, Act.eval, List.setIfInBounds_toArray, List.set_cons_zero, List.set_cons_succ, Array.getD_eq_getD_getElem?, List.getElem?_toArray, List.getElem?_cons_succ, List.getElem?_cons_zero, Option.getD_some])
              | (refine q_ex rfl ?_; apply Exists.intro; refine ⟨fun w' hC' => ?_, ?_⟩; (obtain ⟨f0, f1, f2, f3, f4⟩ := (T4.out.below hC').cells; obtain ⟨g0, g1, g2, g3, g4, g5⟩ := U4.out.below hC'; go_simp; exact rfl); simp only [Act.put, Act.eval, List.setIfInBounds_toArray, List.set_cons_zero, List.set_cons_succ, Array.getD_eq_getD_getElem?, List.getElem?_toArray, List.getElem?_cons_succ, List.getElem?_cons_zero, Option.getD_some])
              | (refine q_cx rfl ?_; apply Exists.intro; apply Exists.intro; apply Exists.intro; refine ⟨fun w' hC' => ?_, fun w' hC' => ?_, ?_⟩; (go_simp; exact ⟨rfl, rfl⟩); (first | (refine (radd_any skew more _ hk hm).mono ?_; rintro _ w2 ⟨rfl, rfl⟩; exact ⟨rfl, hC'⟩) | (refine (check_any r q ad bd n m c c2 A B s e t mi sq now (sat (skew + more)) k _ hs he ht hn (sat_is _) (Ha4.out.below hC') (Hb4.out.below hC')).mono ?_; rw [Hz.out]; rintro _ w2 ⟨rfl, hb'⟩; exact ⟨rfl, bt hC' hb'⟩)); simp only [Act.put, Act.eval, List.setIfInBounds_toArray, List.set_cons_zero, List.set_cons_succ, Array.getD_eq_getD_getElem?, List.getElem?_toArray, List.getElem?_cons_succ, List.getElem?_cons_zero, Option.getD_some]))
            refine wpQuiet_nil ?_
            intro w' hC'
            have hfin := bt hw4 hC'
            go_wp2
            go_ret
            exact ⟨rfl, hfin⟩
          · obtain ⟨j, rfl⟩ : ∃ j, N = j + 1 := ⟨N - 1, by omega⟩
            obtain ⟨ad', cap', e1, _, _, _, _, h6⟩ := Hrd4.out
            obtain ⟨b, o, e2, hr⟩ := h6 (by omega)
            simp only [Value.slice.injEq, true_and] at e1
            rw [← e1.1] at e2
            subst e2
            have hbl := readAt_lt hr
            have y0 := readAt_cell hr 0 (.int .i64 (L.getD 0 0)) (by simp [List.getD, show 0 < L.length by rw [HN.out]; omega])
            have yl := readAt_cell hr j (.int .i64 (L.getD j 0)) (by simp [List.getD, show j < L.length by rw [HN.out]; omega])
            rw [Nat.add_zero] at y0
            have hX0 : L.headD 0 = L.getD 0 0 := by cases L <;> rfl
            have HX : Hid (rest (decide (now < sat (s - skew))) (decide (sat (e + skew) < now)) (!nsame r q A B) (decide (skew < sat (max t now - min t now))) 0 = L.getD 0 0) := by show _ = _; rw [← Hhead.out, hX0]
            have r0 := Hrange.out (L.getD 0 0) (by rw [List.getD_eq_getElem?_getD, List.getElem?_eq_getElem (by rw [HN.out]; omega)]; exact List.getElem_mem _)
            have rl := Hrange.out (L.getD j 0) (by rw [List.getD_eq_getElem?_getD, List.getElem?_eq_getElem (by rw [HN.out]; omega)]; exact List.getElem_mem _)
            generalize L.getD 0 0 = X at *
            generalize L.getD j 0 = Y at *
            have x0 := Lib.hid y0
            have xl := Lib.hid yl
            have q1 : decide (3 ≤ X) = true := by simp; omega
            have hwj : IntKind.i64.wrap (j : Int) = j := by
              have hj : j = 0 ∨ j = 1 ∨ j = 2 ∨ j = 3 := by omega
              rcases hj with rfl | rfl | rfl | rfl <;> decide
            have q2 : decide (Y ≤ 6) = true := by simp; omega
            have q3 : (X == X) = true := by simp
            have hjl : ((j : Int) < (j : Int) + 1) = True := by simp; omega
            clear y0 yl hr h6 hX0 e1 h0 r0 rl
            go_wp2_with fail
            refine wp_region_quiet (C := fun w' => Below wr.heap.size wr w') (by kernel_rfl) (by kernel_rfl) (Below.refl _ _).drew ?_
            repeat (first
              | (refine q_off rfl ?_; simp only [Act.put, Act.eval, List.setIfInBounds_toArray, List.set_cons_zero, List.set_cons_succ, Array.getD_eq_getD_getElem?, List.getElem?_toArray, List.getElem?_cons_succ, List.getElem?_cons_zero, Option.getD_some])
              | (refine q_move _ rfl rfl ?_; simp only [Act.put, Act.eval, List.setIfInBounds_toArray, List.set_cons_zero, List.set_cons_succ, Array.getD_eq_getD_getElem?, List.getElem?_toArray, List.getElem?_cons_succ, List.getElem?_cons_zero, Option.getD_some])
              | (refine q_assign _ rfl rfl ?_; simp only [Act.put, Act.eval, List.setIfInBounds_toArray, List.set_cons_zero, List.set_cons_succ, Array.getD_eq_getD_getElem?, List.getElem?_toArray, List.getElem?_cons_succ, List.getElem?_cons_zero, Option.getD_some])
              | (refine q_ex rfl ?_; apply Exists.intro; refine ⟨fun w' hC' => ?_, ?_⟩; (have x0' := (hC'.cell (p := ⟨b, o, none⟩) hbl).trans x0.out; have xl' := (hC'.cell (p := ⟨b, o + j, none⟩) hbl).trans xl.out; obtain ⟨f0, f1, f2, f3, f4⟩ := (T4.out.below hC').cells; obtain ⟨g0, g1, g2, g3, g4, g5⟩ := U4.out.below hC'; go_simp; exact rfl); simp only [Act.put, Act.eval, List.setIfInBounds_toArray, List.set_cons_zero, List.set_cons_succ, Array.getD_eq_getD_getElem?, List.getElem?_toArray, List.getElem?_cons_succ, List.getElem?_cons_zero, Option.getD_some])
              | (refine q_cx rfl ?_; apply Exists.intro; apply Exists.intro; apply Exists.intro; refine ⟨fun w' hC' => ?_, fun w' hC' => ?_, ?_⟩; (go_simp; exact ⟨rfl, rfl⟩); (first | (refine (radd_any skew more _ hk hm).mono ?_; rintro _ w2 ⟨rfl, rfl⟩; exact ⟨rfl, hC'⟩) | (refine (check_any r q ad bd n m c c2 A B s e t mi sq now skew k _ hs he ht hn hk (Ha4.out.below hC') (Hb4.out.below hC')).mono ?_; rw [HX.out]; rintro _ w2 ⟨rfl, hb'⟩; exact ⟨rfl, bt hC' hb'⟩)); simp only [Act.put, Act.eval, List.setIfInBounds_toArray, List.set_cons_zero, List.set_cons_succ, Array.getD_eq_getD_getElem?, List.getElem?_toArray, List.getElem?_cons_succ, List.getElem?_cons_zero, Option.getD_some]))
            refine wpQuiet_nil ?_
            intro w' hC'
            have hfin := bt hw4 hC'
            go_wp2
            go_ret
            exact ⟨rfl, hfin⟩
end Go.Proofs.Ytmmimjpgaalbcaa
