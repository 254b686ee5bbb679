/- What Entry of package frame computes. Conditions: the numbers fit their kinds. -/
import Derived.Test.YtlonmghkdobhdaaEntP
import Derived.Test.YtlonmghkdobhdaaPerm
set_option linter.unusedSimpArgs false
set_option linter.unusedVariables false
namespace Go.Proofs.Ytlonmghkdobhdaa
open Go.RowKit

theorem fentry_no (g : Int) (d : Dig) (x : Int) (w : World) (hx : okX x = false) :
    Calls Try.prog 20 #[.int .u32 g, .agg (ev d x)] w fun e w' => e = .returned (.tuple #[.agg (av zsec), .bool false]) ∧ Below w.heap.size w w' := by
  obtain ⟨W, hW⟩ : ∃ W, (w.alloc (.cells (ev d x) 39)).alloc (.cells (av zsec) 25) = W := ⟨_, rfl⟩
  have hb0 : Below w.heap.size w W := by rw [← hW]; exact ba _ (ba _ (Below.refl _ _))
  have hr : readAt W w.heap.size 0 33 = some (ev d x) := by rw [← hW, readAt_alloc_past _ _ _ _ _ (by simp)]; exact newE0 w d x
  have hk : canAt W (w.heap.size + 1) 0 64 = true := by rw [← hW]; simp [go_sem]
  have hc := readAt_cell hr 32 _ (ev_32 d x)
  rw [Nat.zero_add] at hc
  have Hb0 := Lib.hid hb0
  have Hk := Lib.hid hk
  clear hb0 hr
  have hd : decide (x < 0) = true ∨ (decide (x < 0) = false ∧ decide ((4611686018427387904 : Int) < x) = true) := by
    unfold okX at hx
    by_cases h : x < 0
    · left; simpa using h
    · right
      rw [decide_eq_true (show 0 ≤ x by omega), Bool.true_and] at hx
      refine ⟨by simpa using h, ?_⟩
      simp at hx ⊢; exact hx
  clear hx
  rcases hd with d1 | ⟨d1, d2⟩
  all_goals
    go_enter Try.func20, Try.ntmps20
    go_wp2
    refine bodyPost_ret (results_sec_tmp rfl _ _ (w.heap.size + 1) 0 (av zsec) _ rfl rfl ?_) rfl ⟨rfl, setAt_below Hb0.out (by omega) _ _⟩
    exact readAt_setAt_same _ _ _ _ _ (by simp) Hk.out

set_option maxHeartbeats 3200000 in
theorem fentry_yes (g : Nat) (d : Dig) (n : Nat) (w : World) (hg : g < 4294967296) (hn : n ≤ 4611686018427387904) :
    Calls Try.prog 20 #[.int .u32 g, .agg (ev d (n : Int))] w fun e w' => e = .returned (.tuple #[.agg (av (recS g (payE d n))), .bool true]) ∧ Below w.heap.size w w' := by
  obtain ⟨W, hW⟩ : ∃ W, (w.alloc (.cells (ev d (n : Int)) 39)).alloc (.cells (av zsec) 25) = W := ⟨_, rfl⟩
  have hb0 : Below w.heap.size w W := by rw [← hW]; exact ba _ (ba _ (Below.refl _ _))
  have hr : readAt W w.heap.size 0 33 = some (ev d (n : Int)) := by rw [← hW, readAt_alloc_past _ _ _ _ _ (by simp)]; exact newE0 w d n
  have hk : canAt W (w.heap.size + 1) 0 64 = true := by rw [← hW]; simp [go_sem]
  have hc := readAt_cell hr 32 _ (ev_32 d n)
  rw [Nat.zero_add] at hc
  have Hb0 := Lib.hid hb0
  have Hk := Lib.hid hk
  have Hr := Lib.hid hr
  clear hb0 hr hk
  have d1 : decide ((n : Int) < 0) = false := by simp
  have d2 : decide ((4611686018427387904 : Int) < (n : Int)) = false := by simp; omega
  obtain ⟨P, hP⟩ : ∃ P, payE d n = P := ⟨_, rfl⟩
  obtain ⟨Q, hQ⟩ : ∃ Q, be 8 n = Q := ⟨_, rfl⟩
  have hql : Q.length = 8 := by rw [← hQ]; simp
  have hpl : P.length = 40 := by rw [← hP]; simp
  have hfl : ([dl d, Q] : List (List UInt8)).flatten = P := by rw [← hP, ← hQ]; simp [payE]
  have hdl : (dl d).length = 32 := by simp
  rw [hP]
  obtain ⟨X, hX⟩ : ∃ X, recS g P = X := ⟨_, rfl⟩
  rw [hX]
  have HX := Lib.hid hX
  clear hX
  have HQ := Lib.hid hQ
  have Hql := Lib.hid hql
  have Hpl := Lib.hid hpl
  have Hfl := Lib.hid hfl
  have Hdl := Lib.hid hdl
  clear hP hQ hql hpl hfl hdl
  have hwr : IntKind.u64.wrap (n : Int) = (n : Int) := by rw [IntKind.wrap_u64]; omega
  go_enter Try.func20, Try.ntmps20
  go_wp2_with fail
  clear hW
  have hcd : W.drew.cell? ⟨w.heap.size, 32, none⟩ = some (.int .i64 (n : Int)) := hc
  have hS : w.heap.size < W.heap.size := readAt_lt Hr.out
  have hK : w.heap.size + 1 < W.heap.size := canAt_lt Hk.out
  have hx : ∀ u, Below (w.heap.size + 1) W u → u.cell? ⟨w.heap.size, 32, none⟩ = some (.int .i64 (n : Int)) := fun u h => (h.cell (p := ⟨w.heap.size, 32, none⟩) (Nat.lt_succ_self _)).trans hc
  have hm1 : ∀ u, Below W.heap.size W u → Below (w.heap.size + 1) W u := fun u h => h.mono (by omega)
  have Hm := Lib.hid hm1
  have Hx := Lib.hid hx
  clear hcd hx hm1
  refine wp_region_tr (.take 0 (.take 1 (.take 2 (.take 3 (.take 4 (.take 5 (.run 6 (.run 7 (.run 8 (.run 9 (.take 10 (.take 11 (.run 12 (.take 13 .done)))))))))))))) (fun u => Below (w.heap.size + 1) W u) (by kernel_rfl) (by kernel_rfl) rfl (by kernel_rfl) (Below.refl _ _).drew ?_
  repeat (first | (refine t_off rfl rfl ?_; simp only [List.getElem_toArray, List.getElem_cons_succ, List.getElem_cons_zero, Act.put, Act.eval, List.setIfInBounds_toArray, List.set_cons_zero, List.set_cons_succ, Array.getD_eq_getD_getElem?, List.getElem?_toArray, List.getElem?_cons_succ, List.getElem?_cons_zero, Option.getD_some]) | (refine t_move rfl _ rfl rfl ?_; simp only [List.getElem_toArray, List.getElem_cons_succ, List.getElem_cons_zero, Act.put, Act.eval, List.setIfInBounds_toArray, List.set_cons_zero, List.set_cons_succ, Array.getD_eq_getD_getElem?, List.getElem?_toArray, List.getElem?_cons_succ, List.getElem?_cons_zero, Option.getD_some]) | (refine t_assign rfl _ rfl rfl ?_; simp only [List.getElem_toArray, List.getElem_cons_succ, List.getElem_cons_zero, Act.put, Act.eval, List.setIfInBounds_toArray, List.set_cons_zero, List.set_cons_succ, Array.getD_eq_getD_getElem?, List.getElem?_toArray, List.getElem?_cons_succ, List.getElem?_cons_zero, Option.getD_some]) | (refine t_val rfl rfl ?_; apply Exists.intro; refine ⟨fun w' hC' => ?_, ?_⟩; (have hc' := Hx.out w' hC'; go_simp; exact rfl); simp only [List.getElem_toArray, List.getElem_cons_succ, List.getElem_cons_zero, Act.put, Act.eval, List.setIfInBounds_toArray, List.set_cons_zero, List.set_cons_succ, Array.getD_eq_getD_getElem?, List.getElem?_toArray, List.getElem?_cons_succ, List.getElem?_cons_zero, Option.getD_some]))
  refine r_call rfl rfl ?_; apply Exists.intro; apply Exists.intro; refine ⟨?_, ?_⟩; (go_simp; exact ⟨rfl, rfl⟩)
  refine (fnumber_any 8 n _ (by omega) (by omega) (by omega) (by omega)).mono ?_
  rintro _ w2 ⟨⟨B1, hB1, rfl, hbe⟩, hb2⟩
  have Hb2 : Hid (Below W.heap.size W w2) := bt (Below.refl _ _).drew hb2
  rw [HQ.out] at hbe
  have hdg := dig_bs ((readAt_below Hb2.out hS 0 33).trans Hr.out)
  have hy := ba (.cells #[.slice (some ⟨w.heap.size, 0, none⟩) 32 32, .slice (some ⟨B1, 0, none⟩) 8 8] 23) (Below.refl w2.heap.size w2)
  have HPs := Lib.hid (Ps.two (w := w2.alloc (.cells #[.slice (some ⟨w.heap.size, 0, none⟩) 32 32, .slice (some ⟨B1, 0, none⟩) 8 8] 23)) (B := w2.heap.size) (by simp [go_sem]) (hdg.below hy) (hbe.below hy))
  have Hy := Lib.hid hy
  clear hb2 hbe hdg hy
  refine ⟨_, rfl, _, fun _ h => h, Hm.out _ (Hb2.out), ?_⟩; simp only [List.getElem_toArray, List.getElem_cons_succ, List.getElem_cons_zero, Act.put, Act.eval, List.setIfInBounds_toArray, List.set_cons_zero, List.set_cons_succ, Array.getD_eq_getD_getElem?, List.getElem?_toArray, List.getElem?_cons_succ, List.getElem?_cons_zero, Option.getD_some]
  refine r_val rfl rfl ?_; apply Exists.intro; apply Exists.intro; refine ⟨?_, ?_⟩; (go_simp; exact ⟨rfl, rfl⟩)
  refine ⟨_, fun _ h => h, Hm.out _ (bt Hb2.out Hy.out), ?_⟩; simp only [List.getElem_toArray, List.getElem_cons_succ, List.getElem_cons_zero, Act.put, Act.eval, List.setIfInBounds_toArray, List.set_cons_zero, List.set_cons_succ, Array.getD_eq_getD_getElem?, List.getElem?_toArray, List.getElem?_cons_succ, List.getElem?_cons_zero, Option.getD_some]
  refine r_call rfl rfl ?_; apply Exists.intro; apply Exists.intro; refine ⟨?_, ?_⟩; (go_simp; exact ⟨rfl, rfl⟩)
  refine (join_any _ 2 2 _ _ HPs.out (by rw [Hfl.out, Hpl.out]; omega)).mono ?_
  rw [Hfl.out]
  rintro _ w3 ⟨⟨v, rfl, hne, hown⟩, hb3⟩
  obtain ⟨ja, jc, rfl, hjb⟩ := hown.bs
  rw [Hpl.out] at hjb ⊢
  have Hjb := Lib.hid hjb
  have Hb3 := Lib.hid (bt Hb2.out (bt Hy.out hb3))
  clear hne hown hb3 hjb
  refine ⟨_, rfl, _, fun _ h => h, Hm.out _ (Hb3.out), ?_⟩; simp only [List.getElem_toArray, List.getElem_cons_succ, List.getElem_cons_zero, Act.put, Act.eval, List.setIfInBounds_toArray, List.set_cons_zero, List.set_cons_succ, Array.getD_eq_getD_getElem?, List.getElem?_toArray, List.getElem?_cons_succ, List.getElem?_cons_zero, Option.getD_some]
  refine r_call rfl rfl ?_; apply Exists.intro; apply Exists.intro; refine ⟨?_, ?_⟩; (go_simp; exact ⟨rfl, rfl⟩)
  refine (fmake_yes g _ 40 _ P _ hg Hjb.out (by omega)).mono ?_
  rw [HX.out]
  rintro _ w4 ⟨rfl, hb4⟩
  have Hb4 := Lib.hid (bt Hb3.out hb4)
  have hk4 : canAt w4 (w.heap.size + 1) 0 64 = true := (canAt_below Hb4.out hK 0 64).trans Hk.out
  have hfin := Hb0.out.trans (Hb4.out.mono Hb0.out.size)
  have Hfin := Lib.hid hfin
  clear hb4 hfin Hb3 Hjb HPs Hy Hb2 hc hwr HQ Hfl
  refine ⟨_, rfl, _, fun _ h => h, Hm.out _ (Hb4.out), ?_⟩; simp only [List.getElem_toArray, List.getElem_cons_succ, List.getElem_cons_zero, Act.put, Act.eval, List.setIfInBounds_toArray, List.set_cons_zero, List.set_cons_succ, Array.getD_eq_getD_getElem?, List.getElem?_toArray, List.getElem?_cons_succ, List.getElem?_cons_zero, Option.getD_some]
  repeat (first | (refine t_off rfl rfl ?_; simp only [List.getElem_toArray, List.getElem_cons_succ, List.getElem_cons_zero, Act.put, Act.eval, List.setIfInBounds_toArray, List.set_cons_zero, List.set_cons_succ, Array.getD_eq_getD_getElem?, List.getElem?_toArray, List.getElem?_cons_succ, List.getElem?_cons_zero, Option.getD_some]) | (refine t_move rfl _ rfl rfl ?_; simp only [List.getElem_toArray, List.getElem_cons_succ, List.getElem_cons_zero, Act.put, Act.eval, List.setIfInBounds_toArray, List.set_cons_zero, List.set_cons_succ, Array.getD_eq_getD_getElem?, List.getElem?_toArray, List.getElem?_cons_succ, List.getElem?_cons_zero, Option.getD_some]) | (refine t_assign rfl _ rfl rfl ?_; simp only [List.getElem_toArray, List.getElem_cons_succ, List.getElem_cons_zero, Act.put, Act.eval, List.setIfInBounds_toArray, List.set_cons_zero, List.set_cons_succ, Array.getD_eq_getD_getElem?, List.getElem?_toArray, List.getElem?_cons_succ, List.getElem?_cons_zero, Option.getD_some]) | (refine t_val rfl rfl ?_; apply Exists.intro; refine ⟨fun w' hC' => ?_, ?_⟩; (skip; go_simp; exact rfl); simp only [List.getElem_toArray, List.getElem_cons_succ, List.getElem_cons_zero, Act.put, Act.eval, List.setIfInBounds_toArray, List.set_cons_zero, List.set_cons_succ, Array.getD_eq_getD_getElem?, List.getElem?_toArray, List.getElem?_cons_succ, List.getElem?_cons_zero, Option.getD_some]))
  refine r_any rfl rfl (fun K hK => ?_)
  go_simp
  refine hK _ _ (fun u => Below (w.heap.size + 1) W u) (fun _ h => h) (setAt_below (Hm.out _ Hb4.out) (Nat.le_refl _) _ _) ?_
  clear hK K Hm Hx Hb4
  repeat (first | (refine t_off rfl rfl ?_; simp only [List.getElem_toArray, List.getElem_cons_succ, List.getElem_cons_zero, Act.put, Act.eval, List.setIfInBounds_toArray, List.set_cons_zero, List.set_cons_succ, Array.getD_eq_getD_getElem?, List.getElem?_toArray, List.getElem?_cons_succ, List.getElem?_cons_zero, Option.getD_some]) | (refine t_move rfl _ rfl rfl ?_; simp only [List.getElem_toArray, List.getElem_cons_succ, List.getElem_cons_zero, Act.put, Act.eval, List.setIfInBounds_toArray, List.set_cons_zero, List.set_cons_succ, Array.getD_eq_getD_getElem?, List.getElem?_toArray, List.getElem?_cons_succ, List.getElem?_cons_zero, Option.getD_some]) | (refine t_assign rfl _ rfl rfl ?_; simp only [List.getElem_toArray, List.getElem_cons_succ, List.getElem_cons_zero, Act.put, Act.eval, List.setIfInBounds_toArray, List.set_cons_zero, List.set_cons_succ, Array.getD_eq_getD_getElem?, List.getElem?_toArray, List.getElem?_cons_succ, List.getElem?_cons_zero, Option.getD_some]) | (refine t_val rfl rfl ?_; apply Exists.intro; refine ⟨fun w' hC' => ?_, ?_⟩; (skip; go_simp; exact rfl); simp only [List.getElem_toArray, List.getElem_cons_succ, List.getElem_cons_zero, Act.put, Act.eval, List.setIfInBounds_toArray, List.set_cons_zero, List.set_cons_succ, Array.getD_eq_getD_getElem?, List.getElem?_toArray, List.getElem?_cons_succ, List.getElem?_cons_zero, Option.getD_some]))
  refine t_done ?_
  clear HX Hr d1 d2 Hdl Hql Hpl hS
  go_wp2_with fail
  refine bodyPost_ret (results_sec_tmp rfl _ _ (w.heap.size + 1) 0 (av X) _ rfl rfl ?_) rfl ⟨rfl, setAt_below Hfin.out (by omega) _ _⟩
  exact readAt_setAt_same _ _ _ _ _ (by simp) hk4
end Go.Proofs.Ytlonmghkdobhdaa
