/- The law's state: a disk and the reference's disk in the same state. Conditions: the numbers are small. -/
import Derived.Test.YtjedlcfeobhjnaaPlayR
import Derived.Test.YtjedlcfeobhjnaaDCr
set_option linter.unusedSimpArgs false
set_option linter.unusedVariables false
namespace Go.Proofs.Ytjedlcfeobhjnaa
open Go.RowKit Go.ChangeMaps

set_option maxRecDepth 100000 in
set_option maxHeartbeats 6400000 in
theorem state_any (w : World) (base : Nat) (p : DP) (X : Nat → Prop) (n m : Nat) (D : DM) (a b c : Value) (hA : DAt w base p n D) (hR : RAt w X n D a b c) (hD : OkD D n m) (hm : m ≤ 100000) (hn : n ≤ 5000) :
    Calls Try.prog 23 #[.pointer (some ⟨p.B, 0, none⟩), .agg (rV D a b c)] w fun e w' => e = .returned (.bool true) ∧ Below w.heap.size w w' := by
  obtain ⟨bl, ol, cl, ad2, ad3, c2, c3, rfl, rfl, rfl⟩ := hR.open_
  unfold rV
  have HA := Lib.hid hA
  have HR := Lib.hid hR
  have HD := Lib.hid hD
  clear hA hR hD
  go_enter Try.func23, Try.ntmps23
  go_wp2_with fail
  obtain ⟨W, hW⟩ : ∃ W, w.alloc (.cells #[.slice (some ⟨bl, ol, none⟩) n cl, .slice ad2 D.op.length c2, .bool D.down, .int .i64 D.steps, .slice ad3 D.plan.length c3] 46) = W := ⟨_, rfl⟩
  have hb : Below w.heap.size w W := by rw [← hW]; exact ba _ (Below.refl _ _)
  have HC : Hid (C5 W w.heap.size (.slice (some ⟨bl, ol, none⟩) n cl) (.slice ad2 D.op.length c2) (.bool D.down) (.int .i64 D.steps) (.slice ad3 D.plan.length c3)) := by
    unfold Hid; rw [← hW]; exact C5.made w _ _ _ _ _ _
  have HA1 := Lib.hid (HA.out.below hb)
  have HR1 := Lib.hid (HR.out.below hb)
  have HB := Lib.hid hb
  rw [hW]
  clear hW hb HA HR
  have HS : Hid (∀ u : World, readAt u w.heap.size 0 5 = some #[.slice (some ⟨bl, ol, none⟩) n cl, .slice ad2 D.op.length c2, .bool D.down, .int .i64 D.steps, .slice ad3 D.plan.length c3] → u.cell? ⟨w.heap.size, 0, none⟩ = some (.slice (some ⟨bl, ol, none⟩) n cl) ∧ u.cell? ⟨w.heap.size, 1, none⟩ = some (.slice ad2 D.op.length c2) ∧ u.cell? ⟨w.heap.size, 2, none⟩ = some (.bool D.down) ∧ u.cell? ⟨w.heap.size, 3, none⟩ = some (.int .i64 D.steps)) := fun u hu => by
    have hc := fun i v hv => readAt_cell hu i v hv
    simp only [Nat.zero_add] at hc
    exact ⟨hc 0 _ rfl, hc 1 _ rfl, hc 2 _ rfl, hc 3 _ rfl⟩
  refine wp_region_tr (.take 0 (.take 2 (.take 3 (.run 1 (.take 4 (.take 5 (.take 6 (.take 8 (.take 9 (.run 7 (.take 10 (.take 11 (.take 12 (.take 13 (.take 15 (.take 16 (.take 17 (.run 14 (.take 18 (.take 19 (.take 20 (.take 21 (.take 23 (.take 24 (.run 22 (.run 25 (.take 26 (.take 27 (.take 28 (.take 30 (.take 31 (.take 32 (.run 29 (.take 33 (.take 34 (.take 35 .done)))))))))))))))))))))))))))))))))))) (fun u => readAt u w.heap.size 0 5 = some #[.slice (some ⟨bl, ol, none⟩) n cl, .slice ad2 D.op.length c2, .bool D.down, .int .i64 D.steps, .slice ad3 D.plan.length c3]) (by kernel_rfl) (by kernel_rfl) rfl (by kernel_rfl) HC.out.r ?_
  have hb := (Below.refl W.heap.size W).drew
  have HA2 := Lib.hid (HA1.out.below hb)
  have HR2 := Lib.hid (HR1.out.below hb)
  have HB2 := Lib.hid (bt HB.out hb)
  have HC2 := Lib.hid (HC.out.below hb)
  clear HA1 HR1 HC HB hb
  generalize W.drew = u at *
  repeat (first | (refine t_off rfl rfl ?_; simp only [List.getElem_toArray, List.getElem_cons_succ, List.getElem_cons_zero, Act.put, Act.eval, List.setIfInBounds_toArray, List.set_cons_zero, List.set_cons_succ, Array.getD_eq_getD_getElem?, List.getElem?_toArray, List.getElem?_cons_succ, List.getElem?_cons_zero, Option.getD_some]) | (refine t_move rfl _ rfl rfl ?_; simp only [List.getElem_toArray, List.getElem_cons_succ, List.getElem_cons_zero, Act.put, Act.eval, List.setIfInBounds_toArray, List.set_cons_zero, List.set_cons_succ, Array.getD_eq_getD_getElem?, List.getElem?_toArray, List.getElem?_cons_succ, List.getElem?_cons_zero, Option.getD_some]) | (refine t_assign rfl _ rfl rfl ?_; simp only [List.getElem_toArray, List.getElem_cons_succ, List.getElem_cons_zero, Act.put, Act.eval, List.setIfInBounds_toArray, List.set_cons_zero, List.set_cons_succ, Array.getD_eq_getD_getElem?, List.getElem?_toArray, List.getElem?_cons_succ, List.getElem?_cons_zero, Option.getD_some]) | (refine t_val rfl rfl ?_; apply Exists.intro; refine ⟨fun w' hC' => ?_, ?_⟩; (obtain ⟨b0, b1, b2, b3⟩ := HS.out w' hC'; go_simp; (first | done | exact rfl)); simp only [List.getElem_toArray, List.getElem_cons_succ, List.getElem_cons_zero, Act.put, Act.eval, List.setIfInBounds_toArray, List.set_cons_zero, List.set_cons_succ, Array.getD_eq_getD_getElem?, List.getElem?_toArray, List.getElem?_cons_succ, List.getElem?_cons_zero, Option.getD_some]) | (refine p_off rfl rfl ?_; simp only [List.getElem_toArray, List.getElem_cons_succ, List.getElem_cons_zero, Act.put, Act.eval, List.setIfInBounds_toArray, List.set_cons_zero, List.set_cons_succ, Array.getD_eq_getD_getElem?, List.getElem?_toArray, List.getElem?_cons_succ, List.getElem?_cons_zero, Option.getD_some]) | (refine p_val rfl rfl ?_; apply Exists.intro; refine ⟨fun w' => ?_, ?_⟩; (go_simp; (first | done | exact rfl)); simp only [List.getElem_toArray, List.getElem_cons_succ, List.getElem_cons_zero, Act.put, Act.eval, List.setIfInBounds_toArray, List.set_cons_zero, List.set_cons_succ, Array.getD_eq_getD_getElem?, List.getElem?_toArray, List.getElem?_cons_succ, List.getElem?_cons_zero, Option.getD_some]))
  refine r_call rfl rfl ?_; apply Exists.intro; apply Exists.intro; refine ⟨?_, ?_⟩; (go_simp; exact ⟨rfl, rfl⟩)
  refine (down_any u HA2.out).mono ?_
  rintro _ _ ⟨rfl, rfl⟩
  refine ⟨_, rfl, _, fun _ h => h, HC2.out.r, ?_⟩; simp only [List.getElem_toArray, List.getElem_cons_succ, List.getElem_cons_zero, Act.put, Act.eval, List.setIfInBounds_toArray, List.set_cons_zero, List.set_cons_succ, Array.getD_eq_getD_getElem?, List.getElem?_toArray, List.getElem?_cons_succ, List.getElem?_cons_zero, Option.getD_some]
  repeat (first | (refine t_off rfl rfl ?_; simp only [List.getElem_toArray, List.getElem_cons_succ, List.getElem_cons_zero, Act.put, Act.eval, List.setIfInBounds_toArray, List.set_cons_zero, List.set_cons_succ, Array.getD_eq_getD_getElem?, List.getElem?_toArray, List.getElem?_cons_succ, List.getElem?_cons_zero, Option.getD_some]) | (refine t_move rfl _ rfl rfl ?_; simp only [List.getElem_toArray, List.getElem_cons_succ, List.getElem_cons_zero, Act.put, Act.eval, List.setIfInBounds_toArray, List.set_cons_zero, List.set_cons_succ, Array.getD_eq_getD_getElem?, List.getElem?_toArray, List.getElem?_cons_succ, List.getElem?_cons_zero, Option.getD_some]) | (refine t_assign rfl _ rfl rfl ?_; simp only [List.getElem_toArray, List.getElem_cons_succ, List.getElem_cons_zero, Act.put, Act.eval, List.setIfInBounds_toArray, List.set_cons_zero, List.set_cons_succ, Array.getD_eq_getD_getElem?, List.getElem?_toArray, List.getElem?_cons_succ, List.getElem?_cons_zero, Option.getD_some]) | (refine t_val rfl rfl ?_; apply Exists.intro; refine ⟨fun w' hC' => ?_, ?_⟩; (obtain ⟨b0, b1, b2, b3⟩ := HS.out w' hC'; go_simp; (first | done | exact rfl)); simp only [List.getElem_toArray, List.getElem_cons_succ, List.getElem_cons_zero, Act.put, Act.eval, List.setIfInBounds_toArray, List.set_cons_zero, List.set_cons_succ, Array.getD_eq_getD_getElem?, List.getElem?_toArray, List.getElem?_cons_succ, List.getElem?_cons_zero, Option.getD_some]) | (refine p_off rfl rfl ?_; simp only [List.getElem_toArray, List.getElem_cons_succ, List.getElem_cons_zero, Act.put, Act.eval, List.setIfInBounds_toArray, List.set_cons_zero, List.set_cons_succ, Array.getD_eq_getD_getElem?, List.getElem?_toArray, List.getElem?_cons_succ, List.getElem?_cons_zero, Option.getD_some]) | (refine p_val rfl rfl ?_; apply Exists.intro; refine ⟨fun w' => ?_, ?_⟩; (go_simp; (first | done | exact rfl)); simp only [List.getElem_toArray, List.getElem_cons_succ, List.getElem_cons_zero, Act.put, Act.eval, List.setIfInBounds_toArray, List.set_cons_zero, List.set_cons_succ, Array.getD_eq_getD_getElem?, List.getElem?_toArray, List.getElem?_cons_succ, List.getElem?_cons_zero, Option.getD_some]))
  refine r_call rfl rfl ?_; apply Exists.intro; apply Exists.intro; refine ⟨?_, ?_⟩; (go_simp; exact ⟨rfl, rfl⟩)
  refine (steps_any u HA2.out).mono ?_
  rintro _ _ ⟨rfl, rfl⟩
  refine ⟨_, rfl, _, fun _ h => h, HC2.out.r, ?_⟩; simp only [List.getElem_toArray, List.getElem_cons_succ, List.getElem_cons_zero, Act.put, Act.eval, List.setIfInBounds_toArray, List.set_cons_zero, List.set_cons_succ, Array.getD_eq_getD_getElem?, List.getElem?_toArray, List.getElem?_cons_succ, List.getElem?_cons_zero, Option.getD_some]
  repeat (first | (refine t_off rfl rfl ?_; simp only [List.getElem_toArray, List.getElem_cons_succ, List.getElem_cons_zero, Act.put, Act.eval, List.setIfInBounds_toArray, List.set_cons_zero, List.set_cons_succ, Array.getD_eq_getD_getElem?, List.getElem?_toArray, List.getElem?_cons_succ, List.getElem?_cons_zero, Option.getD_some]) | (refine t_move rfl _ rfl rfl ?_; simp only [List.getElem_toArray, List.getElem_cons_succ, List.getElem_cons_zero, Act.put, Act.eval, List.setIfInBounds_toArray, List.set_cons_zero, List.set_cons_succ, Array.getD_eq_getD_getElem?, List.getElem?_toArray, List.getElem?_cons_succ, List.getElem?_cons_zero, Option.getD_some]) | (refine t_assign rfl _ rfl rfl ?_; simp only [List.getElem_toArray, List.getElem_cons_succ, List.getElem_cons_zero, Act.put, Act.eval, List.setIfInBounds_toArray, List.set_cons_zero, List.set_cons_succ, Array.getD_eq_getD_getElem?, List.getElem?_toArray, List.getElem?_cons_succ, List.getElem?_cons_zero, Option.getD_some]) | (refine t_val rfl rfl ?_; apply Exists.intro; refine ⟨fun w' hC' => ?_, ?_⟩; (obtain ⟨b0, b1, b2, b3⟩ := HS.out w' hC'; go_simp; (first | done | exact rfl)); simp only [List.getElem_toArray, List.getElem_cons_succ, List.getElem_cons_zero, Act.put, Act.eval, List.setIfInBounds_toArray, List.set_cons_zero, List.set_cons_succ, Array.getD_eq_getD_getElem?, List.getElem?_toArray, List.getElem?_cons_succ, List.getElem?_cons_zero, Option.getD_some]) | (refine p_off rfl rfl ?_; simp only [List.getElem_toArray, List.getElem_cons_succ, List.getElem_cons_zero, Act.put, Act.eval, List.setIfInBounds_toArray, List.set_cons_zero, List.set_cons_succ, Array.getD_eq_getD_getElem?, List.getElem?_toArray, List.getElem?_cons_succ, List.getElem?_cons_zero, Option.getD_some]) | (refine p_val rfl rfl ?_; apply Exists.intro; refine ⟨fun w' => ?_, ?_⟩; (go_simp; (first | done | exact rfl)); simp only [List.getElem_toArray, List.getElem_cons_succ, List.getElem_cons_zero, Act.put, Act.eval, List.setIfInBounds_toArray, List.set_cons_zero, List.set_cons_succ, Array.getD_eq_getD_getElem?, List.getElem?_toArray, List.getElem?_cons_succ, List.getElem?_cons_zero, Option.getD_some]))
  refine r_call rfl rfl ?_; apply Exists.intro; apply Exists.intro; refine ⟨?_, ?_⟩; (go_simp; exact ⟨rfl, rfl⟩)
  refine (open_any u HA2.out).mono ?_
  rintro _ _ ⟨rfl, rfl⟩
  refine ⟨_, rfl, _, fun _ h => h, HC2.out.r, ?_⟩; simp only [List.getElem_toArray, List.getElem_cons_succ, List.getElem_cons_zero, Act.put, Act.eval, List.setIfInBounds_toArray, List.set_cons_zero, List.set_cons_succ, Array.getD_eq_getD_getElem?, List.getElem?_toArray, List.getElem?_cons_succ, List.getElem?_cons_zero, Option.getD_some]
  repeat (first | (refine t_off rfl rfl ?_; simp only [List.getElem_toArray, List.getElem_cons_succ, List.getElem_cons_zero, Act.put, Act.eval, List.setIfInBounds_toArray, List.set_cons_zero, List.set_cons_succ, Array.getD_eq_getD_getElem?, List.getElem?_toArray, List.getElem?_cons_succ, List.getElem?_cons_zero, Option.getD_some]) | (refine t_move rfl _ rfl rfl ?_; simp only [List.getElem_toArray, List.getElem_cons_succ, List.getElem_cons_zero, Act.put, Act.eval, List.setIfInBounds_toArray, List.set_cons_zero, List.set_cons_succ, Array.getD_eq_getD_getElem?, List.getElem?_toArray, List.getElem?_cons_succ, List.getElem?_cons_zero, Option.getD_some]) | (refine t_assign rfl _ rfl rfl ?_; simp only [List.getElem_toArray, List.getElem_cons_succ, List.getElem_cons_zero, Act.put, Act.eval, List.setIfInBounds_toArray, List.set_cons_zero, List.set_cons_succ, Array.getD_eq_getD_getElem?, List.getElem?_toArray, List.getElem?_cons_succ, List.getElem?_cons_zero, Option.getD_some]) | (refine t_val rfl rfl ?_; apply Exists.intro; refine ⟨fun w' hC' => ?_, ?_⟩; (obtain ⟨b0, b1, b2, b3⟩ := HS.out w' hC'; go_simp; (first | done | exact rfl)); simp only [List.getElem_toArray, List.getElem_cons_succ, List.getElem_cons_zero, Act.put, Act.eval, List.setIfInBounds_toArray, List.set_cons_zero, List.set_cons_succ, Array.getD_eq_getD_getElem?, List.getElem?_toArray, List.getElem?_cons_succ, List.getElem?_cons_zero, Option.getD_some]) | (refine p_off rfl rfl ?_; simp only [List.getElem_toArray, List.getElem_cons_succ, List.getElem_cons_zero, Act.put, Act.eval, List.setIfInBounds_toArray, List.set_cons_zero, List.set_cons_succ, Array.getD_eq_getD_getElem?, List.getElem?_toArray, List.getElem?_cons_succ, List.getElem?_cons_zero, Option.getD_some]) | (refine p_val rfl rfl ?_; apply Exists.intro; refine ⟨fun w' => ?_, ?_⟩; (go_simp; (first | done | exact rfl)); simp only [List.getElem_toArray, List.getElem_cons_succ, List.getElem_cons_zero, Act.put, Act.eval, List.setIfInBounds_toArray, List.set_cons_zero, List.set_cons_succ, Array.getD_eq_getD_getElem?, List.getElem?_toArray, List.getElem?_cons_succ, List.getElem?_cons_zero, Option.getD_some]))
  refine r_call rfl rfl ?_; apply Exists.intro; apply Exists.intro; refine ⟨?_, ?_⟩; (go_simp; exact ⟨rfl, rfl⟩)
  refine (stable_any u HA2.out HD.out.len hn).mono ?_
  rintro _ u2 ⟨⟨v, rfl, hv⟩, hb2⟩
  have HA3 := Lib.hid (HA2.out.below hb2)
  have HR3 := Lib.hid (HR2.out.below hb2)
  have HB3 := Lib.hid (bt HB2.out hb2)
  have HC3 := Lib.hid (HC2.out.below hb2)
  have HV := Lib.hid hv
  clear HA2 HR2 HC2 HB2 hb2 hv
  refine ⟨_, rfl, _, fun _ h => h, HC3.out.r, ?_⟩; simp only [List.getElem_toArray, List.getElem_cons_succ, List.getElem_cons_zero, Act.put, Act.eval, List.setIfInBounds_toArray, List.set_cons_zero, List.set_cons_succ, Array.getD_eq_getD_getElem?, List.getElem?_toArray, List.getElem?_cons_succ, List.getElem?_cons_zero, Option.getD_some]
  repeat (first | (refine t_off rfl rfl ?_; simp only [List.getElem_toArray, List.getElem_cons_succ, List.getElem_cons_zero, Act.put, Act.eval, List.setIfInBounds_toArray, List.set_cons_zero, List.set_cons_succ, Array.getD_eq_getD_getElem?, List.getElem?_toArray, List.getElem?_cons_succ, List.getElem?_cons_zero, Option.getD_some]) | (refine t_move rfl _ rfl rfl ?_; simp only [List.getElem_toArray, List.getElem_cons_succ, List.getElem_cons_zero, Act.put, Act.eval, List.setIfInBounds_toArray, List.set_cons_zero, List.set_cons_succ, Array.getD_eq_getD_getElem?, List.getElem?_toArray, List.getElem?_cons_succ, List.getElem?_cons_zero, Option.getD_some]) | (refine t_assign rfl _ rfl rfl ?_; simp only [List.getElem_toArray, List.getElem_cons_succ, List.getElem_cons_zero, Act.put, Act.eval, List.setIfInBounds_toArray, List.set_cons_zero, List.set_cons_succ, Array.getD_eq_getD_getElem?, List.getElem?_toArray, List.getElem?_cons_succ, List.getElem?_cons_zero, Option.getD_some]) | (refine t_val rfl rfl ?_; apply Exists.intro; refine ⟨fun w' hC' => ?_, ?_⟩; (obtain ⟨b0, b1, b2, b3⟩ := HS.out w' hC'; go_simp; (first | done | exact rfl)); simp only [List.getElem_toArray, List.getElem_cons_succ, List.getElem_cons_zero, Act.put, Act.eval, List.setIfInBounds_toArray, List.set_cons_zero, List.set_cons_succ, Array.getD_eq_getD_getElem?, List.getElem?_toArray, List.getElem?_cons_succ, List.getElem?_cons_zero, Option.getD_some]) | (refine p_off rfl rfl ?_; simp only [List.getElem_toArray, List.getElem_cons_succ, List.getElem_cons_zero, Act.put, Act.eval, List.setIfInBounds_toArray, List.set_cons_zero, List.set_cons_succ, Array.getD_eq_getD_getElem?, List.getElem?_toArray, List.getElem?_cons_succ, List.getElem?_cons_zero, Option.getD_some]) | (refine p_val rfl rfl ?_; apply Exists.intro; refine ⟨fun w' => ?_, ?_⟩; (go_simp; (first | done | exact rfl)); simp only [List.getElem_toArray, List.getElem_cons_succ, List.getElem_cons_zero, Act.put, Act.eval, List.setIfInBounds_toArray, List.set_cons_zero, List.set_cons_succ, Array.getD_eq_getD_getElem?, List.getElem?_toArray, List.getElem?_cons_succ, List.getElem?_cons_zero, Option.getD_some]))
  refine r_call rfl rfl ?_; apply Exists.intro; apply Exists.intro; refine ⟨?_, ?_⟩; (go_simp; exact ⟨rfl, rfl⟩)
  refine (same_selfD v _ n D.st u2 HD.out.len hn HV.out.rd (HR3.out.st.rd HD.out.len)).mono ?_
  rintro _ u3 ⟨rfl, hb3⟩
  have HA4 := Lib.hid (HA3.out.below hb3)
  have HB4 := Lib.hid (bt HB3.out hb3)
  have HC4 := Lib.hid (HC3.out.below hb3)
  clear HA3 HR3 HC3 HB3 hb3 HV
  refine ⟨_, rfl, _, fun _ h => h, HC4.out.r, ?_⟩; simp only [List.getElem_toArray, List.getElem_cons_succ, List.getElem_cons_zero, Act.put, Act.eval, List.setIfInBounds_toArray, List.set_cons_zero, List.set_cons_succ, Array.getD_eq_getD_getElem?, List.getElem?_toArray, List.getElem?_cons_succ, List.getElem?_cons_zero, Option.getD_some]
  repeat (first | (refine t_off rfl rfl ?_; simp only [List.getElem_toArray, List.getElem_cons_succ, List.getElem_cons_zero, Act.put, Act.eval, List.setIfInBounds_toArray, List.set_cons_zero, List.set_cons_succ, Array.getD_eq_getD_getElem?, List.getElem?_toArray, List.getElem?_cons_succ, List.getElem?_cons_zero, Option.getD_some]) | (refine t_move rfl _ rfl rfl ?_; simp only [List.getElem_toArray, List.getElem_cons_succ, List.getElem_cons_zero, Act.put, Act.eval, List.setIfInBounds_toArray, List.set_cons_zero, List.set_cons_succ, Array.getD_eq_getD_getElem?, List.getElem?_toArray, List.getElem?_cons_succ, List.getElem?_cons_zero, Option.getD_some]) | (refine t_assign rfl _ rfl rfl ?_; simp only [List.getElem_toArray, List.getElem_cons_succ, List.getElem_cons_zero, Act.put, Act.eval, List.setIfInBounds_toArray, List.set_cons_zero, List.set_cons_succ, Array.getD_eq_getD_getElem?, List.getElem?_toArray, List.getElem?_cons_succ, List.getElem?_cons_zero, Option.getD_some]) | (refine t_val rfl rfl ?_; apply Exists.intro; refine ⟨fun w' hC' => ?_, ?_⟩; (obtain ⟨b0, b1, b2, b3⟩ := HS.out w' hC'; go_simp; (first | done | exact rfl)); simp only [List.getElem_toArray, List.getElem_cons_succ, List.getElem_cons_zero, Act.put, Act.eval, List.setIfInBounds_toArray, List.set_cons_zero, List.set_cons_succ, Array.getD_eq_getD_getElem?, List.getElem?_toArray, List.getElem?_cons_succ, List.getElem?_cons_zero, Option.getD_some]) | (refine p_off rfl rfl ?_; simp only [List.getElem_toArray, List.getElem_cons_succ, List.getElem_cons_zero, Act.put, Act.eval, List.setIfInBounds_toArray, List.set_cons_zero, List.set_cons_succ, Array.getD_eq_getD_getElem?, List.getElem?_toArray, List.getElem?_cons_succ, List.getElem?_cons_zero, Option.getD_some]) | (refine p_val rfl rfl ?_; apply Exists.intro; refine ⟨fun w' => ?_, ?_⟩; (go_simp; (first | done | exact rfl)); simp only [List.getElem_toArray, List.getElem_cons_succ, List.getElem_cons_zero, Act.put, Act.eval, List.setIfInBounds_toArray, List.set_cons_zero, List.set_cons_succ, Array.getD_eq_getD_getElem?, List.getElem?_toArray, List.getElem?_cons_succ, List.getElem?_cons_zero, Option.getD_some]))
  refine r_call rfl rfl ?_; apply Exists.intro; apply Exists.intro; refine ⟨?_, ?_⟩; (go_simp; exact ⟨rfl, rfl⟩)
  refine (size_any u3 HA4.out).mono ?_
  rintro _ _ ⟨rfl, rfl⟩
  refine ⟨_, rfl, _, fun _ h => h, HC4.out.r, ?_⟩; simp only [List.getElem_toArray, List.getElem_cons_succ, List.getElem_cons_zero, Act.put, Act.eval, List.setIfInBounds_toArray, List.set_cons_zero, List.set_cons_succ, Array.getD_eq_getD_getElem?, List.getElem?_toArray, List.getElem?_cons_succ, List.getElem?_cons_zero, Option.getD_some]
  repeat (first | (refine t_off rfl rfl ?_; simp only [List.getElem_toArray, List.getElem_cons_succ, List.getElem_cons_zero, Act.put, Act.eval, List.setIfInBounds_toArray, List.set_cons_zero, List.set_cons_succ, Array.getD_eq_getD_getElem?, List.getElem?_toArray, List.getElem?_cons_succ, List.getElem?_cons_zero, Option.getD_some]) | (refine t_move rfl _ rfl rfl ?_; simp only [List.getElem_toArray, List.getElem_cons_succ, List.getElem_cons_zero, Act.put, Act.eval, List.setIfInBounds_toArray, List.set_cons_zero, List.set_cons_succ, Array.getD_eq_getD_getElem?, List.getElem?_toArray, List.getElem?_cons_succ, List.getElem?_cons_zero, Option.getD_some]) | (refine t_assign rfl _ rfl rfl ?_; simp only [List.getElem_toArray, List.getElem_cons_succ, List.getElem_cons_zero, Act.put, Act.eval, List.setIfInBounds_toArray, List.set_cons_zero, List.set_cons_succ, Array.getD_eq_getD_getElem?, List.getElem?_toArray, List.getElem?_cons_succ, List.getElem?_cons_zero, Option.getD_some]) | (refine t_val rfl rfl ?_; apply Exists.intro; refine ⟨fun w' hC' => ?_, ?_⟩; (obtain ⟨b0, b1, b2, b3⟩ := HS.out w' hC'; go_simp; (first | done | exact rfl)); simp only [List.getElem_toArray, List.getElem_cons_succ, List.getElem_cons_zero, Act.put, Act.eval, List.setIfInBounds_toArray, List.set_cons_zero, List.set_cons_succ, Array.getD_eq_getD_getElem?, List.getElem?_toArray, List.getElem?_cons_succ, List.getElem?_cons_zero, Option.getD_some]) | (refine p_off rfl rfl ?_; simp only [List.getElem_toArray, List.getElem_cons_succ, List.getElem_cons_zero, Act.put, Act.eval, List.setIfInBounds_toArray, List.set_cons_zero, List.set_cons_succ, Array.getD_eq_getD_getElem?, List.getElem?_toArray, List.getElem?_cons_succ, List.getElem?_cons_zero, Option.getD_some]) | (refine p_val rfl rfl ?_; apply Exists.intro; refine ⟨fun w' => ?_, ?_⟩; (go_simp; (first | done | exact rfl)); simp only [List.getElem_toArray, List.getElem_cons_succ, List.getElem_cons_zero, Act.put, Act.eval, List.setIfInBounds_toArray, List.set_cons_zero, List.set_cons_succ, Array.getD_eq_getD_getElem?, List.getElem?_toArray, List.getElem?_cons_succ, List.getElem?_cons_zero, Option.getD_some]))
  refine t_done ?_
  go_wp2
  go_ret
  exact ⟨rfl, HB4.out⟩
/-- What holds at the head of a loop of operations: a disk, the reference's in the variable bw. -/
structure LP (w0 wr : World) (p : DP) (bw n : Nat) (D : DM) (a b c : Value) (m : Nat) : Prop where
  both : Both (fun x => x = bw) w0 wr p n D a b c
  box : C5 wr bw a b (.bool D.down) (.int .i64 D.steps) c
  bp : ¬ p.has bw
  ok : OkD D n m
  pl : D.plan.length ≤ m
  bb : w0.heap.size ≤ bw
section
variable {w0 wr u u' : World} {p : DP} {bw n m : Nat} {D D' : DM} {a b c : Value}
theorem LP.below (h : LP w0 wr p bw n D a b c m) (hb : Below wr.heap.size wr u) : LP w0 u p bw n D a b c m :=
  ⟨⟨h.both.bel.trans (hb.mono h.both.bel.size), h.both.d.below hb, h.both.r.below hb, fun x hx => Nat.lt_of_lt_of_le (h.both.zl x hx) hb.size⟩, h.box.below hb, h.bp, h.ok, h.pl, h.bb⟩
theorem LP.more {m' : Nat} (h : LP w0 wr p bw n D a b c m) (hm : m ≤ m') : LP w0 wr p bw n D a b c m' := ⟨h.both, h.box, h.bp, h.ok.more hm, Nat.le_trans h.pl hm, h.bb⟩
/-- play has been called, and its disk stored to the variable. -/
theorem LP.played {e : Ending} {q : OpM} (h : LP w0 wr p bw n D a b c m) (hn : PNext (fun x => x = bw) w0 wr p n (playD D q) e u) :
    ∃ p' bl ol cl ad2 c2 ad3 c3, e = .returned (.tuple #[.agg #[.slice (some ⟨bl, ol, none⟩) n cl, .slice ad2 (playD D q).op.length c2, .bool (playD D q).down, .int .i64 (playD D q).steps, .slice ad3 (playD D q).plan.length c3], .bool true]) ∧ p'.B = p.B ∧ Kb p.has wr u ∧ (∀ b, p'.has b → p.has b ∨ wr.heap.size ≤ b) ∧ C5 u bw a b (.bool D.down) (.int .i64 D.steps) c ∧
      LP w0 (put5 u bw (.slice (some ⟨bl, ol, none⟩) n cl) (.slice ad2 (playD D q).op.length c2) (.bool (playD D q).down) (.int .i64 (playD D q).steps) (.slice ad3 (playD D q).plan.length c3)) p' bw n (playD D q) (.slice (some ⟨bl, ol, none⟩) n cl) (.slice ad2 (playD D q).op.length c2) (.slice ad3 (playD D q).plan.length c3) (m + 2) := by
  obtain ⟨p', a', b', c', he, hB, hBo, hK, hh⟩ := hn
  obtain ⟨bl, ol, cl, ad2, ad3, c2, c3, rfl, rfl, rfl⟩ := hBo.r.open_
  have hbox : C5 u bw a b (.bool D.down) (.int .i64 D.steps) c := h.box.kb hK h.bp
  have hbp : ¬ p'.has bw := fun hx => by
    rcases hh bw hx with h1 | h1
    · exact h.bp h1
    · have := h.box.lt; omega
  have hk := put5_kb (Z := fun x => x = bw) u bw (.slice (some ⟨bl, ol, none⟩) n cl) (.slice ad2 (playD D q).op.length c2) (.bool (playD D q).down) (.int .i64 (playD D q).steps) (.slice ad3 (playD D q).plan.length c3) rfl
  refine ⟨p', bl, ol, cl, ad2, c2, ad3, c3, he, hB, hK, hh, hbox, ⟨hBo.bel.trans (hk.below (fun x hx => by subst hx; exact h.bb) hBo.bel.size), hBo.d.kb hk (fun x h1 h2 => hbp (h2 ▸ h1)), ?_, fun x hx => Nat.lt_of_lt_of_le (hBo.zl x hx) hk.size⟩, hbox.put _ _ _ _ _, hbp, h.ok.play q, Nat.le_trans (plan_play D q) (by have := h.pl; omega), h.bb⟩
  exact hBo.r.kb ⟨hk.os, hk.tape, hk.output, hk.size, fun x h1 h2 => hk.block x h1 (fun e => h2 (.inr e))⟩ (fun x hx => .inl hx)
end
def Loop2 (w0 wr : World) (PB bw n : Nat) (m : Nat) : Prop := ∃ p D a b c, p.B = PB ∧ LP w0 wr p bw n D a b c m

theorem OkD.newD (k : Int) (hk : k ≤ 4096) : OkD (newD k) k.toNat 0 := ⟨by simp [Proofs.Ytjedlcfeobhjnaa.newD]; omega, fun p hp => (by cases hp), Nat.le_refl _, Int.le_refl 0, Int.le_refl 0⟩
/-- At the start: two new disks, the reference's stored to a new variable. -/
theorem LP.start {w w3 : World} {p : DP} {k : Int} {a b c : Value} (hA : DAt w3 w.heap.size p k.toNat (newD k)) (hR : RAt w3 p.has k.toNat (newD k) a b c) (hB : Below w.heap.size w w3) (hk : k ≤ 4096) :
    LP w (w3.alloc (.cells #[a, b, .bool (newD k).down, .int .i64 (newD k).steps, c] 46)) p w3.heap.size k.toNat (newD k) a b c 0 := by
  have hb := ba (.cells #[a, b, .bool (newD k).down, .int .i64 (newD k).steps, c] 46) (Below.refl w3.heap.size w3)
  refine ⟨⟨hB.trans (hb.mono hB.size), hA.below hb, (hR.kb (X' := PZ p (fun x => x = w3.heap.size)) (Kb.of_below hb) (fun x hx => ?_)), fun x hx => by subst hx; simp⟩, C5.made w3 _ _ _ _ _ _, fun hx => ?_, OkD.newD k hk, by simp [newD], hB.size⟩
  · rcases hx with hx | hx
    · exact .inl hx
    · exact .inr (by omega)
  · have := hA.has_lt _ hx; omega
theorem few_at {L : List (OpM × Value)} (h : fewB L = true) {z : OpM × Value} (hz : z ∈ L) : okO z.1 = true := by
  unfold fewB at h
  simp only [Bool.and_eq_true, List.all_eq_true] at h
  exact h.1 z hz
theorem RdS.lt {w : World} {v : Value} {n sz : Nat} {xs : List Value} (h : RdS w v n sz xs) (h0 : 0 < n) (g : Nat) (hg : v.ownBlock = some g) : g < w.heap.size := by
  obtain ⟨ad, cap, h1, _, _, _, _, h6⟩ := h
  obtain ⟨b, o, e, hr⟩ := h6 h0
  rw [h1, e] at hg
  have : b = g := by simpa [Value.ownBlock] using hg
  subst this
  exact readAt_lt hr
end Go.Proofs.Ytjedlcfeobhjnaa
