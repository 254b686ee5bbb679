/- What Sync of the reference's disk computes. Conditions: the numbers are small. -/
import Derived.Test.YtjedlcfeobhjnaaRWrite
set_option linter.unusedSimpArgs false
set_option linter.unusedVariables false
namespace Go.Proofs.Ytjedlcfeobhjnaa
open Go.RowKit Go.ChangeMaps

theorem crash_whole (L : List Sec) (W : List (Int × Sec)) (m k : Nat) (hk : k ≤ m) : crashK L W (cutAt (List.replicate m 64)) k = crashK L W (fun _ => 64) k := by
  induction k with
  | zero => rfl
  | succ k ih =>
    rw [crashK, crashK, ih (by omega)]
    congr 1
    simp [cutAt, List.getD, show k < m by omega]
theorem rnext_put1 {w w5 : World} {X Z : Nat → Prop} {n : Nat} {D' : DM} {a b c : Value} (hz : Z (w.heap.size + 1)) (hxz : ∀ b, X b → Z b) (hR : RAt w5 Z n D' a b c) (hb : Below w.heap.size w w5) (y0 y1 y2 y3 y4 : Value) :
    RAt (put5 w5 (w.heap.size + 1) y0 y1 y2 y3 y4) X n D' a b c ∧ Below w.heap.size w (put5 w5 (w.heap.size + 1) y0 y1 y2 y3 y4) :=
  ⟨hR.kb (put5_kb w5 _ y0 y1 y2 y3 y4 hz) (fun b h => .inl (hxz b h)), hb.trans ((put5_kb (Z := fun b => b = w.heap.size + 1) w5 _ y0 y1 y2 y3 y4 rfl).below (fun b h => by subst h; omega) hb.size)⟩
set_option maxRecDepth 100000 in
set_option maxHeartbeats 6400000 in
theorem rdsync_any (w : World) (X : Nat → Prop) (n m : Nat) (D : DM) (a b c : Value) (hR : RAt w X n D a b c) (hX : ∀ g, X g → g < w.heap.size) (hD : OkD D n m) (hm : m + 2 ≤ 100000) (hn : n ≤ 5000) (hpl : D.plan.length ≤ 100000) :
    Calls Try.prog 39 #[.agg (rV D a b c)] w fun e w' => (∃ v, e = .returned (.tuple #[v, .int .i64 (syncD D).2]) ∧ RNext w' X n (syncD D).1 v) ∧ Below w.heap.size w w' := by
  obtain ⟨bl, ol, cl, ad2, ad3, c2, c3, rfl, rfl, rfl⟩ := hR.open_
  unfold rV
  have HR := Lib.hid hR
  have HX := Lib.hid hX
  have HD := Lib.hid hD
  have Hpl := Lib.hid hpl
  have hsrc : readAt w bl ol (n * 64) = some (flat av D.st).toArray := by
    obtain ⟨b, o, c, h1, _, _, h2, _⟩ := hR.st
    cases h1; exact h2
  have Hsrc := Lib.hid hsrc
  clear hR hX hD hpl hsrc
  rcases Bool.eq_false_or_eq_true D.down with hdn | hdn
  · have HM : Hid (syncD D = (D, 12)) := by unfold Hid syncD; rw [if_pos hdn]
    rw [hdn]
    go_enter Try.func39, Try.ntmps39
    go_wp2
    have hB : Below w.heap.size w ((w.alloc (.cells #[.slice (some ⟨bl, ol, none⟩) n cl, .slice ad2 D.op.length c2, .bool true, .int .i64 D.steps, .slice ad3 D.plan.length c3] 46)).alloc (.cells #[.slice (some ⟨bl, ol, none⟩) n cl, .slice ad2 D.op.length c2, .bool true, .int .i64 D.steps, .slice ad3 D.plan.length c3] 46)) := ba _ (ba _ (Below.refl _ _))
    refine bodyPost_ret (v := .tuple #[.agg #[.slice (some ⟨bl, ol, none⟩) n cl, .slice ad2 D.op.length c2, .bool true, .int .i64 D.steps, .slice ad3 D.plan.length c3], .int .i64 12]) (by simp [results, Try.results39, go_sem]) rfl ⟨⟨_, by rw [HM.out], ?_⟩, hB⟩
    rw [HM.out]
    exact ⟨_, _, _, by unfold rV; rw [hdn], HR.out.below hB⟩
  · rw [hdn]
    have Hdn := Lib.hid hdn
    clear hdn
    go_enter Try.func39, Try.ntmps39
    go_wp2_with fail
    obtain ⟨W, hW⟩ : ∃ W, (w.alloc (.cells #[.slice (some ⟨bl, ol, none⟩) n cl, .slice ad2 D.op.length c2, .bool false, .int .i64 D.steps, .slice ad3 D.plan.length c3] 46)).alloc (.cells #[.slice none 0 0, .slice none 0 0, .bool false, .int .i64 0, .slice none 0 0] 46) = W := ⟨_, rfl⟩
    have hB : Below w.heap.size w W := by rw [← hW]; exact ba _ (ba _ (Below.refl _ _))
    have hC1 : C5 W w.heap.size (.slice (some ⟨bl, ol, none⟩) n cl) (.slice ad2 D.op.length c2) (.bool false) (.int .i64 D.steps) (.slice ad3 D.plan.length c3) := by
      rw [← hW]; exact (C5.made w _ _ _ _ _ _).below (ba _ (Below.refl _ _))
    have hC2 : C5 W (w.heap.size + 1) (.slice none 0 0) (.slice none 0 0) (.bool false) (.int .i64 0) (.slice none 0 0) := by
      rw [← hW]; have h1 := C5.made (w.alloc (.cells #[.slice (some ⟨bl, ol, none⟩) n cl, .slice ad2 D.op.length c2, .bool false, .int .i64 D.steps, .slice ad3 D.plan.length c3] 46)) 46 (.slice none 0 0) (.slice none 0 0) (.bool false) (.int .i64 0) (.slice none 0 0); simpa using h1
    have hsW : W.heap.size = w.heap.size + 2 := by rw [← hW]; simp
    have hRL : RAt W (XI X w.heap.size) n D _ _ _ := HR.out.kb (Kb.of_below hB) (fun b hb => hb)
    have hst := rstep_any W (XI X w.heap.size) n m D _ _ _ hRL HD.out (by omega) Hpl.out
    unfold rV at hst
    rw [show (tickD D).down = false from Hdn.out, show (tickD D).steps = D.steps + 1 from rfl, Hdn.out] at hst
    rw [hW]
    clear hW
    refine hst.mono ?_
    rintro _ w2 ⟨⟨cr, cv, rfl, hout⟩, hb2⟩
    have HB2 := Lib.hid (bt hB hb2)
    have HRL := Lib.hid (hRL.below hb2)
    have HsL : Hid (w.heap.size + 2 ≤ w2.heap.size) := by have := hb2.size; show _ ≤ _; omega
    have HC1 := Lib.hid (hC1.below hb2)
    have HC2 := Lib.hid (hC2.below hb2)
    have Hout := Lib.hid hout
    obtain ⟨b0, b1, b2, b3, b4⟩ := HC1.out.cells
    obtain ⟨f0, f1, f2, f3, f4⟩ := HC1.out.free
    clear hst hB hC1 hC2 hb2 hout hRL hsW
    go_upto_region 4 with fail
    have h31 : C5 (put5 w2 w.heap.size (.slice (some ⟨bl, ol, none⟩) n cl) (.slice ad2 D.op.length c2) (.bool false) (.int .i64 (D.steps + 1)) (.slice ad3 D.plan.length c3)) w.heap.size (.slice (some ⟨bl, ol, none⟩) n cl) (.slice ad2 D.op.length c2) (.bool false) (.int .i64 (D.steps + 1)) (.slice ad3 D.plan.length c3) := HC1.out.put (.slice (some ⟨bl, ol, none⟩) n cl) (.slice ad2 D.op.length c2) (.bool false) (.int .i64 (D.steps + 1)) (.slice ad3 D.plan.length c3)
    have hk3 : Kb (fun b => b = w.heap.size) w2 (put5 w2 w.heap.size (.slice (some ⟨bl, ol, none⟩) n cl) (.slice ad2 D.op.length c2) (.bool false) (.int .i64 (D.steps + 1)) (.slice ad3 D.plan.length c3)) := put5_kb w2 w.heap.size (.slice (some ⟨bl, ol, none⟩) n cl) (.slice ad2 D.op.length c2) (.bool false) (.int .i64 (D.steps + 1)) (.slice ad3 D.plan.length c3) rfl
    have h32 : C5 (put5 w2 w.heap.size (.slice (some ⟨bl, ol, none⟩) n cl) (.slice ad2 D.op.length c2) (.bool false) (.int .i64 (D.steps + 1)) (.slice ad3 D.plan.length c3)) (w.heap.size + 1) (.slice none 0 0) (.slice none 0 0) (.bool false) (.int .i64 0) (.slice none 0 0) := HC2.out.kb hk3 (by omega)
    have hb3 : Below w.heap.size w (put5 w2 w.heap.size (.slice (some ⟨bl, ol, none⟩) n cl) (.slice ad2 D.op.length c2) (.bool false) (.int .i64 (D.steps + 1)) (.slice ad3 D.plan.length c3)) := HB2.out.trans (hk3.below (fun b hb => by subst hb; exact Nat.le_refl _) HB2.out.size)
    have hs3 : w2.heap.size ≤ (put5 w2 w.heap.size (.slice (some ⟨bl, ol, none⟩) n cl) (.slice ad2 D.op.length c2) (.bool false) (.int .i64 (D.steps + 1)) (.slice ad3 D.plan.length c3)).heap.size := hk3.size
    unfold put5 at h31 hk3 h32 hb3 hs3
    generalize (((((w2.setCell ⟨w.heap.size, 0, none⟩ (.slice (some ⟨bl, ol, none⟩) n cl)).setCell ⟨w.heap.size, 1, none⟩ (.slice ad2 D.op.length c2)).setCell ⟨w.heap.size, 2, none⟩ (.bool false)).setCell ⟨w.heap.size, 3, none⟩ (.int .i64 (D.steps + 1))).setCell ⟨w.heap.size, 4, none⟩ (.slice ad3 D.plan.length c3)) = w3 at *
    have H31 := Lib.hid h31
    have H32 := Lib.hid h32
    have HB3 := Lib.hid hb3
    have hkL : Kb (XI X w.heap.size) w2 w3 := ⟨hk3.os, hk3.tape, hk3.output, hk3.size, fun k h1 h2 => hk3.block k h1 (fun e => h2 (.inr (by subst e; exact Nat.le_refl _)))⟩
    have Hout3 : Hid (RStepOut w3 (XI X w.heap.size) D cr cv) := Hout.out.kb hkL (fun b h => .inl h)
    have HRL3 := Lib.hid (HRL.out.kb (X' := XI X w.heap.size) hkL (fun b h => .inl h))
    have HsL3 : Hid (w.heap.size + 2 ≤ w3.heap.size) := Nat.le_trans HsL.out hs3
    clear hkL HRL HsL
    clear h31 hk3 h32 hb3 hs3 b0 b1 b2 b3 b4 f0 f1 f2 f3 f4 HC1 HC2 HB2 Hout
    obtain ⟨b0, b1, b2, b3, b4⟩ := H31.out.cells
    obtain ⟨g0, g1, g2, g3, g4⟩ := H32.out.cells
    obtain ⟨f0, f1, f2, f3, f4⟩ := H32.out.free
    rcases Hout3.out with ⟨h1, rfl, rfl⟩ | ⟨cs, h1, rfl, h3, h5⟩
    · cases hF : evF D.plan (D.steps + 1) with
      | true =>
        have HM : Hid (syncD D = (tickD D, 11)) := by unfold Hid syncD; rw [if_neg (by rw [Hdn.out]; decide), h1]; simp only; rw [if_pos hF]
        clear h1 hF
        go_wp2
        obtain ⟨hr5, hb5⟩ := rnext_put1 (D' := tickD D) (X := X) (Z := XI X w.heap.size) (.inr (by omega)) (fun b h => .inl h) ⟨HRL3.out.st, HRL3.out.op, HRL3.out.pl⟩ HB3.out (.slice (some ⟨bl, ol, none⟩) n cl) (.slice ad2 D.op.length c2) (.bool false) (.int .i64 (D.steps + 1)) (.slice ad3 D.plan.length c3)
        unfold put5 at hr5 hb5
        refine bodyPost_ret (v := .tuple #[.agg #[.slice (some ⟨bl, ol, none⟩) n cl, .slice ad2 D.op.length c2, .bool false, .int .i64 (D.steps + 1), .slice ad3 D.plan.length c3], .int .i64 11]) (by simp [results, Try.results39, go_sem, g0, g1, g2, g3, g4]) rfl ⟨⟨_, by rw [HM.out], ?_⟩, hb5⟩
        rw [HM.out]
        exact ⟨_, _, _, by (unfold rV; rw [show (tickD D).down = false from Hdn.out]; rfl), hr5⟩
      | false =>
        have HM : Hid (syncD D = (flushD (tickD D), 0)) := by unfold Hid syncD; rw [if_neg (by rw [Hdn.out]; decide), h1]; simp only; rw [if_neg (by rw [hF]; decide)]
        clear h1 hF
        clear b0 b1 b2 b3 b4 g0 g1 g2 g3 g4 f0 f1 f2 f3 f4
        go_upto_region 8 with fail
        have hS : ∀ u : World, readAt u w.heap.size 0 5 = some #[Value.slice (some ⟨bl, ol, none⟩) n cl, .slice ad2 D.op.length c2, .bool false, .int .i64 (D.steps + 1), .slice ad3 D.plan.length c3] → u.cell? ⟨w.heap.size, 0, none⟩ = some (.slice (some ⟨bl, ol, none⟩) n cl) ∧ u.cell? ⟨w.heap.size, 1, none⟩ = some (.slice ad2 D.op.length c2) := fun u hu => ⟨by (have h1 := readAt_cell hu 0 _ rfl; rwa [Nat.zero_add] at h1), by (have h1 := readAt_cell hu 1 _ rfl; rwa [Nat.zero_add] at h1)⟩
        have HS := Lib.hid hS
        clear hS
        refine wp_region_tr (.take 0 (.take 1 (.take 2 (.take 3 (.take 4 (.take 5 (.run 6 (.run 7 (.run 8 (.take 9 (.brk 10 .done))))))))))) (fun u => readAt u w.heap.size 0 5 = some #[Value.slice (some ⟨bl, ol, none⟩) n cl, .slice ad2 D.op.length c2, .bool false, .int .i64 (D.steps + 1), .slice ad3 D.plan.length c3]) (by kernel_rfl) (by kernel_rfl) rfl (by kernel_rfl) H31.out.r ?_
        repeat (first | (refine t_off rfl rfl ?_; simp only [List.getElem_toArray, List.getElem_cons_succ, List.getElem_cons_zero, Act.put, Act.eval, List.setIfInBounds_toArray, List.set_cons_zero, List.set_cons_succ, Array.getD_eq_getD_getElem?, List.getElem?_toArray, List.getElem?_cons_succ, List.getElem?_cons_zero, Option.getD_some]) | (refine t_move rfl _ rfl rfl ?_; simp only [List.getElem_toArray, List.getElem_cons_succ, List.getElem_cons_zero, Act.put, Act.eval, List.setIfInBounds_toArray, List.set_cons_zero, List.set_cons_succ, Array.getD_eq_getD_getElem?, List.getElem?_toArray, List.getElem?_cons_succ, List.getElem?_cons_zero, Option.getD_some]) | (refine t_assign rfl _ rfl rfl ?_; simp only [List.getElem_toArray, List.getElem_cons_succ, List.getElem_cons_zero, Act.put, Act.eval, List.setIfInBounds_toArray, List.set_cons_zero, List.set_cons_succ, Array.getD_eq_getD_getElem?, List.getElem?_toArray, List.getElem?_cons_succ, List.getElem?_cons_zero, Option.getD_some]) | (refine t_val rfl rfl ?_; apply Exists.intro; refine ⟨fun w' hC' => ?_, ?_⟩; (obtain ⟨b0, b1⟩ := HS.out w' hC'; go_simp; (first | done | exact rfl)); simp only [List.getElem_toArray, List.getElem_cons_succ, List.getElem_cons_zero, Act.put, Act.eval, List.setIfInBounds_toArray, List.set_cons_zero, List.set_cons_succ, Array.getD_eq_getD_getElem?, List.getElem?_toArray, List.getElem?_cons_succ, List.getElem?_cons_zero, Option.getD_some]) | (refine p_off rfl rfl ?_; simp only [List.getElem_toArray, List.getElem_cons_succ, List.getElem_cons_zero, Act.put, Act.eval, List.setIfInBounds_toArray, List.set_cons_zero, List.set_cons_succ, Array.getD_eq_getD_getElem?, List.getElem?_toArray, List.getElem?_cons_succ, List.getElem?_cons_zero, Option.getD_some]) | (refine p_val rfl rfl ?_; apply Exists.intro; refine ⟨fun w' => ?_, ?_⟩; (go_simp; (first | done | exact rfl)); simp only [List.getElem_toArray, List.getElem_cons_succ, List.getElem_cons_zero, Act.put, Act.eval, List.setIfInBounds_toArray, List.set_cons_zero, List.set_cons_succ, Array.getD_eq_getD_getElem?, List.getElem?_toArray, List.getElem?_cons_succ, List.getElem?_cons_zero, Option.getD_some]))
        refine r_val rfl rfl ?_; apply Exists.intro; apply Exists.intro; refine ⟨?_, ?_⟩; (go_simp; exact ⟨rfl, rfl⟩)
        refine ⟨_, fun _ h => h, H31.out.r, ?_⟩; simp only [List.getElem_toArray, List.getElem_cons_succ, List.getElem_cons_zero, Act.put, Act.eval, List.setIfInBounds_toArray, List.set_cons_zero, List.set_cons_succ, Array.getD_eq_getD_getElem?, List.getElem?_toArray, List.getElem?_cons_succ, List.getElem?_cons_zero, Option.getD_some]
        refine r_call rfl rfl ?_; apply Exists.intro; apply Exists.intro; refine ⟨?_, ?_⟩; (go_simp; exact ⟨rfl, rfl⟩)
        have hbu : Below w3.heap.size w3 w3.drew := (Below.refl _ _).drew
        refine (whole_any D.op.length _ (by (have := HD.out.few; omega))).mono ?_
        rintro _ w4 ⟨⟨v4, rfl, ho4⟩, hb4⟩
        have hb34 : Below w3.heap.size w3 w4 := bt hbu hb4
        have HB34 := Lib.hid hb34
        have HC4 := Lib.hid (RdS_of_own ho4)
        clear hbu hb4 ho4 hb34
        refine ⟨_, rfl, _, fun _ h => h, (readAt_below HB34.out H31.out.lt 0 5).trans H31.out.r, ?_⟩; simp only [List.getElem_toArray, List.getElem_cons_succ, List.getElem_cons_zero, Act.put, Act.eval, List.setIfInBounds_toArray, List.set_cons_zero, List.set_cons_succ, Array.getD_eq_getD_getElem?, List.getElem?_toArray, List.getElem?_cons_succ, List.getElem?_cons_zero, Option.getD_some]
        refine r_call rfl rfl ?_; apply Exists.intro; apply Exists.intro; refine ⟨?_, ?_⟩; (go_simp; exact ⟨rfl, rfl⟩)
        refine (rcrash_sl bl ol cl _ v4 n D.op.length D.op.length D.st D.op (List.replicate D.op.length 64) w4 hn HD.out.len (Nat.le_trans HD.out.few (by omega)) rfl (by simp) (by (have h1 := HRL3.out.below HB34.out; obtain ⟨b, o, c, h2, _, _, h3, _⟩ := h1.st; cases h2; exact h3)) (HRL3.out.op.below HB34.out).1 HC4.out HD.out.at_).mono ?_
        rintro _ w5 ⟨⟨v5, rfl, ho5⟩, hb5⟩
        have HB35 := Lib.hid (HB34.out.trans (hb5.mono HB34.out.size))
        have HO5 : Hid (Sl w5 (Loc X w.heap.size 2) v5 n (flushD (tickD D)).st) := by
          (have h1 := ho5; rw [crash_whole _ _ _ _ (Nat.le_refl _)] at h1; exact Sl.of_own h1 (fun g hg => by (have h2 := Loc.lt HX.out g hg; have h3 := HB34.out.size; have h4 := HsL3.out; omega)))
        obtain ⟨g5, cap5, rfl, _⟩ := ho5
        clear hb5
        refine ⟨_, rfl, _, fun _ h => h, (readAt_below HB35.out H31.out.lt 0 5).trans H31.out.r, ?_⟩; simp only [List.getElem_toArray, List.getElem_cons_succ, List.getElem_cons_zero, Act.put, Act.eval, List.setIfInBounds_toArray, List.set_cons_zero, List.set_cons_succ, Array.getD_eq_getD_getElem?, List.getElem?_toArray, List.getElem?_cons_succ, List.getElem?_cons_zero, Option.getD_some]
        repeat (first | (refine t_off rfl rfl ?_; simp only [List.getElem_toArray, List.getElem_cons_succ, List.getElem_cons_zero, Act.put, Act.eval, List.setIfInBounds_toArray, List.set_cons_zero, List.set_cons_succ, Array.getD_eq_getD_getElem?, List.getElem?_toArray, List.getElem?_cons_succ, List.getElem?_cons_zero, Option.getD_some]) | (refine t_move rfl _ rfl rfl ?_; simp only [List.getElem_toArray, List.getElem_cons_succ, List.getElem_cons_zero, Act.put, Act.eval, List.setIfInBounds_toArray, List.set_cons_zero, List.set_cons_succ, Array.getD_eq_getD_getElem?, List.getElem?_toArray, List.getElem?_cons_succ, List.getElem?_cons_zero, Option.getD_some]) | (refine t_assign rfl _ rfl rfl ?_; simp only [List.getElem_toArray, List.getElem_cons_succ, List.getElem_cons_zero, Act.put, Act.eval, List.setIfInBounds_toArray, List.set_cons_zero, List.set_cons_succ, Array.getD_eq_getD_getElem?, List.getElem?_toArray, List.getElem?_cons_succ, List.getElem?_cons_zero, Option.getD_some]) | (refine t_val rfl rfl ?_; apply Exists.intro; refine ⟨fun w' hC' => ?_, ?_⟩; (skip; go_simp; (first | done | exact rfl)); simp only [List.getElem_toArray, List.getElem_cons_succ, List.getElem_cons_zero, Act.put, Act.eval, List.setIfInBounds_toArray, List.set_cons_zero, List.set_cons_succ, Array.getD_eq_getD_getElem?, List.getElem?_toArray, List.getElem?_cons_succ, List.getElem?_cons_zero, Option.getD_some]) | (refine p_off rfl rfl ?_; simp only [List.getElem_toArray, List.getElem_cons_succ, List.getElem_cons_zero, Act.put, Act.eval, List.setIfInBounds_toArray, List.set_cons_zero, List.set_cons_succ, Array.getD_eq_getD_getElem?, List.getElem?_toArray, List.getElem?_cons_succ, List.getElem?_cons_zero, Option.getD_some]) | (refine p_val rfl rfl ?_; apply Exists.intro; refine ⟨fun w' => ?_, ?_⟩; (go_simp; (first | done | exact rfl)); simp only [List.getElem_toArray, List.getElem_cons_succ, List.getElem_cons_zero, Act.put, Act.eval, List.setIfInBounds_toArray, List.set_cons_zero, List.set_cons_succ, Array.getD_eq_getD_getElem?, List.getElem?_toArray, List.getElem?_cons_succ, List.getElem?_cons_zero, Option.getD_some]))
        have H51 := Lib.hid (H31.out.below HB35.out)
        have H52 := Lib.hid (H32.out.below HB35.out)
        obtain ⟨c0, -⟩ := H51.out.cells
        obtain ⟨f0, -⟩ := H51.out.free
        refine b_any rfl rfl (fun K hK => ?_)
        go_simp
        refine hK _ _ (fun _ => True) trivial ?_
        clear hK K c0 f0
        try simp only [List.getElem_toArray, List.getElem_cons_succ, List.getElem_cons_zero, Act.put, Act.eval, List.setIfInBounds_toArray, List.set_cons_zero, List.set_cons_succ, Array.getD_eq_getD_getElem?, List.getElem?_toArray, List.getElem?_cons_succ, List.getElem?_cons_zero, Option.getD_some]
        refine t_done ?_
        have l0 : Loc X w.heap.size 2 w.heap.size := .inr ⟨Nat.le_refl _, by omega⟩
        have H61 := Lib.hid (H51.out.set0 (.slice (some ⟨g5, 0, none⟩) n cap5))
        have hk6 : Kb (fun b => b = w.heap.size) w5 (w5.setCell ⟨w.heap.size, 0, none⟩ (.slice (some ⟨g5, 0, none⟩) n cap5)) := (Kb.refl _ _).setC _ _ rfl
        have H62 := Lib.hid (H52.out.kb hk6 (by omega))
        have HB5 : Hid (Below w.heap.size w w5) := HB3.out.trans (HB35.out.mono HB3.out.size)
        have HB6 : Hid (Below w.heap.size w (w5.setCell ⟨w.heap.size, 0, none⟩ (.slice (some ⟨g5, 0, none⟩) n cap5))) := HB5.out.setCell (p := ⟨w.heap.size, 0, none⟩) (Nat.le_refl _) _
        have hkL : Kb (Loc X w.heap.size 2) w5 (w5.setCell ⟨w.heap.size, 0, none⟩ (.slice (some ⟨g5, 0, none⟩) n cap5)) := (Kb.refl _ _).setC _ _ l0
        have HO6 := Lib.hid (HO5.out.kb (X' := Loc X w.heap.size 2) hkL (fun b h => .inl h))
        have HP6 : Hid (PlanR (w5.setCell ⟨w.heap.size, 0, none⟩ (.slice (some ⟨g5, 0, none⟩) n cap5)) (Loc X w.heap.size 2) (.slice ad3 D.plan.length c3) D.plan) := ((HRL3.out.below HB35.out).kb (X' := Loc X w.heap.size 2) (Kb.refl _ _) XI.loc).pl.kb hkL (fun b h => .inl h)
        clear l0 hk6 hkL H51 H52 HB5 HO5
        generalize w5.setCell ⟨w.heap.size, 0, none⟩ (.slice (some ⟨g5, 0, none⟩) n cap5) = w6 at *
        obtain ⟨b0, b1, b2, b3, b4⟩ := H61.out.cells
        obtain ⟨f0, f1, f2, f3, f4⟩ := H61.out.free
        go_upto_region 10 with fail
        have l0 : Loc X w.heap.size 2 w.heap.size := .inr ⟨Nat.le_refl _, by omega⟩
        have H71 := Lib.hid (H61.out.set1 (.slice none 0 0))
        have hk6 : Kb (fun b => b = w.heap.size) w6 (w6.setCell ⟨w.heap.size, 1, none⟩ (.slice none 0 0)) := (Kb.refl _ _).setC _ _ rfl
        have H72 := Lib.hid (H62.out.kb hk6 (by omega))
        have HB7 : Hid (Below w.heap.size w (w6.setCell ⟨w.heap.size, 1, none⟩ (.slice none 0 0))) := HB6.out.setCell (p := ⟨w.heap.size, 1, none⟩) (Nat.le_refl _) _
        have hkL : Kb (Loc X w.heap.size 2) w6 (w6.setCell ⟨w.heap.size, 1, none⟩ (.slice none 0 0)) := (Kb.refl _ _).setC _ _ l0
        have HO7 := Lib.hid (HO6.out.kb (X' := Loc X w.heap.size 2) hkL (fun b h => .inl h))
        have HP7 := Lib.hid (HP6.out.kb (X' := Loc X w.heap.size 2) hkL (fun b h => .inl h))
        have HR7 : Hid (RAt (w6.setCell ⟨w.heap.size, 1, none⟩ (.slice none 0 0)) (Loc X w.heap.size 2) n (flushD (tickD D)) (.slice (some ⟨g5, 0, none⟩) n cap5) (.slice none 0 0) (.slice ad3 D.plan.length c3)) := ⟨HO7.out, RO.nil _ _ _, HP7.out⟩
        clear l0 hk6 hkL H61 H62 HB6 HO6 HP6 b0 b1 b2 b3 b4 f0 f1 f2 f3 f4
        generalize w6.setCell ⟨w.heap.size, 1, none⟩ (.slice none 0 0) = w7 at *
        obtain ⟨b0, b1, b2, b3, b4⟩ := H71.out.cells
        obtain ⟨g0, g1, g2, g3, g4⟩ := H72.out.cells
        obtain ⟨f0, f1, f2, f3, f4⟩ := H72.out.free
        go_wp2
        obtain ⟨hr5, hb5⟩ := rnext_put1 (D' := flushD (tickD D)) (X := X) (Z := Loc X w.heap.size 2) (.inr ⟨by omega, by omega⟩) (fun b h => .inl h) HR7.out HB7.out (.slice (some ⟨g5, 0, none⟩) n cap5) (.slice none 0 0) (.bool false) (.int .i64 (D.steps + 1)) (.slice ad3 D.plan.length c3)
        unfold put5 at hr5 hb5
        refine bodyPost_ret (v := .tuple #[.agg #[.slice (some ⟨g5, 0, none⟩) n cap5, .slice none 0 0, .bool false, .int .i64 (D.steps + 1), .slice ad3 D.plan.length c3], .int .i64 0]) (by simp [results, Try.results39, go_sem, g0, g1, g2, g3, g4]) rfl ⟨⟨_, by rw [HM.out], ?_⟩, hb5⟩
        rw [HM.out]
        exact ⟨_, _, _, by (unfold rV; rw [show (flushD (tickD D)).down = false from Hdn.out]; rfl), hr5⟩
    · have HM : Hid (syncD D = (crashD (tickD D) cs, 12)) := by
        unfold Hid syncD; rw [if_neg (by rw [Hdn.out]; decide), h1]
      have H3 := Lib.hid h3
      clear h1 h3
      go_wp2_with fail
      have hRc := HRL3.out.kb (X' := Loc X w.heap.size 2) (Kb.refl _ _) XI.loc
      have hcall := rdcrash_any w3 (Loc X w.heap.size 2) n (m + 1) (tickD D) _ _ _ cv cs ⟨hRc.st, hRc.op, hRc.pl⟩ (fun g hg => Nat.lt_of_lt_of_le (Loc.lt HX.out g hg) HsL3.out) HD.out.tick (by omega) hn H3.out.1
      unfold rV at hcall
      rw [show (tickD D).down = false from Hdn.out, show (tickD D).steps = D.steps + 1 from rfl] at hcall
      refine hcall.mono ?_
      rintro _ w5 ⟨⟨v5, rfl, a5, b5, c5, rfl, hR5⟩, hb5⟩
      obtain ⟨bl5, ol5, cl5, ad25, ad35, c25, c35, rfl, rfl, rfl⟩ := hR5.open_
      have H52 := Lib.hid (H32.out.below hb5)
      have HB5 := Lib.hid (bt HB3.out hb5)
      have HR5 := Lib.hid hR5
      have hz5 := (H32.out.below hb5).lt
      unfold rV
      clear hcall hRc hb5 hR5 b0 b1 b2 b3 b4 g0 g1 g2 g3 g4 f0 f1 f2 f3 f4
      obtain ⟨g0, g1, g2, g3, g4⟩ := H52.out.cells
      obtain ⟨f0, f1, f2, f3, f4⟩ := H52.out.free
      go_wp2
      obtain ⟨hr6, hb6⟩ := rnext_put1 (D' := crashD (tickD D) cs) (X := X) (Z := Loc X w.heap.size 2) (.inr ⟨by omega, by omega⟩) (fun b h => .inl h) HR5.out HB5.out (.slice (some ⟨bl5, ol5, none⟩) n cl5) (.slice ad25 (crashD (tickD D) cs).op.length c25) (.bool (crashD (tickD D) cs).down) (.int .i64 (crashD (tickD D) cs).steps) (.slice ad35 (crashD (tickD D) cs).plan.length c35)
      unfold put5 at hr6 hb6
      refine bodyPost_ret (v := .tuple #[.agg #[.slice (some ⟨bl5, ol5, none⟩) n cl5, .slice ad25 (crashD (tickD D) cs).op.length c25, .bool (crashD (tickD D) cs).down, .int .i64 (crashD (tickD D) cs).steps, .slice ad35 (crashD (tickD D) cs).plan.length c35], .int .i64 12]) (by simp [results, Try.results39, go_sem, g0, g1, g2, g3, g4]) rfl ⟨⟨_, by rw [HM.out], ?_⟩, hb6⟩
      rw [HM.out]
      exact ⟨_, _, _, rfl, hr6⟩
end Go.Proofs.Ytjedlcfeobhjnaa
