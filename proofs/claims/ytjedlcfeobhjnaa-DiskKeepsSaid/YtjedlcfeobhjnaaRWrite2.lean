/- What Write of the reference's disk computes at a sector that there is. Conditions: the numbers are small. -/
import Derived.Test.YtjedlcfeobhjnaaRWrite
import Derived.Test.YtjedlcfeobhjnaaApp
set_option linter.unusedSimpArgs false
set_option linter.unusedVariables false
namespace Go.Proofs.Ytjedlcfeobhjnaa
open Go.RowKit Go.ChangeMaps

theorem rd_same {w w' : World} {b : Nat} (h : w'.heap[b]? = w.heap[b]?) (o n : Nat) : readAt w' b o n = readAt w b o n := by simp [readAt, h]
theorem wp2_one (p : Int × Sec) : ∀ v ∈ wp2 p, v.oneCell' = true := wv_one p.1 p.2
theorem Loc.mono {X : Nat → Prop} {s q r : Nat} (h : q ≤ r) : ∀ b, Loc X s q b → Loc X s r b := fun b hb => by
  rcases hb with h1 | h1
  · exact .inl h1
  · exact .inr ⟨h1.1, by omega⟩
theorem below_grown {B : Nat} {w u v : World} {row : Option Nat} (hb : Below B w u) (hg : u.grownBy v row) (hB : B ≤ u.heap.size) (hr : ∀ b, row = some b → B ≤ b) : Below B w v :=
  hb.trans ⟨hg.os, hg.tape, hg.output, hg.size, fun k hk => hg.block k (by omega) (fun e => by have := hr k e.symm; omega)⟩
set_option maxRecDepth 100000 in
set_option maxHeartbeats 12800000 in
theorem rdwrite_yes (w : World) (X : Nat → Prop) (n m : Nat) (D : DM) (a b c : Value) (k : Int) (x : Sec) (hR : RAt w X n D a b c) (hX : ∀ g, X g → g < w.heap.size) (hD : OkD D n m) (hm : m + 2 ≤ 100000) (hn : n ≤ 5000) (hpl : D.plan.length ≤ 100000) (hdn : D.down = false) (hh : hasD D k = true) :
    Calls Try.prog 38 #[.agg (rV D a b c), .int .i64 k, .agg (av x)] w fun e w' => (∃ v, e = .returned (.tuple #[v, .int .i64 (writeD D k x).2]) ∧ RNext w' X n (writeD D k x).1 v) ∧ Below w.heap.size w w' := by
  obtain ⟨bl, ol, cl, ad2, ad3, c2, c3, rfl, rfl, rfl⟩ := hR.open_
  unfold rV
  obtain ⟨i0, hi, hz, hs, hby⟩ := info_parts view_Rw
  have HR := Lib.hid hR
  have HX := Lib.hid hX
  have HD := Lib.hid hD
  have Hpl := Lib.hid hpl
  clear hR hX hD hpl
  rw [hdn]
  have Hdn := Lib.hid hdn
  have hkn := hasD_true D n k HD.out.len hh
  have d7 : decide (0 ≤ k) = true := decide_eq_true hkn.1
  have d8 : decide (k < (n : Int)) = true := decide_eq_true hkn.2
  clear hkn
  have Hh := Lib.hid hh
  clear hdn hh
  go_enter Try.func38, Try.ntmps38
  go_wp2_with fail
  obtain ⟨W, hW⟩ : ∃ W, ((w.alloc (.cells #[.slice (some ⟨bl, ol, none⟩) n cl, .slice ad2 D.op.length c2, .bool false, .int .i64 D.steps, .slice ad3 D.plan.length c3] 46)).alloc (.cells (av x) 35)).alloc (.cells #[.slice none 0 0, .slice none 0 0, .bool false, .int .i64 0, .slice none 0 0] 46) = W := ⟨_, rfl⟩
  have hB : Below w.heap.size w W := by rw [← hW]; exact ba _ (ba _ (ba _ (Below.refl _ _)))
  have hC1 : C5 W w.heap.size (.slice (some ⟨bl, ol, none⟩) n cl) (.slice ad2 D.op.length c2) (.bool false) (.int .i64 D.steps) (.slice ad3 D.plan.length c3) := by
    rw [← hW]; exact ((C5.made w _ _ _ _ _ _).below (ba _ (Below.refl _ _))).below (ba _ (Below.refl _ _))
  have hC2 : C5 W (w.heap.size + 1 + 1) (.slice none 0 0) (.slice none 0 0) (.bool false) (.int .i64 0) (.slice none 0 0) := by
    rw [← hW]; have h1 := C5.made ((w.alloc (.cells #[.slice (some ⟨bl, ol, none⟩) n cl, .slice ad2 D.op.length c2, .bool false, .int .i64 D.steps, .slice ad3 D.plan.length c3] 46)).alloc (.cells (av x) 35)) 46 (.slice none 0 0) (.slice none 0 0) (.bool false) (.int .i64 0) (.slice none 0 0); simpa using h1
  have hsW : W.heap.size = w.heap.size + 3 := by rw [← hW]; simp
  have hRL : RAt W (XI X w.heap.size) n D _ _ _ := HR.out.kb (Kb.of_below hB) (fun b hb => hb)
  have hXD : readAt W (w.heap.size + 1) 0 64 = some (av x) := by
    rw [← hW, readAt_alloc_past _ _ _ _ _ (by simp)]; have h1 := readAt_alloc_at (w.alloc (.cells #[.slice (some ⟨bl, ol, none⟩) n cl, .slice ad2 D.op.length c2, .bool false, .int .i64 D.steps, .slice ad3 D.plan.length c3] 46)) (av x) 35 (0, 0) (w.heap.size + 1) 0 64 (by simp) (by simp)
    rw [h1]; simp [go_sem]
  have hst := rstep_any W (XI X w.heap.size) n m D _ _ _ hRL HD.out (by omega) Hpl.out
  unfold rV at hst
  rw [show (tickD D).down = false from Hdn.out, show (tickD D).steps = D.steps + 1 from rfl, Hdn.out] at hst
  rw [hW]
  clear hW
  refine hst.mono ?_
  rintro _ w2 ⟨⟨cr, cv, rfl, hout⟩, hb2⟩
  have HB2 := Lib.hid (bt hB hb2)
  have HRL := Lib.hid (hRL.below hb2)
  have HXD := Lib.hid ((readAt_below hb2 (readAt_lt hXD) 0 64).trans hXD)
  have HsL : Hid (w.heap.size + 3 ≤ w2.heap.size) := by have := hb2.size; show _ ≤ _; omega
  have HC1 := Lib.hid (hC1.below hb2)
  have HC2 := Lib.hid (hC2.below hb2)
  have Hout := Lib.hid hout
  obtain ⟨b0, b1, b2, b3, b4⟩ := HC1.out.cells
  obtain ⟨f0, f1, f2, f3, f4⟩ := HC1.out.free
  clear hst hB hC1 hC2 hb2 hout hRL hsW hXD
  go_upto_region 4 with fail
  have h31 : C5 (put5 w2 w.heap.size (.slice (some ⟨bl, ol, none⟩) n cl) (.slice ad2 D.op.length c2) (.bool false) (.int .i64 (D.steps + 1)) (.slice ad3 D.plan.length c3)) w.heap.size (.slice (some ⟨bl, ol, none⟩) n cl) (.slice ad2 D.op.length c2) (.bool false) (.int .i64 (D.steps + 1)) (.slice ad3 D.plan.length c3) := HC1.out.put (.slice (some ⟨bl, ol, none⟩) n cl) (.slice ad2 D.op.length c2) (.bool false) (.int .i64 (D.steps + 1)) (.slice ad3 D.plan.length c3)
  have hk3 : Kb (fun b => b = w.heap.size) w2 (put5 w2 w.heap.size (.slice (some ⟨bl, ol, none⟩) n cl) (.slice ad2 D.op.length c2) (.bool false) (.int .i64 (D.steps + 1)) (.slice ad3 D.plan.length c3)) := put5_kb w2 w.heap.size (.slice (some ⟨bl, ol, none⟩) n cl) (.slice ad2 D.op.length c2) (.bool false) (.int .i64 (D.steps + 1)) (.slice ad3 D.plan.length c3) rfl
  have h32 : C5 (put5 w2 w.heap.size (.slice (some ⟨bl, ol, none⟩) n cl) (.slice ad2 D.op.length c2) (.bool false) (.int .i64 (D.steps + 1)) (.slice ad3 D.plan.length c3)) (w.heap.size + 1 + 1) (.slice none 0 0) (.slice none 0 0) (.bool false) (.int .i64 0) (.slice none 0 0) := HC2.out.kb hk3 (by omega)
  have hx3 : readAt (put5 w2 w.heap.size (.slice (some ⟨bl, ol, none⟩) n cl) (.slice ad2 D.op.length c2) (.bool false) (.int .i64 (D.steps + 1)) (.slice ad3 D.plan.length c3)) (w.heap.size + 1) 0 64 = some (av x) := (rd_same (hk3.block _ (readAt_lt HXD.out) (by omega)) 0 64).trans HXD.out
  have hb3 : Below w.heap.size w (put5 w2 w.heap.size (.slice (some ⟨bl, ol, none⟩) n cl) (.slice ad2 D.op.length c2) (.bool false) (.int .i64 (D.steps + 1)) (.slice ad3 D.plan.length c3)) := HB2.out.trans (hk3.below (fun b hb => by subst hb; exact Nat.le_refl _) HB2.out.size)
  have hs3 : w2.heap.size ≤ (put5 w2 w.heap.size (.slice (some ⟨bl, ol, none⟩) n cl) (.slice ad2 D.op.length c2) (.bool false) (.int .i64 (D.steps + 1)) (.slice ad3 D.plan.length c3)).heap.size := hk3.size
  unfold put5 at h31 hk3 h32 hb3 hs3 hx3
  generalize (((((w2.setCell ⟨w.heap.size, 0, none⟩ (.slice (some ⟨bl, ol, none⟩) n cl)).setCell ⟨w.heap.size, 1, none⟩ (.slice ad2 D.op.length c2)).setCell ⟨w.heap.size, 2, none⟩ (.bool false)).setCell ⟨w.heap.size, 3, none⟩ (.int .i64 (D.steps + 1))).setCell ⟨w.heap.size, 4, none⟩ (.slice ad3 D.plan.length c3)) = w3 at *
  have H31 := Lib.hid h31
  have HX3 := Lib.hid hx3
  have H32 := Lib.hid h32
  have HB3 := Lib.hid hb3
  have hkL : Kb (XI X w.heap.size) w2 w3 := ⟨hk3.os, hk3.tape, hk3.output, hk3.size, fun k h1 h2 => hk3.block k h1 (fun e => h2 (.inr (by subst e; exact Nat.le_refl _)))⟩
  have Hout3 : Hid (RStepOut w3 (XI X w.heap.size) D cr cv) := Hout.out.kb hkL (fun b h => .inl h)
  have HRL3 := Lib.hid (HRL.out.kb (X' := XI X w.heap.size) hkL (fun b h => .inl h))
  have HsL3 : Hid (w.heap.size + 3 ≤ w3.heap.size) := Nat.le_trans HsL.out hs3
  clear hkL HRL HsL
  clear h31 hk3 h32 hb3 hs3 hx3 HXD b0 b1 b2 b3 b4 f0 f1 f2 f3 f4 HC1 HC2 HB2 Hout
  obtain ⟨b0, b1, b2, b3, b4⟩ := H31.out.cells
  go_upto_region 7 with fail
  have hb4 := ba (.cells #[Value.slice (some ⟨bl, ol, none⟩) n cl, .slice ad2 D.op.length c2, .bool false, .int .i64 (D.steps + 1), .slice ad3 D.plan.length c3] 46) (Below.refl w3.heap.size w3)
  have H41 := Lib.hid (H31.out.below hb4)
  have H42 := Lib.hid (H32.out.below hb4)
  have H43 := Lib.hid (C5.made w3 46 (.slice (some ⟨bl, ol, none⟩) n cl) (.slice ad2 D.op.length c2) (.bool false) (.int .i64 (D.steps + 1)) (.slice ad3 D.plan.length c3))
  have HX4 := Lib.hid ((readAt_below hb4 (readAt_lt HX3.out) 0 64).trans HX3.out)
  have HB4 := Lib.hid (bt HB3.out hb4)
  have HO4 := Lib.hid (Hout3.out.kb (X' := XI X w.heap.size) (Kb.of_below hb4) (fun b h => .inl h))
  have HR4 := Lib.hid (HRL3.out.below hb4)
  have Hs4 : Hid (w.heap.size + 3 ≤ w3.heap.size) := HsL3.out
  clear hb4 b0 b1 b2 b3 b4
  obtain ⟨w4, hw4⟩ : ∃ w4, w3.alloc (.cells #[Value.slice (some ⟨bl, ol, none⟩) n cl, .slice ad2 D.op.length c2, .bool false, .int .i64 (D.steps + 1), .slice ad3 D.plan.length c3] 46) = w4 := ⟨_, rfl⟩
  have HsN : Hid (w4.heap.size = w3.heap.size + 1) := by show _ = _; rw [← hw4]; simp
  rw [hw4] at H41 H42 H43 HX4 HB4 HO4 HR4
  rw [hw4]
  clear hw4
  generalize w3.heap.size = N3 at *
  have hS : ∀ u : World, readAt u w.heap.size 0 5 = some #[Value.slice (some ⟨bl, ol, none⟩) n cl, .slice ad2 D.op.length c2, .bool false, .int .i64 (D.steps + 1), .slice ad3 D.plan.length c3] ∧ readAt u (w.heap.size + 1) 0 64 = some (av x) → u.cell? ⟨w.heap.size, 1, none⟩ = some (.slice ad2 D.op.length c2) ∧ readAt u (w.heap.size + 1) 0 64 = some (av x) := fun u hu => ⟨by (have h1 := readAt_cell hu.1 1 _ rfl; rwa [Nat.zero_add] at h1), hu.2⟩
  have HS := Lib.hid hS
  clear hS
  refine wp_region_tr (.take 1 (.take 2 (.take 4 (.take 5 (.take 6 (.two 0 (.two 3 (.run 7 (.run 8 (.take 9 (.brk 10 .done)))) 7 (.run 3 (.run 8 (.take 9 (.brk 10 .done))))) 7 (.run 0 (.run 3 (.run 8 (.take 9 (.brk 10 .done))))))))))) (fun u => readAt u w.heap.size 0 5 = some #[Value.slice (some ⟨bl, ol, none⟩) n cl, .slice ad2 D.op.length c2, .bool false, .int .i64 (D.steps + 1), .slice ad3 D.plan.length c3] ∧ readAt u (w.heap.size + 1) 0 64 = some (av x)) (by kernel_rfl) (by kernel_rfl) rfl (by kernel_rfl) ⟨H41.out.r, HX4.out⟩ ?_
  repeat (first | (refine t_off rfl rfl ?_; simp only [List.getElem_toArray, List.getElem_cons_succ, List.getElem_cons_zero, Act.put, Act.eval, List.setIfInBounds_toArray, List.set_cons_zero, List.set_cons_succ, Array.getD_eq_getD_getElem?, List.getElem?_toArray, List.getElem?_cons_succ, List.getElem?_cons_zero, Option.getD_some]) | (refine t_move rfl _ rfl rfl ?_; simp only [List.getElem_toArray, List.getElem_cons_succ, List.getElem_cons_zero, Act.put, Act.eval, List.setIfInBounds_toArray, List.set_cons_zero, List.set_cons_succ, Array.getD_eq_getD_getElem?, List.getElem?_toArray, List.getElem?_cons_succ, List.getElem?_cons_zero, Option.getD_some]) | (refine t_assign rfl _ rfl rfl ?_; simp only [List.getElem_toArray, List.getElem_cons_succ, List.getElem_cons_zero, Act.put, Act.eval, List.setIfInBounds_toArray, List.set_cons_zero, List.set_cons_succ, Array.getD_eq_getD_getElem?, List.getElem?_toArray, List.getElem?_cons_succ, List.getElem?_cons_zero, Option.getD_some]) | (refine t_val rfl rfl ?_; apply Exists.intro; refine ⟨fun w' hC' => ?_, ?_⟩; (obtain ⟨b1, hx⟩ := HS.out w' hC'; go_simp; (first | done | exact rfl)); simp only [List.getElem_toArray, List.getElem_cons_succ, List.getElem_cons_zero, Act.put, Act.eval, List.setIfInBounds_toArray, List.set_cons_zero, List.set_cons_succ, Array.getD_eq_getD_getElem?, List.getElem?_toArray, List.getElem?_cons_succ, List.getElem?_cons_zero, Option.getD_some]) | (refine p_off rfl rfl ?_; simp only [List.getElem_toArray, List.getElem_cons_succ, List.getElem_cons_zero, Act.put, Act.eval, List.setIfInBounds_toArray, List.set_cons_zero, List.set_cons_succ, Array.getD_eq_getD_getElem?, List.getElem?_toArray, List.getElem?_cons_succ, List.getElem?_cons_zero, Option.getD_some]) | (refine p_val rfl rfl ?_; apply Exists.intro; refine ⟨fun w' => ?_, ?_⟩; (go_simp; (first | done | exact rfl)); simp only [List.getElem_toArray, List.getElem_cons_succ, List.getElem_cons_zero, Act.put, Act.eval, List.setIfInBounds_toArray, List.set_cons_zero, List.set_cons_succ, Array.getD_eq_getD_getElem?, List.getElem?_toArray, List.getElem?_cons_succ, List.getElem?_cons_zero, Option.getD_some]))
  have HbU : Hid (Below w4.heap.size w4 w4.drew) := (Below.refl _ _).drew
  have HzU : Hid (w4.heap.size ≤ w4.drew.heap.size) := Nat.le_refl _
  have Hfew : Hid (D.op.length ≤ 100000) := by (have := HD.out.few; show _ ≤ _; omega)
  generalize w4.drew = u0 at *
  have HT : Hid (∀ u, Below w4.heap.size w4 u → readAt u w.heap.size 0 5 = some #[Value.slice (some ⟨bl, ol, none⟩) n cl, .slice ad2 D.op.length c2, .bool false, .int .i64 (D.steps + 1), .slice ad3 D.plan.length c3] ∧ readAt u (w.heap.size + 1) 0 64 = some (av x)) := fun u hu => ⟨(readAt_below hu H41.out.lt 0 5).trans H41.out.r, (readAt_below hu (readAt_lt HX4.out) 0 64).trans HX4.out⟩
  refine t_two ?_ ?_
  · have htr := True.intro
    have hbz : (SliceRw 0 #[]).run Try.prog u0 = .ok (.slice (some ⟨u0.heap.size, 0, none⟩) 0 0) (u0.alloc (.cells #[] 92)) := run_buildSlice_zero (P := Try.prog) u0 43 92 i0 Try.underlying43 hi
    refine r_val rfl rfl ?_; apply Exists.intro; apply Exists.intro; refine ⟨?_, ?_⟩; (go_simp; exact ⟨rfl, rfl⟩)
    clear hbz
    have hy := ba (.cells #[] 92) (Below.refl u0.heap.size u0)
    have HBuE1 := Lib.hid (HbU.out.trans (hy.mono HzU.out))
    have HZuE1 : Hid (w4.heap.size ≤ (u0.alloc (.cells #[] 92)).heap.size) := Nat.le_trans HzU.out hy.size
    have HOwn : Hid ((u0.alloc (.cells #[] 92)).ownsRow w4.heap.size 92 65 (.slice (some ⟨u0.heap.size, 0, none⟩) 0 0) 0 []) := World.ownsRow_made (size := 65) u0 #[] 0 HzU.out (by simp [maxLen]) (by simp)
    clear hy HbU HzU
    refine ⟨_, fun _ h => h, HT.out _ HBuE1.out, ?_⟩; simp only [List.getElem_toArray, List.getElem_cons_succ, List.getElem_cons_zero, Act.put, Act.eval, List.setIfInBounds_toArray, List.set_cons_zero, List.set_cons_succ, Array.getD_eq_getD_getElem?, List.getElem?_toArray, List.getElem?_cons_succ, List.getElem?_cons_zero, Option.getD_some]
    generalize u0.alloc (.cells #[] 92) = uE1 at *
    refine t_two ?_ ?_
    · have htr := True.intro
      obtain ⟨vA2, uA2, hrun, hown, hgr, hnn, hloc⟩ := append_src (P := Try.prog) (w := uE1) w4.heap.size 43 43 92 i0 _ 65 72 Try.underlying43 hi hz hs hby (by simp [Value.cells]) (by decide) (Value.slice (some ⟨u0.heap.size, 0, none⟩) 0 0) (0) [] HOwn.out (by intro h; cases h) (.slice ad2 D.op.length c2) D.op.length (flat wp2 D.op) ((HR.out.op.below (HB4.out.trans (HBuE1.out.mono HB4.out.size))).1) (flat_one wp2 wp2_one D.op) (by (have := Hfew.out; simp only [maxLen]; omega)) (by (have := Hfew.out; omega)) HZuE1.out
      have hBuA2 : Below w4.heap.size w4 uA2 := below_grown HBuE1.out hgr HZuE1.out (fun b hb => (HOwn.out.lt b hb).1)
      have HBuA2 := Lib.hid hBuA2
      have HZuA2 : Hid (w4.heap.size ≤ uA2.heap.size) := Nat.le_trans HZuE1.out hgr.size
      refine r_append rfl rfl (.tmp 34) (.tmp 36) 43 rfl _ _ vA2 uA2 rfl rfl hrun ?_
      have HOwn2 := Lib.hid hown
      clear HOwn
      have HOwn := HOwn2
      clear HOwn2
      have HNn := Lib.hid hnn
      clear hrun hown hgr hnn hloc hBuA2 HBuE1 HZuE1
      refine ⟨_, fun _ h => h, HT.out _ HBuA2.out, ?_⟩; simp only [List.getElem_toArray, List.getElem_cons_succ, List.getElem_cons_zero, Act.put, Act.eval, List.setIfInBounds_toArray, List.set_cons_zero, List.set_cons_succ, Array.getD_eq_getD_getElem?, List.getElem?_toArray, List.getElem?_cons_succ, List.getElem?_cons_zero, Option.getD_some]
      have HOwnOld := HOwn
      refine r_val rfl rfl ?_; apply Exists.intro; apply Exists.intro; refine ⟨?_, ?_⟩; (go_simp; exact ⟨rfl, rfl⟩)
      have hy := ba (.cells (wv k x) 92) (Below.refl uA2.heap.size uA2)
      have HBuN3 := Lib.hid (HBuA2.out.trans (hy.mono HZuA2.out))
      have HZuN3 : Hid (w4.heap.size ≤ (uA2.alloc (.cells (wv k x) 92)).heap.size) := Nat.le_trans HZuA2.out hy.size
      have HOuN3 := Lib.hid (ownsRow_below HOwn.out hy)
      clear HOwn
      have HOwn := HOuN3
      clear HOuN3
      have HRdN : Hid (RdS (uA2.alloc (.cells (wv k x) 92)) (.slice (some ⟨uA2.heap.size, 0, none⟩) 1 1) 1 65 (wv k x).toList) := ⟨_, 1, rfl, Nat.le_refl _, by simp [maxLen], by simp, fun h => (by cases h), fun _ => ⟨uA2.heap.size, 0, rfl, by simp [go_sem]⟩⟩
      have HNe : Hid (∀ g, (Value.slice (some ⟨uA2.heap.size, 0, none⟩) 1 1).ownBlock = some g → vA2.ownBlock ≠ some g) := fun g h1 h2 => by (simp only [Value.ownBlock, Option.some.injEq] at h1; have := ownsRow_lt HOwnOld.out g h2; omega)
      clear hy HBuA2 HZuA2
      refine ⟨_, fun _ h => h, HT.out _ HBuN3.out, ?_⟩; simp only [List.getElem_toArray, List.getElem_cons_succ, List.getElem_cons_zero, Act.put, Act.eval, List.setIfInBounds_toArray, List.set_cons_zero, List.set_cons_succ, Array.getD_eq_getD_getElem?, List.getElem?_toArray, List.getElem?_cons_succ, List.getElem?_cons_zero, Option.getD_some]
      generalize uA2.alloc (.cells (wv k x) 92) = uN3 at *
      obtain ⟨vB4, uB4, hrun, hown, hgr, hnn, hloc⟩ := append_src (P := Try.prog) (w := uN3) w4.heap.size 43 43 92 i0 _ 65 72 Try.underlying43 hi hz hs hby (by simp [Value.cells]) (by decide) vA2 (0 + D.op.length) ([] ++ (flat wp2 D.op)) HOwn.out HNn.out (.slice (some ⟨uA2.heap.size, 0, none⟩) 1 1) 1 (wv k x).toList HRdN.out (by simpa using wv_one k x) (by (have := Hfew.out; simp only [maxLen]; omega)) (by (have := Hfew.out; omega)) HZuN3.out
      have hBuB4 : Below w4.heap.size w4 uB4 := below_grown HBuN3.out hgr HZuN3.out (fun b hb => (HOwn.out.lt b hb).1)
      have HBuB4 := Lib.hid hBuB4
      have HZuB4 : Hid (w4.heap.size ≤ uB4.heap.size) := Nat.le_trans HZuN3.out hgr.size
      refine r_append rfl rfl (.tmp 37) (.tmp 41) 43 rfl _ _ vB4 uB4 rfl rfl hrun ?_
      have HOwn2 := Lib.hid hown
      clear HOwn
      have HOwn := HOwn2
      clear HOwn2
      have HNn := Lib.hid hnn
      clear hrun hown hgr hnn hloc hBuB4 HBuN3 HZuN3
      refine ⟨_, fun _ h => h, HT.out _ HBuB4.out, ?_⟩; simp only [List.getElem_toArray, List.getElem_cons_succ, List.getElem_cons_zero, Act.put, Act.eval, List.setIfInBounds_toArray, List.set_cons_zero, List.set_cons_succ, Array.getD_eq_getD_getElem?, List.getElem?_toArray, List.getElem?_cons_succ, List.getElem?_cons_zero, Option.getD_some]
      have hrow : uB4.ownsRow w4.heap.size 92 65 vB4 (D.op ++ [(k, x)]).length (flat wp2 (D.op ++ [(k, x)])) := by (have h1 := HOwn.out; rw [flat_snoc, List.length_append]; simpa [wp2] using h1)
      obtain ⟨ad9, cap9, e9, _⟩ := RdS_of_own hrow
      rw [show (D.op ++ [(k, x)]).length = D.op.length + 1 from by simp] at e9
      subst e9
      have Hrow := Lib.hid hrow
      have H53 : Hid (C5 uB4 N3 (.slice (some ⟨bl, ol, none⟩) n cl) (.slice ad2 D.op.length c2) (.bool false) (.int .i64 (D.steps + 1)) (.slice ad3 D.plan.length c3)) := H43.out.same (HBuB4.out.block N3 (by (have := HsN.out; omega)))
      have H51 : Hid (C5 uB4 w.heap.size (.slice (some ⟨bl, ol, none⟩) n cl) (.slice ad2 D.op.length c2) (.bool false) (.int .i64 (D.steps + 1)) (.slice ad3 D.plan.length c3)) := H41.out.same (HBuB4.out.block _ H41.out.lt)
      have H52 := Lib.hid (H42.out.same (w' := uB4) (HBuB4.out.block _ H42.out.lt))
      have HB5 : Hid (Below w.heap.size w uB4) := HB4.out.trans (HBuB4.out.mono HB4.out.size)
      have HB5b := Lib.hid HBuB4.out
      clear hrow HOwn
      repeat (first | (refine t_off rfl rfl ?_; simp only [List.getElem_toArray, List.getElem_cons_succ, List.getElem_cons_zero, Act.put, Act.eval, List.setIfInBounds_toArray, List.set_cons_zero, List.set_cons_succ, Array.getD_eq_getD_getElem?, List.getElem?_toArray, List.getElem?_cons_succ, List.getElem?_cons_zero, Option.getD_some]) | (refine t_move rfl _ rfl rfl ?_; simp only [List.getElem_toArray, List.getElem_cons_succ, List.getElem_cons_zero, Act.put, Act.eval, List.setIfInBounds_toArray, List.set_cons_zero, List.set_cons_succ, Array.getD_eq_getD_getElem?, List.getElem?_toArray, List.getElem?_cons_succ, List.getElem?_cons_zero, Option.getD_some]) | (refine t_assign rfl _ rfl rfl ?_; simp only [List.getElem_toArray, List.getElem_cons_succ, List.getElem_cons_zero, Act.put, Act.eval, List.setIfInBounds_toArray, List.set_cons_zero, List.set_cons_succ, Array.getD_eq_getD_getElem?, List.getElem?_toArray, List.getElem?_cons_succ, List.getElem?_cons_zero, Option.getD_some]) | (refine t_val rfl rfl ?_; apply Exists.intro; refine ⟨fun w' hC' => ?_, ?_⟩; (skip; go_simp; (first | done | exact rfl)); simp only [List.getElem_toArray, List.getElem_cons_succ, List.getElem_cons_zero, Act.put, Act.eval, List.setIfInBounds_toArray, List.set_cons_zero, List.set_cons_succ, Array.getD_eq_getD_getElem?, List.getElem?_toArray, List.getElem?_cons_succ, List.getElem?_cons_zero, Option.getD_some]) | (refine p_off rfl rfl ?_; simp only [List.getElem_toArray, List.getElem_cons_succ, List.getElem_cons_zero, Act.put, Act.eval, List.setIfInBounds_toArray, List.set_cons_zero, List.set_cons_succ, Array.getD_eq_getD_getElem?, List.getElem?_toArray, List.getElem?_cons_succ, List.getElem?_cons_zero, Option.getD_some]) | (refine p_val rfl rfl ?_; apply Exists.intro; refine ⟨fun w' => ?_, ?_⟩; (go_simp; (first | done | exact rfl)); simp only [List.getElem_toArray, List.getElem_cons_succ, List.getElem_cons_zero, Act.put, Act.eval, List.setIfInBounds_toArray, List.set_cons_zero, List.set_cons_succ, Array.getD_eq_getD_getElem?, List.getElem?_toArray, List.getElem?_cons_succ, List.getElem?_cons_zero, Option.getD_some]))
      obtain ⟨-, c1, -⟩ := H53.out.cells
      obtain ⟨-, f1, -⟩ := H53.out.free
      refine b_any rfl rfl (fun K hK => ?_)
      go_simp
      refine hK _ _ (fun _ => True) trivial ?_
      clear hK K c1 f1
      try simp only [List.getElem_toArray, List.getElem_cons_succ, List.getElem_cons_zero, Act.put, Act.eval, List.setIfInBounds_toArray, List.set_cons_zero, List.set_cons_succ, Array.getD_eq_getD_getElem?, List.getElem?_toArray, List.getElem?_cons_succ, List.getElem?_cons_zero, Option.getD_some]
      refine t_done ?_
      have hk6 : Kb (fun b => b = N3) uB4 (uB4.setCell ⟨N3, 1, none⟩ (.slice ad9 (D.op.length + 1) cap9)) := (Kb.refl _ _).setC _ _ rfl
      have H63 := Lib.hid (H53.out.set1 (.slice ad9 (D.op.length + 1) cap9))
      have H61 := Lib.hid (H51.out.kb hk6 (by (have := Hs4.out; omega)))
      have H62 := Lib.hid (H52.out.kb hk6 (by (have := Hs4.out; omega)))
      have HB6 : Hid (Below w.heap.size w (uB4.setCell ⟨N3, 1, none⟩ (.slice ad9 (D.op.length + 1) cap9))) := HB5.out.trans (hk6.below (fun b h => by (subst h; have := Hs4.out; omega)) HB5.out.size)
      have HkI : Hid (Kb (XI X w.heap.size) w4 (uB4.setCell ⟨N3, 1, none⟩ (.slice ad9 (D.op.length + 1) cap9))) := (Kb.of_below (X := XI X w.heap.size) HB5b.out).trans (Y := fun b => b = N3) hk6 (fun i hi => .inl (.inr (by (subst hi; have := Hs4.out; omega))))
      have HO6 := Lib.hid (HO4.out.kb (X' := XI X w.heap.size) HkI.out (fun b h => .inl h))
      have HR6 := Lib.hid (HR4.out.kb (X' := XI X w.heap.size) HkI.out (fun b h => .inl h))
      have hq : ∀ b, Loc X w.heap.size (w4.heap.size - w.heap.size) b → b < w4.heap.size := fun b hb => by (have h1 := Loc.lt HX.out b hb; have h2 := HB4.out.size; omega)
      have HRop : Hid (RO (uB4.setCell ⟨N3, 1, none⟩ (.slice ad9 (D.op.length + 1) cap9)) (Loc X w.heap.size (w4.heap.size - w.heap.size)) (.slice ad9 (D.op.length + 1) cap9) (D.op ++ [(k, x)]).length 65 (flat wp2 (D.op ++ [(k, x)]))) := (RO.of_own Hrow.out hq).kb (hk6.trans (Y := fun b => b = N3) (Kb.refl _ _) (fun i hi => .inl hi) |> fun h => ⟨h.os, h.tape, h.output, h.size, fun b h1 h2 => h.block b h1 (fun e => h2 (.inr (by (subst e; have h3 := Hs4.out; have h4 := HsN.out; omega))))⟩) (fun b h => .inl h)
      have Hsz6 : Hid (w4.heap.size ≤ (uB4.setCell ⟨N3, 1, none⟩ (.slice ad9 (D.op.length + 1) cap9)).heap.size) := Nat.le_trans HB5b.out.size hk6.size
      clear hk6 hq H51 H52 H53 HB5 HB5b Hrow HkI HBuB4 HZuB4
      generalize uB4.setCell ⟨N3, 1, none⟩ (.slice ad9 (D.op.length + 1) cap9) = w6 at *
      have Hadd : Hid (addD (tickD D) k x = { tickD D with op := D.op ++ [(k, x)] }) := by (show _ = _; unfold addD; rw [if_pos (by rw [hasD_tick]; exact Hh.out)]; rfl)
      have HRL6 : Hid (RAt w6 (Loc X w.heap.size (w4.heap.size - w.heap.size)) n { tickD D with op := D.op ++ [(k, x)] } (.slice (some ⟨bl, ol, none⟩) n cl) (.slice ad9 (D.op.length + 1) cap9) (.slice ad3 D.plan.length c3)) := (by (have h1 := HR6.out.kb (X' := Loc X w.heap.size (w4.heap.size - w.heap.size)) (Kb.refl _ _) XI.loc; exact ⟨h1.st, HRop.out, h1.pl⟩))
      have HOk2 : Hid (OkD { tickD D with op := D.op ++ [(k, x)] } n (m + 2)) := by (have h1 := HD.out.tick.add k x; rw [Hadd.out] at h1; exact h1)
      have hzL : Loc X w.heap.size (w4.heap.size - w.heap.size) (w.heap.size + 1 + 1) := .inr ⟨by omega, by (have h1 := Hs4.out; have h2 := HsN.out; omega)⟩
      have HzL := Lib.hid hzL
      clear hzL
      obtain ⟨b0, b1, b2, b3, b4⟩ := H61.out.cells
      obtain ⟨g0, g1, g2, g3, g4⟩ := H62.out.cells
      obtain ⟨f0, f1, f2, f3, f4⟩ := H62.out.free
      obtain ⟨e0, e1, e2, e3, e4⟩ := H63.out.cells
      rcases HO6.out with ⟨h1, rfl, rfl⟩ | ⟨cs, h1, rfl, h3, h5⟩
      · cases hF : evF D.plan (D.steps + 1) with
        | true =>
          have HM : Hid (writeD D k x = (tickD D, 11)) := by unfold Hid writeD; rw [if_neg (by rw [Hdn.out]; decide), h1]; simp only; rw [if_pos hF]
          clear h1 hF
          go_wp2
          obtain ⟨hr7, hb7⟩ := rnext_put (D' := tickD D) (X := X) (Z := XI X w.heap.size) (.inr (by omega)) (fun b h => .inl h) ⟨HR6.out.st, HR6.out.op, HR6.out.pl⟩ HB6.out (.slice (some ⟨bl, ol, none⟩) n cl) (.slice ad2 D.op.length c2) (.bool false) (.int .i64 (D.steps + 1)) (.slice ad3 D.plan.length c3)
          unfold put5 at hr7 hb7
          refine bodyPost_ret (v := .tuple #[.agg #[Value.slice (some ⟨bl, ol, none⟩) n cl, .slice ad2 D.op.length c2, .bool false, .int .i64 (D.steps + 1), .slice ad3 D.plan.length c3], .int .i64 11]) (by simp [results, Try.results38, go_sem, g0, g1, g2, g3, g4]) rfl ⟨⟨_, by rw [HM.out], ?_⟩, hb7⟩
          rw [HM.out]
          exact ⟨_, _, _, by (unfold rV; rw [show (tickD D).down = false from Hdn.out]; rfl), hr7⟩
        | false =>
          have HM : Hid (writeD D k x = ({ tickD D with op := D.op ++ [(k, x)] }, 0)) := by unfold Hid writeD; rw [if_neg (by rw [Hdn.out]; decide), h1]; simp only; rw [if_neg (by rw [hF]; decide), if_pos Hh.out, Hadd.out]
          clear h1 hF
          go_wp2
          obtain ⟨hr7, hb7⟩ := rnext_put (D' := { tickD D with op := D.op ++ [(k, x)] }) (X := X) (Z := Loc X w.heap.size (w4.heap.size - w.heap.size)) HzL.out (fun b h => .inl h) HRL6.out HB6.out (.slice (some ⟨bl, ol, none⟩) n cl) (.slice ad9 (D.op.length + 1) cap9) (.bool false) (.int .i64 (D.steps + 1)) (.slice ad3 D.plan.length c3)
          unfold put5 at hr7 hb7
          refine bodyPost_ret (v := .tuple #[.agg #[Value.slice (some ⟨bl, ol, none⟩) n cl, .slice ad9 (D.op.length + 1) cap9, .bool false, .int .i64 (D.steps + 1), .slice ad3 D.plan.length c3], .int .i64 0]) (by simp [results, Try.results38, go_sem, g0, g1, g2, g3, g4]) rfl ⟨⟨_, by rw [HM.out], ?_⟩, hb7⟩
          rw [HM.out]
          exact ⟨_, _, _, by (unfold rV; rw [show (tickD D).down = false from Hdn.out]; rfl), hr7⟩
      · have HM : Hid (writeD D k x = (crashD { tickD D with op := D.op ++ [(k, x)] } cs, 12)) := by
          unfold Hid writeD; rw [if_neg (by rw [Hdn.out]; decide), h1]; simp only; rw [Hadd.out]
        have H3 := Lib.hid h3
        clear h1 h3
        go_wp2_with fail
        have hcall := rdcrash_any w6 (Loc X w.heap.size (w4.heap.size - w.heap.size)) n (m + 2) { tickD D with op := D.op ++ [(k, x)] } _ _ _ cv cs HRL6.out (fun g hg => (by (have h1 := Loc.lt HX.out g hg; have h2 := HB4.out.size; have h3 := Hsz6.out; omega))) HOk2.out (by omega) hn H3.out.1
        generalize hDc : crashD { tickD D with op := D.op ++ [(k, x)] } cs = Dc at hcall HM
        unfold rV at hcall
        simp only at hcall
        rw [show (tickD D).down = false from Hdn.out, show (tickD D).steps = D.steps + 1 from rfl] at hcall
        refine hcall.mono ?_
        rintro _ w7 ⟨⟨v7, rfl, a7, b7, c7, rfl, hR7⟩, hb7⟩
        obtain ⟨bl7, ol7, cl7, ad27, ad37, c27, c37, rfl, rfl, rfl⟩ := hR7.open_
        have H72 := Lib.hid (H62.out.below hb7)
        have HB7 := Lib.hid (bt HB6.out hb7)
        have HR7 := Lib.hid hR7
        have hz7 := (H62.out.below hb7).lt
        unfold rV
        clear hcall hb7 hR7 b0 b1 b2 b3 b4 g0 g1 g2 g3 g4 f0 f1 f2 f3 f4 e0 e1 e2 e3 e4
        obtain ⟨g0, g1, g2, g3, g4⟩ := H72.out.cells
        obtain ⟨f0, f1, f2, f3, f4⟩ := H72.out.free
        go_wp2
        obtain ⟨hr8, hb8⟩ := rnext_put (D' := Dc) (X := X) (Z := Loc X w.heap.size (w4.heap.size - w.heap.size)) HzL.out (fun b h => .inl h) HR7.out HB7.out (.slice (some ⟨bl7, ol7, none⟩) n cl7) (.slice ad27 Dc.op.length c27) (.bool Dc.down) (.int .i64 Dc.steps) (.slice ad37 Dc.plan.length c37)
        unfold put5 at hr8 hb8
        refine bodyPost_ret (v := .tuple #[.agg #[.slice (some ⟨bl7, ol7, none⟩) n cl7, .slice ad27 Dc.op.length c27, .bool Dc.down, .int .i64 Dc.steps, .slice ad37 Dc.plan.length c37], .int .i64 12]) (by simp [results, Try.results38, go_sem, g0, g1, g2, g3, g4]) rfl ⟨⟨_, by rw [HM.out], ?_⟩, hb8⟩
        rw [HM.out]
        exact ⟨_, _, _, rfl, hr8⟩
    · have htr := True.intro
      have HOwnOld := HOwn
      refine r_val rfl rfl ?_; apply Exists.intro; apply Exists.intro; refine ⟨?_, ?_⟩; (go_simp; exact ⟨rfl, rfl⟩)
      have hy := ba (.cells (wv k x) 92) (Below.refl uE1.heap.size uE1)
      have HBuN2 := Lib.hid (HBuE1.out.trans (hy.mono HZuE1.out))
      have HZuN2 : Hid (w4.heap.size ≤ (uE1.alloc (.cells (wv k x) 92)).heap.size) := Nat.le_trans HZuE1.out hy.size
      have HOuN2 := Lib.hid (ownsRow_below HOwn.out hy)
      clear HOwn
      have HOwn := HOuN2
      clear HOuN2
      have HRdN : Hid (RdS (uE1.alloc (.cells (wv k x) 92)) (.slice (some ⟨uE1.heap.size, 0, none⟩) 1 1) 1 65 (wv k x).toList) := ⟨_, 1, rfl, Nat.le_refl _, by simp [maxLen], by simp, fun h => (by cases h), fun _ => ⟨uE1.heap.size, 0, rfl, by simp [go_sem]⟩⟩
      have HNe : Hid (∀ g, (Value.slice (some ⟨uE1.heap.size, 0, none⟩) 1 1).ownBlock = some g → (Value.slice (some ⟨u0.heap.size, 0, none⟩) 0 0).ownBlock ≠ some g) := fun g h1 h2 => by (simp only [Value.ownBlock, Option.some.injEq] at h1; have := ownsRow_lt HOwnOld.out g h2; omega)
      clear hy HBuE1 HZuE1
      refine ⟨_, fun _ h => h, HT.out _ HBuN2.out, ?_⟩; simp only [List.getElem_toArray, List.getElem_cons_succ, List.getElem_cons_zero, Act.put, Act.eval, List.setIfInBounds_toArray, List.set_cons_zero, List.set_cons_succ, Array.getD_eq_getD_getElem?, List.getElem?_toArray, List.getElem?_cons_succ, List.getElem?_cons_zero, Option.getD_some]
      generalize uE1.alloc (.cells (wv k x) 92) = uN2 at *
      obtain ⟨vA3, uA3, hrun, hown, hgr, hnn, hloc⟩ := append_src (P := Try.prog) (w := uN2) w4.heap.size 43 43 92 i0 _ 65 72 Try.underlying43 hi hz hs hby (by simp [Value.cells]) (by decide) (Value.slice (some ⟨u0.heap.size, 0, none⟩) 0 0) (0) [] HOwn.out (by intro h; cases h) (.slice ad2 D.op.length c2) D.op.length (flat wp2 D.op) ((HR.out.op.below (HB4.out.trans (HBuN2.out.mono HB4.out.size))).1) (flat_one wp2 wp2_one D.op) (by (have := Hfew.out; simp only [maxLen]; omega)) (by (have := Hfew.out; omega)) HZuN2.out
      have hBuA3 : Below w4.heap.size w4 uA3 := below_grown HBuN2.out hgr HZuN2.out (fun b hb => (HOwn.out.lt b hb).1)
      have HBuA3 := Lib.hid hBuA3
      have HZuA3 : Hid (w4.heap.size ≤ uA3.heap.size) := Nat.le_trans HZuN2.out hgr.size
      refine r_append rfl rfl (.tmp 34) (.tmp 36) 43 rfl _ _ vA3 uA3 rfl rfl hrun ?_
      have HRdN2 := Lib.hid (HRdN.out.same (w' := uA3) (fun g hg hl => hgr.block g hl (fun e => HNe.out g hg e.symm)))
      clear HRdN HNe
      have HRdN := HRdN2
      clear HRdN2
      have HOwn2 := Lib.hid hown
      clear HOwn
      have HOwn := HOwn2
      clear HOwn2
      have HNn := Lib.hid hnn
      clear hrun hown hgr hnn hloc hBuA3 HBuN2 HZuN2
      refine ⟨_, fun _ h => h, HT.out _ HBuA3.out, ?_⟩; simp only [List.getElem_toArray, List.getElem_cons_succ, List.getElem_cons_zero, Act.put, Act.eval, List.setIfInBounds_toArray, List.set_cons_zero, List.set_cons_succ, Array.getD_eq_getD_getElem?, List.getElem?_toArray, List.getElem?_cons_succ, List.getElem?_cons_zero, Option.getD_some]
      obtain ⟨vB4, uB4, hrun, hown, hgr, hnn, hloc⟩ := append_src (P := Try.prog) (w := uA3) w4.heap.size 43 43 92 i0 _ 65 72 Try.underlying43 hi hz hs hby (by simp [Value.cells]) (by decide) vA3 (0 + D.op.length) ([] ++ (flat wp2 D.op)) HOwn.out HNn.out (.slice (some ⟨uE1.heap.size, 0, none⟩) 1 1) 1 (wv k x).toList HRdN.out (by simpa using wv_one k x) (by (have := Hfew.out; simp only [maxLen]; omega)) (by (have := Hfew.out; omega)) HZuA3.out
      have hBuB4 : Below w4.heap.size w4 uB4 := below_grown HBuA3.out hgr HZuA3.out (fun b hb => (HOwn.out.lt b hb).1)
      have HBuB4 := Lib.hid hBuB4
      have HZuB4 : Hid (w4.heap.size ≤ uB4.heap.size) := Nat.le_trans HZuA3.out hgr.size
      refine r_append rfl rfl (.tmp 37) (.tmp 41) 43 rfl _ _ vB4 uB4 rfl rfl hrun ?_
      have HOwn2 := Lib.hid hown
      clear HOwn
      have HOwn := HOwn2
      clear HOwn2
      have HNn := Lib.hid hnn
      clear hrun hown hgr hnn hloc hBuB4 HBuA3 HZuA3
      refine ⟨_, fun _ h => h, HT.out _ HBuB4.out, ?_⟩; simp only [List.getElem_toArray, List.getElem_cons_succ, List.getElem_cons_zero, Act.put, Act.eval, List.setIfInBounds_toArray, List.set_cons_zero, List.set_cons_succ, Array.getD_eq_getD_getElem?, List.getElem?_toArray, List.getElem?_cons_succ, List.getElem?_cons_zero, Option.getD_some]
      have hrow : uB4.ownsRow w4.heap.size 92 65 vB4 (D.op ++ [(k, x)]).length (flat wp2 (D.op ++ [(k, x)])) := by (have h1 := HOwn.out; rw [flat_snoc, List.length_append]; simpa [wp2] using h1)
      obtain ⟨ad9, cap9, e9, _⟩ := RdS_of_own hrow
      rw [show (D.op ++ [(k, x)]).length = D.op.length + 1 from by simp] at e9
      subst e9
      have Hrow := Lib.hid hrow
      have H53 : Hid (C5 uB4 N3 (.slice (some ⟨bl, ol, none⟩) n cl) (.slice ad2 D.op.length c2) (.bool false) (.int .i64 (D.steps + 1)) (.slice ad3 D.plan.length c3)) := H43.out.same (HBuB4.out.block N3 (by (have := HsN.out; omega)))
      have H51 : Hid (C5 uB4 w.heap.size (.slice (some ⟨bl, ol, none⟩) n cl) (.slice ad2 D.op.length c2) (.bool false) (.int .i64 (D.steps + 1)) (.slice ad3 D.plan.length c3)) := H41.out.same (HBuB4.out.block _ H41.out.lt)
      have H52 := Lib.hid (H42.out.same (w' := uB4) (HBuB4.out.block _ H42.out.lt))
      have HB5 : Hid (Below w.heap.size w uB4) := HB4.out.trans (HBuB4.out.mono HB4.out.size)
      have HB5b := Lib.hid HBuB4.out
      clear hrow HOwn
      repeat (first | (refine t_off rfl rfl ?_; simp only [List.getElem_toArray, List.getElem_cons_succ, List.getElem_cons_zero, Act.put, Act.eval, List.setIfInBounds_toArray, List.set_cons_zero, List.set_cons_succ, Array.getD_eq_getD_getElem?, List.getElem?_toArray, List.getElem?_cons_succ, List.getElem?_cons_zero, Option.getD_some]) | (refine t_move rfl _ rfl rfl ?_; simp only [List.getElem_toArray, List.getElem_cons_succ, List.getElem_cons_zero, Act.put, Act.eval, List.setIfInBounds_toArray, List.set_cons_zero, List.set_cons_succ, Array.getD_eq_getD_getElem?, List.getElem?_toArray, List.getElem?_cons_succ, List.getElem?_cons_zero, Option.getD_some]) | (refine t_assign rfl _ rfl rfl ?_; simp only [List.getElem_toArray, List.getElem_cons_succ, List.getElem_cons_zero, Act.put, Act.eval, List.setIfInBounds_toArray, List.set_cons_zero, List.set_cons_succ, Array.getD_eq_getD_getElem?, List.getElem?_toArray, List.getElem?_cons_succ, List.getElem?_cons_zero, Option.getD_some]) | (refine t_val rfl rfl ?_; apply Exists.intro; refine ⟨fun w' hC' => ?_, ?_⟩; (skip; go_simp; (first | done | exact rfl)); simp only [List.getElem_toArray, List.getElem_cons_succ, List.getElem_cons_zero, Act.put, Act.eval, List.setIfInBounds_toArray, List.set_cons_zero, List.set_cons_succ, Array.getD_eq_getD_getElem?, List.getElem?_toArray, List.getElem?_cons_succ, List.getElem?_cons_zero, Option.getD_some]) | (refine p_off rfl rfl ?_; simp only [List.getElem_toArray, List.getElem_cons_succ, List.getElem_cons_zero, Act.put, Act.eval, List.setIfInBounds_toArray, List.set_cons_zero, List.set_cons_succ, Array.getD_eq_getD_getElem?, List.getElem?_toArray, List.getElem?_cons_succ, List.getElem?_cons_zero, Option.getD_some]) | (refine p_val rfl rfl ?_; apply Exists.intro; refine ⟨fun w' => ?_, ?_⟩; (go_simp; (first | done | exact rfl)); simp only [List.getElem_toArray, List.getElem_cons_succ, List.getElem_cons_zero, Act.put, Act.eval, List.setIfInBounds_toArray, List.set_cons_zero, List.set_cons_succ, Array.getD_eq_getD_getElem?, List.getElem?_toArray, List.getElem?_cons_succ, List.getElem?_cons_zero, Option.getD_some]))
      obtain ⟨-, c1, -⟩ := H53.out.cells
      obtain ⟨-, f1, -⟩ := H53.out.free
      refine b_any rfl rfl (fun K hK => ?_)
      go_simp
      refine hK _ _ (fun _ => True) trivial ?_
      clear hK K c1 f1
      try simp only [List.getElem_toArray, List.getElem_cons_succ, List.getElem_cons_zero, Act.put, Act.eval, List.setIfInBounds_toArray, List.set_cons_zero, List.set_cons_succ, Array.getD_eq_getD_getElem?, List.getElem?_toArray, List.getElem?_cons_succ, List.getElem?_cons_zero, Option.getD_some]
      refine t_done ?_
      have hk6 : Kb (fun b => b = N3) uB4 (uB4.setCell ⟨N3, 1, none⟩ (.slice ad9 (D.op.length + 1) cap9)) := (Kb.refl _ _).setC _ _ rfl
      have H63 := Lib.hid (H53.out.set1 (.slice ad9 (D.op.length + 1) cap9))
      have H61 := Lib.hid (H51.out.kb hk6 (by (have := Hs4.out; omega)))
      have H62 := Lib.hid (H52.out.kb hk6 (by (have := Hs4.out; omega)))
      have HB6 : Hid (Below w.heap.size w (uB4.setCell ⟨N3, 1, none⟩ (.slice ad9 (D.op.length + 1) cap9))) := HB5.out.trans (hk6.below (fun b h => by (subst h; have := Hs4.out; omega)) HB5.out.size)
      have HkI : Hid (Kb (XI X w.heap.size) w4 (uB4.setCell ⟨N3, 1, none⟩ (.slice ad9 (D.op.length + 1) cap9))) := (Kb.of_below (X := XI X w.heap.size) HB5b.out).trans (Y := fun b => b = N3) hk6 (fun i hi => .inl (.inr (by (subst hi; have := Hs4.out; omega))))
      have HO6 := Lib.hid (HO4.out.kb (X' := XI X w.heap.size) HkI.out (fun b h => .inl h))
      have HR6 := Lib.hid (HR4.out.kb (X' := XI X w.heap.size) HkI.out (fun b h => .inl h))
      have hq : ∀ b, Loc X w.heap.size (w4.heap.size - w.heap.size) b → b < w4.heap.size := fun b hb => by (have h1 := Loc.lt HX.out b hb; have h2 := HB4.out.size; omega)
      have HRop : Hid (RO (uB4.setCell ⟨N3, 1, none⟩ (.slice ad9 (D.op.length + 1) cap9)) (Loc X w.heap.size (w4.heap.size - w.heap.size)) (.slice ad9 (D.op.length + 1) cap9) (D.op ++ [(k, x)]).length 65 (flat wp2 (D.op ++ [(k, x)]))) := (RO.of_own Hrow.out hq).kb (hk6.trans (Y := fun b => b = N3) (Kb.refl _ _) (fun i hi => .inl hi) |> fun h => ⟨h.os, h.tape, h.output, h.size, fun b h1 h2 => h.block b h1 (fun e => h2 (.inr (by (subst e; have h3 := Hs4.out; have h4 := HsN.out; omega))))⟩) (fun b h => .inl h)
      have Hsz6 : Hid (w4.heap.size ≤ (uB4.setCell ⟨N3, 1, none⟩ (.slice ad9 (D.op.length + 1) cap9)).heap.size) := Nat.le_trans HB5b.out.size hk6.size
      clear hk6 hq H51 H52 H53 HB5 HB5b Hrow HkI HBuB4 HZuB4
      generalize uB4.setCell ⟨N3, 1, none⟩ (.slice ad9 (D.op.length + 1) cap9) = w6 at *
      have Hadd : Hid (addD (tickD D) k x = { tickD D with op := D.op ++ [(k, x)] }) := by (show _ = _; unfold addD; rw [if_pos (by rw [hasD_tick]; exact Hh.out)]; rfl)
      have HRL6 : Hid (RAt w6 (Loc X w.heap.size (w4.heap.size - w.heap.size)) n { tickD D with op := D.op ++ [(k, x)] } (.slice (some ⟨bl, ol, none⟩) n cl) (.slice ad9 (D.op.length + 1) cap9) (.slice ad3 D.plan.length c3)) := (by (have h1 := HR6.out.kb (X' := Loc X w.heap.size (w4.heap.size - w.heap.size)) (Kb.refl _ _) XI.loc; exact ⟨h1.st, HRop.out, h1.pl⟩))
      have HOk2 : Hid (OkD { tickD D with op := D.op ++ [(k, x)] } n (m + 2)) := by (have h1 := HD.out.tick.add k x; rw [Hadd.out] at h1; exact h1)
      have hzL : Loc X w.heap.size (w4.heap.size - w.heap.size) (w.heap.size + 1 + 1) := .inr ⟨by omega, by (have h1 := Hs4.out; have h2 := HsN.out; omega)⟩
      have HzL := Lib.hid hzL
      clear hzL
      obtain ⟨b0, b1, b2, b3, b4⟩ := H61.out.cells
      obtain ⟨g0, g1, g2, g3, g4⟩ := H62.out.cells
      obtain ⟨f0, f1, f2, f3, f4⟩ := H62.out.free
      obtain ⟨e0, e1, e2, e3, e4⟩ := H63.out.cells
      rcases HO6.out with ⟨h1, rfl, rfl⟩ | ⟨cs, h1, rfl, h3, h5⟩
      · cases hF : evF D.plan (D.steps + 1) with
        | true =>
          have HM : Hid (writeD D k x = (tickD D, 11)) := by unfold Hid writeD; rw [if_neg (by rw [Hdn.out]; decide), h1]; simp only; rw [if_pos hF]
          clear h1 hF
          go_wp2
          obtain ⟨hr7, hb7⟩ := rnext_put (D' := tickD D) (X := X) (Z := XI X w.heap.size) (.inr (by omega)) (fun b h => .inl h) ⟨HR6.out.st, HR6.out.op, HR6.out.pl⟩ HB6.out (.slice (some ⟨bl, ol, none⟩) n cl) (.slice ad2 D.op.length c2) (.bool false) (.int .i64 (D.steps + 1)) (.slice ad3 D.plan.length c3)
          unfold put5 at hr7 hb7
          refine bodyPost_ret (v := .tuple #[.agg #[Value.slice (some ⟨bl, ol, none⟩) n cl, .slice ad2 D.op.length c2, .bool false, .int .i64 (D.steps + 1), .slice ad3 D.plan.length c3], .int .i64 11]) (by simp [results, Try.results38, go_sem, g0, g1, g2, g3, g4]) rfl ⟨⟨_, by rw [HM.out], ?_⟩, hb7⟩
          rw [HM.out]
          exact ⟨_, _, _, by (unfold rV; rw [show (tickD D).down = false from Hdn.out]; rfl), hr7⟩
        | false =>
          have HM : Hid (writeD D k x = ({ tickD D with op := D.op ++ [(k, x)] }, 0)) := by unfold Hid writeD; rw [if_neg (by rw [Hdn.out]; decide), h1]; simp only; rw [if_neg (by rw [hF]; decide), if_pos Hh.out, Hadd.out]
          clear h1 hF
          go_wp2
          obtain ⟨hr7, hb7⟩ := rnext_put (D' := { tickD D with op := D.op ++ [(k, x)] }) (X := X) (Z := Loc X w.heap.size (w4.heap.size - w.heap.size)) HzL.out (fun b h => .inl h) HRL6.out HB6.out (.slice (some ⟨bl, ol, none⟩) n cl) (.slice ad9 (D.op.length + 1) cap9) (.bool false) (.int .i64 (D.steps + 1)) (.slice ad3 D.plan.length c3)
          unfold put5 at hr7 hb7
          refine bodyPost_ret (v := .tuple #[.agg #[Value.slice (some ⟨bl, ol, none⟩) n cl, .slice ad9 (D.op.length + 1) cap9, .bool false, .int .i64 (D.steps + 1), .slice ad3 D.plan.length c3], .int .i64 0]) (by simp [results, Try.results38, go_sem, g0, g1, g2, g3, g4]) rfl ⟨⟨_, by rw [HM.out], ?_⟩, hb7⟩
          rw [HM.out]
          exact ⟨_, _, _, by (unfold rV; rw [show (tickD D).down = false from Hdn.out]; rfl), hr7⟩
      · have HM : Hid (writeD D k x = (crashD { tickD D with op := D.op ++ [(k, x)] } cs, 12)) := by
          unfold Hid writeD; rw [if_neg (by rw [Hdn.out]; decide), h1]; simp only; rw [Hadd.out]
        have H3 := Lib.hid h3
        clear h1 h3
        go_wp2_with fail
        have hcall := rdcrash_any w6 (Loc X w.heap.size (w4.heap.size - w.heap.size)) n (m + 2) { tickD D with op := D.op ++ [(k, x)] } _ _ _ cv cs HRL6.out (fun g hg => (by (have h1 := Loc.lt HX.out g hg; have h2 := HB4.out.size; have h3 := Hsz6.out; omega))) HOk2.out (by omega) hn H3.out.1
        generalize hDc : crashD { tickD D with op := D.op ++ [(k, x)] } cs = Dc at hcall HM
        unfold rV at hcall
        simp only at hcall
        rw [show (tickD D).down = false from Hdn.out, show (tickD D).steps = D.steps + 1 from rfl] at hcall
        refine hcall.mono ?_
        rintro _ w7 ⟨⟨v7, rfl, a7, b7, c7, rfl, hR7⟩, hb7⟩
        obtain ⟨bl7, ol7, cl7, ad27, ad37, c27, c37, rfl, rfl, rfl⟩ := hR7.open_
        have H72 := Lib.hid (H62.out.below hb7)
        have HB7 := Lib.hid (bt HB6.out hb7)
        have HR7 := Lib.hid hR7
        have hz7 := (H62.out.below hb7).lt
        unfold rV
        clear hcall hb7 hR7 b0 b1 b2 b3 b4 g0 g1 g2 g3 g4 f0 f1 f2 f3 f4 e0 e1 e2 e3 e4
        obtain ⟨g0, g1, g2, g3, g4⟩ := H72.out.cells
        obtain ⟨f0, f1, f2, f3, f4⟩ := H72.out.free
        go_wp2
        obtain ⟨hr8, hb8⟩ := rnext_put (D' := Dc) (X := X) (Z := Loc X w.heap.size (w4.heap.size - w.heap.size)) HzL.out (fun b h => .inl h) HR7.out HB7.out (.slice (some ⟨bl7, ol7, none⟩) n cl7) (.slice ad27 Dc.op.length c27) (.bool Dc.down) (.int .i64 Dc.steps) (.slice ad37 Dc.plan.length c37)
        unfold put5 at hr8 hb8
        refine bodyPost_ret (v := .tuple #[.agg #[.slice (some ⟨bl7, ol7, none⟩) n cl7, .slice ad27 Dc.op.length c27, .bool Dc.down, .int .i64 Dc.steps, .slice ad37 Dc.plan.length c37], .int .i64 12]) (by simp [results, Try.results38, go_sem, g0, g1, g2, g3, g4]) rfl ⟨⟨_, by rw [HM.out], ?_⟩, hb8⟩
        rw [HM.out]
        exact ⟨_, _, _, rfl, hr8⟩
  · have htr := True.intro
    refine r_val rfl rfl ?_; apply Exists.intro; apply Exists.intro; refine ⟨?_, ?_⟩; (go_simp; exact ⟨rfl, rfl⟩)
    have hy := ba (.cells (wv k x) 92) (Below.refl u0.heap.size u0)
    have HBuN1 := Lib.hid (HbU.out.trans (hy.mono HzU.out))
    have HZuN1 : Hid (w4.heap.size ≤ (u0.alloc (.cells (wv k x) 92)).heap.size) := Nat.le_trans HzU.out hy.size
    have HRdN : Hid (RdS (u0.alloc (.cells (wv k x) 92)) (.slice (some ⟨u0.heap.size, 0, none⟩) 1 1) 1 65 (wv k x).toList) := ⟨_, 1, rfl, Nat.le_refl _, by simp [maxLen], by simp, fun h => (by cases h), fun _ => ⟨u0.heap.size, 0, rfl, by simp [go_sem]⟩⟩
    have HRlt : Hid (u0.heap.size < (u0.alloc (.cells (wv k x) 92)).heap.size) := by (show _ < _; simp)
    clear hy HbU HzU
    refine ⟨_, fun _ h => h, HT.out _ HBuN1.out, ?_⟩; simp only [List.getElem_toArray, List.getElem_cons_succ, List.getElem_cons_zero, Act.put, Act.eval, List.setIfInBounds_toArray, List.set_cons_zero, List.set_cons_succ, Array.getD_eq_getD_getElem?, List.getElem?_toArray, List.getElem?_cons_succ, List.getElem?_cons_zero, Option.getD_some]
    generalize u0.alloc (.cells (wv k x) 92) = uN1 at *
    have hbz : (SliceRw 0 #[]).run Try.prog uN1 = .ok (.slice (some ⟨uN1.heap.size, 0, none⟩) 0 0) (uN1.alloc (.cells #[] 92)) := run_buildSlice_zero (P := Try.prog) uN1 43 92 i0 Try.underlying43 hi
    refine r_val rfl rfl ?_; apply Exists.intro; apply Exists.intro; refine ⟨?_, ?_⟩; (go_simp; exact ⟨rfl, rfl⟩)
    clear hbz
    have hy := ba (.cells #[] 92) (Below.refl uN1.heap.size uN1)
    have HBuE2 := Lib.hid (HBuN1.out.trans (hy.mono HZuN1.out))
    have HZuE2 : Hid (w4.heap.size ≤ (uN1.alloc (.cells #[] 92)).heap.size) := Nat.le_trans HZuN1.out hy.size
    have HNuE2 := Lib.hid (HRdN.out.below hy)
    clear HRdN
    have HRdN := HNuE2
    clear HNuE2
    have HOwn : Hid ((uN1.alloc (.cells #[] 92)).ownsRow w4.heap.size 92 65 (.slice (some ⟨uN1.heap.size, 0, none⟩) 0 0) 0 []) := World.ownsRow_made (size := 65) uN1 #[] 0 HZuN1.out (by simp [maxLen]) (by simp)
    have HNe : Hid (∀ g, (Value.slice (some ⟨u0.heap.size, 0, none⟩) 1 1).ownBlock = some g → (Value.slice (some ⟨uN1.heap.size, 0, none⟩) 0 0).ownBlock ≠ some g) := fun g h1 h2 => by (simp only [Value.ownBlock, Option.some.injEq] at h1 h2; have := HRlt.out; omega)
    clear hy HBuN1 HZuN1
    refine ⟨_, fun _ h => h, HT.out _ HBuE2.out, ?_⟩; simp only [List.getElem_toArray, List.getElem_cons_succ, List.getElem_cons_zero, Act.put, Act.eval, List.setIfInBounds_toArray, List.set_cons_zero, List.set_cons_succ, Array.getD_eq_getD_getElem?, List.getElem?_toArray, List.getElem?_cons_succ, List.getElem?_cons_zero, Option.getD_some]
    generalize uN1.alloc (.cells #[] 92) = uE2 at *
    obtain ⟨vA3, uA3, hrun, hown, hgr, hnn, hloc⟩ := append_src (P := Try.prog) (w := uE2) w4.heap.size 43 43 92 i0 _ 65 72 Try.underlying43 hi hz hs hby (by simp [Value.cells]) (by decide) (Value.slice (some ⟨uN1.heap.size, 0, none⟩) 0 0) (0) [] HOwn.out (by intro h; cases h) (.slice ad2 D.op.length c2) D.op.length (flat wp2 D.op) ((HR.out.op.below (HB4.out.trans (HBuE2.out.mono HB4.out.size))).1) (flat_one wp2 wp2_one D.op) (by (have := Hfew.out; simp only [maxLen]; omega)) (by (have := Hfew.out; omega)) HZuE2.out
    have hBuA3 : Below w4.heap.size w4 uA3 := below_grown HBuE2.out hgr HZuE2.out (fun b hb => (HOwn.out.lt b hb).1)
    have HBuA3 := Lib.hid hBuA3
    have HZuA3 : Hid (w4.heap.size ≤ uA3.heap.size) := Nat.le_trans HZuE2.out hgr.size
    refine r_append rfl rfl (.tmp 34) (.tmp 36) 43 rfl _ _ vA3 uA3 rfl rfl hrun ?_
    have HRdN2 := Lib.hid (HRdN.out.same (w' := uA3) (fun g hg hl => hgr.block g hl (fun e => HNe.out g hg e.symm)))
    clear HRdN HNe
    have HRdN := HRdN2
    clear HRdN2
    have HOwn2 := Lib.hid hown
    clear HOwn
    have HOwn := HOwn2
    clear HOwn2
    have HNn := Lib.hid hnn
    clear hrun hown hgr hnn hloc hBuA3 HBuE2 HZuE2
    refine ⟨_, fun _ h => h, HT.out _ HBuA3.out, ?_⟩; simp only [List.getElem_toArray, List.getElem_cons_succ, List.getElem_cons_zero, Act.put, Act.eval, List.setIfInBounds_toArray, List.set_cons_zero, List.set_cons_succ, Array.getD_eq_getD_getElem?, List.getElem?_toArray, List.getElem?_cons_succ, List.getElem?_cons_zero, Option.getD_some]
    obtain ⟨vB4, uB4, hrun, hown, hgr, hnn, hloc⟩ := append_src (P := Try.prog) (w := uA3) w4.heap.size 43 43 92 i0 _ 65 72 Try.underlying43 hi hz hs hby (by simp [Value.cells]) (by decide) vA3 (0 + D.op.length) ([] ++ (flat wp2 D.op)) HOwn.out HNn.out (.slice (some ⟨u0.heap.size, 0, none⟩) 1 1) 1 (wv k x).toList HRdN.out (by simpa using wv_one k x) (by (have := Hfew.out; simp only [maxLen]; omega)) (by (have := Hfew.out; omega)) HZuA3.out
    have hBuB4 : Below w4.heap.size w4 uB4 := below_grown HBuA3.out hgr HZuA3.out (fun b hb => (HOwn.out.lt b hb).1)
    have HBuB4 := Lib.hid hBuB4
    have HZuB4 : Hid (w4.heap.size ≤ uB4.heap.size) := Nat.le_trans HZuA3.out hgr.size
    refine r_append rfl rfl (.tmp 37) (.tmp 41) 43 rfl _ _ vB4 uB4 rfl rfl hrun ?_
    have HOwn2 := Lib.hid hown
    clear HOwn
    have HOwn := HOwn2
    clear HOwn2
    have HNn := Lib.hid hnn
    clear hrun hown hgr hnn hloc hBuB4 HBuA3 HZuA3
    refine ⟨_, fun _ h => h, HT.out _ HBuB4.out, ?_⟩; simp only [List.getElem_toArray, List.getElem_cons_succ, List.getElem_cons_zero, Act.put, Act.eval, List.setIfInBounds_toArray, List.set_cons_zero, List.set_cons_succ, Array.getD_eq_getD_getElem?, List.getElem?_toArray, List.getElem?_cons_succ, List.getElem?_cons_zero, Option.getD_some]
    have hrow : uB4.ownsRow w4.heap.size 92 65 vB4 (D.op ++ [(k, x)]).length (flat wp2 (D.op ++ [(k, x)])) := by (have h1 := HOwn.out; rw [flat_snoc, List.length_append]; simpa [wp2] using h1)
    obtain ⟨ad9, cap9, e9, _⟩ := RdS_of_own hrow
    rw [show (D.op ++ [(k, x)]).length = D.op.length + 1 from by simp] at e9
    subst e9
    have Hrow := Lib.hid hrow
    have H53 : Hid (C5 uB4 N3 (.slice (some ⟨bl, ol, none⟩) n cl) (.slice ad2 D.op.length c2) (.bool false) (.int .i64 (D.steps + 1)) (.slice ad3 D.plan.length c3)) := H43.out.same (HBuB4.out.block N3 (by (have := HsN.out; omega)))
    have H51 : Hid (C5 uB4 w.heap.size (.slice (some ⟨bl, ol, none⟩) n cl) (.slice ad2 D.op.length c2) (.bool false) (.int .i64 (D.steps + 1)) (.slice ad3 D.plan.length c3)) := H41.out.same (HBuB4.out.block _ H41.out.lt)
    have H52 := Lib.hid (H42.out.same (w' := uB4) (HBuB4.out.block _ H42.out.lt))
    have HB5 : Hid (Below w.heap.size w uB4) := HB4.out.trans (HBuB4.out.mono HB4.out.size)
    have HB5b := Lib.hid HBuB4.out
    clear hrow HOwn
    repeat (first | (refine t_off rfl rfl ?_; simp only [List.getElem_toArray, List.getElem_cons_succ, List.getElem_cons_zero, Act.put, Act.eval, List.setIfInBounds_toArray, List.set_cons_zero, List.set_cons_succ, Array.getD_eq_getD_getElem?, List.getElem?_toArray, List.getElem?_cons_succ, List.getElem?_cons_zero, Option.getD_some]) | (refine t_move rfl _ rfl rfl ?_; simp only [List.getElem_toArray, List.getElem_cons_succ, List.getElem_cons_zero, Act.put, Act.eval, List.setIfInBounds_toArray, List.set_cons_zero, List.set_cons_succ, Array.getD_eq_getD_getElem?, List.getElem?_toArray, List.getElem?_cons_succ, List.getElem?_cons_zero, Option.getD_some]) | (refine t_assign rfl _ rfl rfl ?_; simp only [List.getElem_toArray, List.getElem_cons_succ, List.getElem_cons_zero, Act.put, Act.eval, List.setIfInBounds_toArray, List.set_cons_zero, List.set_cons_succ, Array.getD_eq_getD_getElem?, List.getElem?_toArray, List.getElem?_cons_succ, List.getElem?_cons_zero, Option.getD_some]) | (refine t_val rfl rfl ?_; apply Exists.intro; refine ⟨fun w' hC' => ?_, ?_⟩; (skip; go_simp; (first | done | exact rfl)); simp only [List.getElem_toArray, List.getElem_cons_succ, List.getElem_cons_zero, Act.put, Act.eval, List.setIfInBounds_toArray, List.set_cons_zero, List.set_cons_succ, Array.getD_eq_getD_getElem?, List.getElem?_toArray, List.getElem?_cons_succ, List.getElem?_cons_zero, Option.getD_some]) | (refine p_off rfl rfl ?_; simp only [List.getElem_toArray, List.getElem_cons_succ, List.getElem_cons_zero, Act.put, Act.eval, List.setIfInBounds_toArray, List.set_cons_zero, List.set_cons_succ, Array.getD_eq_getD_getElem?, List.getElem?_toArray, List.getElem?_cons_succ, List.getElem?_cons_zero, Option.getD_some]) | (refine p_val rfl rfl ?_; apply Exists.intro; refine ⟨fun w' => ?_, ?_⟩; (go_simp; (first | done | exact rfl)); simp only [List.getElem_toArray, List.getElem_cons_succ, List.getElem_cons_zero, Act.put, Act.eval, List.setIfInBounds_toArray, List.set_cons_zero, List.set_cons_succ, Array.getD_eq_getD_getElem?, List.getElem?_toArray, List.getElem?_cons_succ, List.getElem?_cons_zero, Option.getD_some]))
    obtain ⟨-, c1, -⟩ := H53.out.cells
    obtain ⟨-, f1, -⟩ := H53.out.free
    refine b_any rfl rfl (fun K hK => ?_)
    go_simp
    refine hK _ _ (fun _ => True) trivial ?_
    clear hK K c1 f1
    try simp only [List.getElem_toArray, List.getElem_cons_succ, List.getElem_cons_zero, Act.put, Act.eval, List.setIfInBounds_toArray, List.set_cons_zero, List.set_cons_succ, Array.getD_eq_getD_getElem?, List.getElem?_toArray, List.getElem?_cons_succ, List.getElem?_cons_zero, Option.getD_some]
    refine t_done ?_
    have hk6 : Kb (fun b => b = N3) uB4 (uB4.setCell ⟨N3, 1, none⟩ (.slice ad9 (D.op.length + 1) cap9)) := (Kb.refl _ _).setC _ _ rfl
    have H63 := Lib.hid (H53.out.set1 (.slice ad9 (D.op.length + 1) cap9))
    have H61 := Lib.hid (H51.out.kb hk6 (by (have := Hs4.out; omega)))
    have H62 := Lib.hid (H52.out.kb hk6 (by (have := Hs4.out; omega)))
    have HB6 : Hid (Below w.heap.size w (uB4.setCell ⟨N3, 1, none⟩ (.slice ad9 (D.op.length + 1) cap9))) := HB5.out.trans (hk6.below (fun b h => by (subst h; have := Hs4.out; omega)) HB5.out.size)
    have HkI : Hid (Kb (XI X w.heap.size) w4 (uB4.setCell ⟨N3, 1, none⟩ (.slice ad9 (D.op.length + 1) cap9))) := (Kb.of_below (X := XI X w.heap.size) HB5b.out).trans (Y := fun b => b = N3) hk6 (fun i hi => .inl (.inr (by (subst hi; have := Hs4.out; omega))))
    have HO6 := Lib.hid (HO4.out.kb (X' := XI X w.heap.size) HkI.out (fun b h => .inl h))
    have HR6 := Lib.hid (HR4.out.kb (X' := XI X w.heap.size) HkI.out (fun b h => .inl h))
    have hq : ∀ b, Loc X w.heap.size (w4.heap.size - w.heap.size) b → b < w4.heap.size := fun b hb => by (have h1 := Loc.lt HX.out b hb; have h2 := HB4.out.size; omega)
    have HRop : Hid (RO (uB4.setCell ⟨N3, 1, none⟩ (.slice ad9 (D.op.length + 1) cap9)) (Loc X w.heap.size (w4.heap.size - w.heap.size)) (.slice ad9 (D.op.length + 1) cap9) (D.op ++ [(k, x)]).length 65 (flat wp2 (D.op ++ [(k, x)]))) := (RO.of_own Hrow.out hq).kb (hk6.trans (Y := fun b => b = N3) (Kb.refl _ _) (fun i hi => .inl hi) |> fun h => ⟨h.os, h.tape, h.output, h.size, fun b h1 h2 => h.block b h1 (fun e => h2 (.inr (by (subst e; have h3 := Hs4.out; have h4 := HsN.out; omega))))⟩) (fun b h => .inl h)
    have Hsz6 : Hid (w4.heap.size ≤ (uB4.setCell ⟨N3, 1, none⟩ (.slice ad9 (D.op.length + 1) cap9)).heap.size) := Nat.le_trans HB5b.out.size hk6.size
    clear hk6 hq H51 H52 H53 HB5 HB5b Hrow HkI HBuB4 HZuB4
    generalize uB4.setCell ⟨N3, 1, none⟩ (.slice ad9 (D.op.length + 1) cap9) = w6 at *
    have Hadd : Hid (addD (tickD D) k x = { tickD D with op := D.op ++ [(k, x)] }) := by (show _ = _; unfold addD; rw [if_pos (by rw [hasD_tick]; exact Hh.out)]; rfl)
    have HRL6 : Hid (RAt w6 (Loc X w.heap.size (w4.heap.size - w.heap.size)) n { tickD D with op := D.op ++ [(k, x)] } (.slice (some ⟨bl, ol, none⟩) n cl) (.slice ad9 (D.op.length + 1) cap9) (.slice ad3 D.plan.length c3)) := (by (have h1 := HR6.out.kb (X' := Loc X w.heap.size (w4.heap.size - w.heap.size)) (Kb.refl _ _) XI.loc; exact ⟨h1.st, HRop.out, h1.pl⟩))
    have HOk2 : Hid (OkD { tickD D with op := D.op ++ [(k, x)] } n (m + 2)) := by (have h1 := HD.out.tick.add k x; rw [Hadd.out] at h1; exact h1)
    have hzL : Loc X w.heap.size (w4.heap.size - w.heap.size) (w.heap.size + 1 + 1) := .inr ⟨by omega, by (have h1 := Hs4.out; have h2 := HsN.out; omega)⟩
    have HzL := Lib.hid hzL
    clear hzL
    obtain ⟨b0, b1, b2, b3, b4⟩ := H61.out.cells
    obtain ⟨g0, g1, g2, g3, g4⟩ := H62.out.cells
    obtain ⟨f0, f1, f2, f3, f4⟩ := H62.out.free
    obtain ⟨e0, e1, e2, e3, e4⟩ := H63.out.cells
    rcases HO6.out with ⟨h1, rfl, rfl⟩ | ⟨cs, h1, rfl, h3, h5⟩
    · cases hF : evF D.plan (D.steps + 1) with
      | true =>
        have HM : Hid (writeD D k x = (tickD D, 11)) := by unfold Hid writeD; rw [if_neg (by rw [Hdn.out]; decide), h1]; simp only; rw [if_pos hF]
        clear h1 hF
        go_wp2
        obtain ⟨hr7, hb7⟩ := rnext_put (D' := tickD D) (X := X) (Z := XI X w.heap.size) (.inr (by omega)) (fun b h => .inl h) ⟨HR6.out.st, HR6.out.op, HR6.out.pl⟩ HB6.out (.slice (some ⟨bl, ol, none⟩) n cl) (.slice ad2 D.op.length c2) (.bool false) (.int .i64 (D.steps + 1)) (.slice ad3 D.plan.length c3)
        unfold put5 at hr7 hb7
        refine bodyPost_ret (v := .tuple #[.agg #[Value.slice (some ⟨bl, ol, none⟩) n cl, .slice ad2 D.op.length c2, .bool false, .int .i64 (D.steps + 1), .slice ad3 D.plan.length c3], .int .i64 11]) (by simp [results, Try.results38, go_sem, g0, g1, g2, g3, g4]) rfl ⟨⟨_, by rw [HM.out], ?_⟩, hb7⟩
        rw [HM.out]
        exact ⟨_, _, _, by (unfold rV; rw [show (tickD D).down = false from Hdn.out]; rfl), hr7⟩
      | false =>
        have HM : Hid (writeD D k x = ({ tickD D with op := D.op ++ [(k, x)] }, 0)) := by unfold Hid writeD; rw [if_neg (by rw [Hdn.out]; decide), h1]; simp only; rw [if_neg (by rw [hF]; decide), if_pos Hh.out, Hadd.out]
        clear h1 hF
        go_wp2
        obtain ⟨hr7, hb7⟩ := rnext_put (D' := { tickD D with op := D.op ++ [(k, x)] }) (X := X) (Z := Loc X w.heap.size (w4.heap.size - w.heap.size)) HzL.out (fun b h => .inl h) HRL6.out HB6.out (.slice (some ⟨bl, ol, none⟩) n cl) (.slice ad9 (D.op.length + 1) cap9) (.bool false) (.int .i64 (D.steps + 1)) (.slice ad3 D.plan.length c3)
        unfold put5 at hr7 hb7
        refine bodyPost_ret (v := .tuple #[.agg #[Value.slice (some ⟨bl, ol, none⟩) n cl, .slice ad9 (D.op.length + 1) cap9, .bool false, .int .i64 (D.steps + 1), .slice ad3 D.plan.length c3], .int .i64 0]) (by simp [results, Try.results38, go_sem, g0, g1, g2, g3, g4]) rfl ⟨⟨_, by rw [HM.out], ?_⟩, hb7⟩
        rw [HM.out]
        exact ⟨_, _, _, by (unfold rV; rw [show (tickD D).down = false from Hdn.out]; rfl), hr7⟩
    · have HM : Hid (writeD D k x = (crashD { tickD D with op := D.op ++ [(k, x)] } cs, 12)) := by
        unfold Hid writeD; rw [if_neg (by rw [Hdn.out]; decide), h1]; simp only; rw [Hadd.out]
      have H3 := Lib.hid h3
      clear h1 h3
      go_wp2_with fail
      have hcall := rdcrash_any w6 (Loc X w.heap.size (w4.heap.size - w.heap.size)) n (m + 2) { tickD D with op := D.op ++ [(k, x)] } _ _ _ cv cs HRL6.out (fun g hg => (by (have h1 := Loc.lt HX.out g hg; have h2 := HB4.out.size; have h3 := Hsz6.out; omega))) HOk2.out (by omega) hn H3.out.1
      generalize hDc : crashD { tickD D with op := D.op ++ [(k, x)] } cs = Dc at hcall HM
      unfold rV at hcall
      simp only at hcall
      rw [show (tickD D).down = false from Hdn.out, show (tickD D).steps = D.steps + 1 from rfl] at hcall
      refine hcall.mono ?_
      rintro _ w7 ⟨⟨v7, rfl, a7, b7, c7, rfl, hR7⟩, hb7⟩
      obtain ⟨bl7, ol7, cl7, ad27, ad37, c27, c37, rfl, rfl, rfl⟩ := hR7.open_
      have H72 := Lib.hid (H62.out.below hb7)
      have HB7 := Lib.hid (bt HB6.out hb7)
      have HR7 := Lib.hid hR7
      have hz7 := (H62.out.below hb7).lt
      unfold rV
      clear hcall hb7 hR7 b0 b1 b2 b3 b4 g0 g1 g2 g3 g4 f0 f1 f2 f3 f4 e0 e1 e2 e3 e4
      obtain ⟨g0, g1, g2, g3, g4⟩ := H72.out.cells
      obtain ⟨f0, f1, f2, f3, f4⟩ := H72.out.free
      go_wp2
      obtain ⟨hr8, hb8⟩ := rnext_put (D' := Dc) (X := X) (Z := Loc X w.heap.size (w4.heap.size - w.heap.size)) HzL.out (fun b h => .inl h) HR7.out HB7.out (.slice (some ⟨bl7, ol7, none⟩) n cl7) (.slice ad27 Dc.op.length c27) (.bool Dc.down) (.int .i64 Dc.steps) (.slice ad37 Dc.plan.length c37)
      unfold put5 at hr8 hb8
      refine bodyPost_ret (v := .tuple #[.agg #[.slice (some ⟨bl7, ol7, none⟩) n cl7, .slice ad27 Dc.op.length c27, .bool Dc.down, .int .i64 Dc.steps, .slice ad37 Dc.plan.length c37], .int .i64 12]) (by simp [results, Try.results38, go_sem, g0, g1, g2, g3, g4]) rfl ⟨⟨_, by rw [HM.out], ?_⟩, hb8⟩
      rw [HM.out]
      exact ⟨_, _, _, rfl, hr8⟩
end Go.Proofs.Ytjedlcfeobhjnaa
