/- The law's play, the arms that read, write and sync. Conditions: the numbers are small. -/
import Derived.Test.YtjedlcfeobhjnaaPlayR
set_option linter.unusedSimpArgs false
set_option linter.unusedVariables false
namespace Go.Proofs.Ytjedlcfeobhjnaa
open Go.RowKit Go.ChangeMaps

set_option maxRecDepth 100000 in
set_option maxHeartbeats 6400000 in
theorem play0 (Z : Nat → Prop) (w0 w : World) (p : DP) (n m : Nat) (D R : DM) (a b c : Value) (at_ : Int) (byte : UInt8) (cuts : List Int) (ado : Option Addr) (co : Nat) (hB : Both2 Z w0 w p n D R a b c) (hD : OkD D n m) (hRk : OkD R n m) (hm : m + 2 ≤ 100000) (hn : n ≤ 5000) (hpl : R.plan.length ≤ 100000) (hat : at_ ≤ 1048576)
    (hc : RdS w0 (.slice ado cuts.length co) cuts.length 1 (cuts.map (Value.int .i64))) (hcl : cuts.length ≤ 20) :
    Calls Try.prog 22 #[.pointer (some ⟨p.B, 0, none⟩), .agg (rV R a b c), .agg #[.int .i64 0, .int .i64 at_, .int .u8 (byte.toNat : Int), .slice ado cuts.length co]] w (PNext2 Z w0 w p n (D) (R) (D = R)) := by
  obtain ⟨bl, ol, cl, ad2, ad3, c2, c3, rfl, rfl, rfl⟩ := hB.r.open_
  unfold rV
  have HB := Lib.hid hB
  have HD := Lib.hid hD
  have HRk := Lib.hid hRk
  have Hc := Lib.hid hc
  clear hB hD hRk hc
  go_enter Try.func22, Try.ntmps22
  go_wp2_with fail
  obtain ⟨W, hW⟩ : ∃ W, ((w.alloc (.cells #[.slice (some ⟨bl, ol, none⟩) n cl, .slice ad2 R.op.length c2, .bool R.down, .int .i64 R.steps, .slice ad3 R.plan.length c3] 46)).alloc (.cells #[.int .i64 0, .int .i64 at_, .int .u8 (byte.toNat : Int), .slice ado cuts.length co] 30)).alloc (.cells #[.slice none 0 0, .slice none 0 0, .bool false, .int .i64 0, .slice none 0 0] 46) = W := ⟨_, rfl⟩
  have hb : Below w.heap.size w W := by rw [← hW]; exact ba _ (ba _ (ba _ (Below.refl _ _)))
  have HP := Lib.hid (HB.out.start hb (by rw [← hW]; simp))
  have HC1 : Hid (C5 W w.heap.size (.slice (some ⟨bl, ol, none⟩) n cl) (.slice ad2 R.op.length c2) (.bool R.down) (.int .i64 R.steps) (.slice ad3 R.plan.length c3)) := by
    unfold Hid; rw [← hW]; exact ((C5.made w _ _ _ _ _ _).below (ba _ (Below.refl _ _))).below (ba _ (Below.refl _ _))
  have HO : Hid (readAt W (w.heap.size + 1) 0 4 = some #[.int .i64 0, .int .i64 at_, .int .u8 (byte.toNat : Int), .slice ado cuts.length co]) := by
    unfold Hid; rw [← hW, readAt_alloc_past _ _ _ _ _ (by simp)]; have h1 := readAt_alloc_at (w.alloc (.cells #[.slice (some ⟨bl, ol, none⟩) n cl, .slice ad2 R.op.length c2, .bool R.down, .int .i64 R.steps, .slice ad3 R.plan.length c3] 46)) #[.int .i64 0, .int .i64 at_, .int .u8 (byte.toNat : Int), .slice ado cuts.length co] 30 (0, 0) (w.heap.size + 1) 0 4 (by simp) (by simp); rw [h1]; rfl
  have HC3 : Hid (C5 W (w.heap.size + 1 + 1) (.slice none 0 0) (.slice none 0 0) (.bool false) (.int .i64 0) (.slice none 0 0)) := by
    unfold Hid; rw [← hW]; have h1 := C5.made ((w.alloc (.cells #[.slice (some ⟨bl, ol, none⟩) n cl, .slice ad2 R.op.length c2, .bool R.down, .int .i64 R.steps, .slice ad3 R.plan.length c3] 46)).alloc (.cells #[.int .i64 0, .int .i64 at_, .int .u8 (byte.toNat : Int), .slice ado cuts.length co] 30)) 46 (.slice none 0 0) (.slice none 0 0) (.bool false) (.int .i64 0) (.slice none 0 0); simpa using h1
  rw [hW]
  clear hW hb
  refine (dread_any W at_ m HP.out.d HD.out (by omega) hn).mono ?_
  rintro _ u1 ⟨rfl, hb1⟩
  have HP2 := Lib.hid (HP.out.below hb1)
  have HC2 := Lib.hid (HC1.out.below hb1)
  have HO2 : Hid (readAt (u1) (w.heap.size + 1) 0 4 = some #[.int .i64 0, .int .i64 at_, .int .u8 (byte.toNat : Int), .slice ado cuts.length co]) := (readAt_below hb1 (readAt_lt HO.out) 0 4).trans HO.out
  have HC4 := Lib.hid (HC3.out.below hb1)
  clear HP HC1 HO HC3
  have HP := HP2
  have HC1 := HC2
  have HO := HO2
  have HC3 := HC4
  clear HP2 HC2 HO2 HC4
  clear hb1
  have Hsame : Hid (D = R → (readD D at_) = (readD R at_)) := fun h => by rw [h]
  generalize hxD : readD D at_ = xD at *
  obtain ⟨x, cd⟩ := xD
  generalize hxR : readD R at_ = xR at *
  obtain ⟨y, cr⟩ := xR
  simp only
  go_upto_region 5 with fail
  have HX : Hid (w.heap.size + 3 ≤ u1.heap.size) := HP.out.sz
  have hb := ba (.cells (av x) 35) (Below.refl u1.heap.size u1)
  have HP2 := Lib.hid (HP.out.below hb)
  have HC2 := Lib.hid (HC1.out.below hb)
  have HO2 : Hid (readAt ((u1.alloc (.cells (av x) 35))) (w.heap.size + 1) 0 4 = some #[.int .i64 0, .int .i64 at_, .int .u8 (byte.toNat : Int), .slice ado cuts.length co]) := (readAt_below hb (readAt_lt HO.out) 0 4).trans HO.out
  have HC4 := Lib.hid (HC3.out.below hb)
  clear HP HC1 HO HC3
  have HP := HP2
  have HC1 := HC2
  have HO := HO2
  have HC3 := HC4
  clear HP2 HC2 HO2 HC4
  have X : Hid (readAt (u1.alloc (.cells (av x) 35)) u1.heap.size 0 64 = some (av x)) := by unfold Hid; simp [go_sem]
  clear hb
  generalize u1.alloc (.cells (av x) 35) = u2 at *
  generalize u1.heap.size = bX at *
  obtain ⟨b0, b1, b2, b3, b4⟩ := HC1.out.cells
  have hcO := fun i v hv => readAt_cell HO.out i v hv
  simp only [Nat.zero_add] at hcO
  have o0 : u2.cell? ⟨w.heap.size + 1, 0, none⟩ = some (.int .i64 0) := hcO 0 _ rfl
  have o1 : u2.cell? ⟨w.heap.size + 1, 1, none⟩ = some (.int .i64 at_) := hcO 1 _ rfl
  have o2 : u2.cell? ⟨w.heap.size + 1, 2, none⟩ = some (.int .u8 (byte.toNat : Int)) := hcO 2 _ rfl
  have o3 : u2.cell? ⟨w.heap.size + 1, 3, none⟩ = some (.slice ado cuts.length co) := hcO 3 _ rfl
  clear hcO
  go_wp2_with fail
  have hcall := rdread_any u2 _ n m R _ _ _ at_ HP.out.r HRk.out (by omega) hn
  rw [hxR] at hcall
  simp only at hcall
  refine hcall.mono ?_
  rintro _ u3 ⟨rfl, hb3⟩
  clear hcall o0 o1 o2 o3 b0 b1 b2 b3 b4 hxD hxR
  have HP2 := Lib.hid (HP.out.below hb3)
  have HC2 := Lib.hid (HC1.out.below hb3)
  have HO2 : Hid (readAt (u3) (w.heap.size + 1) 0 4 = some #[.int .i64 0, .int .i64 at_, .int .u8 (byte.toNat : Int), .slice ado cuts.length co]) := (readAt_below hb3 (readAt_lt HO.out) 0 4).trans HO.out
  have HC4 := Lib.hid (HC3.out.below hb3)
  have X2 := Lib.hid ((readAt_below hb3 (readAt_lt X.out) 0 64).trans X.out)
  clear HP HC1 HO HC3
  have HP := HP2
  have HC1 := HC2
  have HO := HO2
  have HC3 := HC4
  clear HP2 HC2 HO2 HC4
  clear X
  have X := X2
  clear X2
  clear hb3
  go_upto_region 6 with fail
  have HY : Hid (w.heap.size + 3 ≤ u3.heap.size) := HP.out.sz
  have hb := ba (.cells (av y) 35) (Below.refl u3.heap.size u3)
  have HP2 := Lib.hid (HP.out.below hb)
  have HC2 := Lib.hid (HC1.out.below hb)
  have HO2 : Hid (readAt ((u3.alloc (.cells (av y) 35))) (w.heap.size + 1) 0 4 = some #[.int .i64 0, .int .i64 at_, .int .u8 (byte.toNat : Int), .slice ado cuts.length co]) := (readAt_below hb (readAt_lt HO.out) 0 4).trans HO.out
  have HC4 := Lib.hid (HC3.out.below hb)
  have X2 := Lib.hid ((readAt_below hb (readAt_lt X.out) 0 64).trans X.out)
  clear HP HC1 HO HC3
  have HP := HP2
  have HC1 := HC2
  have HO := HO2
  have HC3 := HC4
  clear HP2 HC2 HO2 HC4
  clear X
  have X := X2
  clear X2
  have Y : Hid (readAt (u3.alloc (.cells (av y) 35)) u3.heap.size 0 64 = some (av y)) := by unfold Hid; simp [go_sem]
  clear hb
  generalize u3.alloc (.cells (av y) 35) = u4 at *
  generalize u3.heap.size = bY at *
  by_cases hxy : x = y
  · subst hxy
    have HS : Hid (∀ u : World, ((fun u => readAt u w.heap.size 0 5 = some #[.slice (some ⟨bl, ol, none⟩) n cl, .slice ad2 R.op.length c2, .bool R.down, .int .i64 R.steps, .slice ad3 R.plan.length c3] ∧ readAt u (w.heap.size + 1) 0 4 = some #[.int .i64 0, .int .i64 at_, .int .u8 (byte.toNat : Int), .slice ado cuts.length co] ∧ readAt u bX 0 64 = some (av x) ∧ readAt u bY 0 64 = some (av x))) u → u.cell? ⟨w.heap.size, 0, none⟩ = some (.slice (some ⟨bl, ol, none⟩) n cl) ∧ u.cell? ⟨w.heap.size, 1, none⟩ = some (.slice ad2 R.op.length c2) ∧ u.cell? ⟨w.heap.size, 2, none⟩ = some (.bool R.down) ∧ u.cell? ⟨w.heap.size, 3, none⟩ = some (.int .i64 R.steps) ∧ u.cell? ⟨w.heap.size, 4, none⟩ = some (.slice ad3 R.plan.length c3) ∧ u.cell? ⟨w.heap.size + 1, 1, none⟩ = some (.int .i64 at_) ∧ u.cell? ⟨w.heap.size + 1, 2, none⟩ = some (.int .u8 (byte.toNat : Int))) := fun u hu => by
      have hc := fun i v hv => readAt_cell hu.1 i v hv
      have hd := fun i v hv => readAt_cell hu.2.1 i v hv
      simp only [Nat.zero_add] at hc hd
      exact ⟨hc 0 _ rfl, hc 1 _ rfl, hc 2 _ rfl, hc 3 _ rfl, hc 4 _ rfl, hd 1 _ rfl, hd 2 _ rfl⟩
    refine wp_region_tr (.take 0 (.take 1 (.take 2 (.take 3 (.take 4 (.take 5 (.take 7 (.run 6 (.take 8 (.take 9 (.take 10 (.take 11 (.take 12 (.take 13 (.take 14 (.run 15 (.take 16 (.run 17 (.take 18 .done))))))))))))))))))) (fun u => readAt u w.heap.size 0 5 = some #[.slice (some ⟨bl, ol, none⟩) n cl, .slice ad2 R.op.length c2, .bool R.down, .int .i64 R.steps, .slice ad3 R.plan.length c3] ∧ readAt u (w.heap.size + 1) 0 4 = some #[.int .i64 0, .int .i64 at_, .int .u8 (byte.toNat : Int), .slice ado cuts.length co] ∧ readAt u bX 0 64 = some (av x) ∧ readAt u bY 0 64 = some (av x)) (by kernel_rfl) (by kernel_rfl) rfl (by kernel_rfl) ⟨HC1.out.r, HO.out, X.out, Y.out⟩ ?_
    have hb := (Below.refl u4.heap.size u4).drew
    have HP2 := Lib.hid (HP.out.below hb)
    have HC2 := Lib.hid (HC1.out.below hb)
    have HO2 : Hid (readAt (u4.drew) (w.heap.size + 1) 0 4 = some #[.int .i64 0, .int .i64 at_, .int .u8 (byte.toNat : Int), .slice ado cuts.length co]) := (readAt_below hb (readAt_lt HO.out) 0 4).trans HO.out
    have HC4 := Lib.hid (HC3.out.below hb)
    have X2 := Lib.hid ((readAt_below hb (readAt_lt X.out) 0 64).trans X.out)
    have Y2 := Lib.hid ((readAt_below hb (readAt_lt Y.out) 0 64).trans Y.out)
    clear HP HC1 HO HC3
    have HP := HP2
    have HC1 := HC2
    have HO := HO2
    have HC3 := HC4
    clear HP2 HC2 HO2 HC4
    clear X
    have X := X2
    clear X2
    clear Y
    have Y := Y2
    clear Y2
    clear hb
    generalize u4.drew = u4' at *
    repeat (first | (refine t_off rfl rfl ?_; simp only [List.getElem_toArray, List.getElem_cons_succ, List.getElem_cons_zero, Act.put, Act.eval, List.setIfInBounds_toArray, List.set_cons_zero, List.set_cons_succ, Array.getD_eq_getD_getElem?, List.getElem?_toArray, List.getElem?_cons_succ, List.getElem?_cons_zero, Option.getD_some]) | (refine t_move rfl _ rfl rfl ?_; simp only [List.getElem_toArray, List.getElem_cons_succ, List.getElem_cons_zero, Act.put, Act.eval, List.setIfInBounds_toArray, List.set_cons_zero, List.set_cons_succ, Array.getD_eq_getD_getElem?, List.getElem?_toArray, List.getElem?_cons_succ, List.getElem?_cons_zero, Option.getD_some]) | (refine t_assign rfl _ rfl rfl ?_; simp only [List.getElem_toArray, List.getElem_cons_succ, List.getElem_cons_zero, Act.put, Act.eval, List.setIfInBounds_toArray, List.set_cons_zero, List.set_cons_succ, Array.getD_eq_getD_getElem?, List.getElem?_toArray, List.getElem?_cons_succ, List.getElem?_cons_zero, Option.getD_some]) | (refine t_val rfl rfl ?_; apply Exists.intro; refine ⟨fun w' hC' => ?_, ?_⟩; (obtain ⟨b0, b1, b2, b3, b4, o1, o2⟩ := HS.out w' hC'; obtain ⟨-, -, hX, hY⟩ := hC'; go_simp; (first | done | exact rfl)); simp only [List.getElem_toArray, List.getElem_cons_succ, List.getElem_cons_zero, Act.put, Act.eval, List.setIfInBounds_toArray, List.set_cons_zero, List.set_cons_succ, Array.getD_eq_getD_getElem?, List.getElem?_toArray, List.getElem?_cons_succ, List.getElem?_cons_zero, Option.getD_some]) | (refine p_off rfl rfl ?_; simp only [List.getElem_toArray, List.getElem_cons_succ, List.getElem_cons_zero, Act.put, Act.eval, List.setIfInBounds_toArray, List.set_cons_zero, List.set_cons_succ, Array.getD_eq_getD_getElem?, List.getElem?_toArray, List.getElem?_cons_succ, List.getElem?_cons_zero, Option.getD_some]) | (refine p_val rfl rfl ?_; apply Exists.intro; refine ⟨fun w' => ?_, ?_⟩; (go_simp; (first | done | exact rfl)); simp only [List.getElem_toArray, List.getElem_cons_succ, List.getElem_cons_zero, Act.put, Act.eval, List.setIfInBounds_toArray, List.set_cons_zero, List.set_cons_succ, Array.getD_eq_getD_getElem?, List.getElem?_toArray, List.getElem?_cons_succ, List.getElem?_cons_zero, Option.getD_some]))
    refine r_call rfl rfl ?_; apply Exists.intro; apply Exists.intro; refine ⟨?_, ?_⟩; (go_simp; exact ⟨rfl, rfl⟩)
    refine (code_any cd at_ _).mono ?_
    rintro _ u5 ⟨rfl, hb5⟩
    have HP2 := Lib.hid (HP.out.below hb5)
    have HC2 := Lib.hid (HC1.out.below hb5)
    have HO2 : Hid (readAt (u5) (w.heap.size + 1) 0 4 = some #[.int .i64 0, .int .i64 at_, .int .u8 (byte.toNat : Int), .slice ado cuts.length co]) := (readAt_below hb5 (readAt_lt HO.out) 0 4).trans HO.out
    have HC4 := Lib.hid (HC3.out.below hb5)
    have X2 := Lib.hid ((readAt_below hb5 (readAt_lt X.out) 0 64).trans X.out)
    have Y2 := Lib.hid ((readAt_below hb5 (readAt_lt Y.out) 0 64).trans Y.out)
    clear HP HC1 HO HC3
    have HP := HP2
    have HC1 := HC2
    have HO := HO2
    have HC3 := HC4
    clear HP2 HC2 HO2 HC4
    clear X
    have X := X2
    clear X2
    clear Y
    have Y := Y2
    clear Y2
    clear hb5
    refine ⟨_, rfl, _, fun _ h => h, ⟨HC1.out.r, HO.out, X.out, Y.out⟩, ?_⟩; simp only [List.getElem_toArray, List.getElem_cons_succ, List.getElem_cons_zero, Act.put, Act.eval, List.setIfInBounds_toArray, List.set_cons_zero, List.set_cons_succ, Array.getD_eq_getD_getElem?, List.getElem?_toArray, List.getElem?_cons_succ, List.getElem?_cons_zero, Option.getD_some]
    by_cases hcc : cd = cr
    · subst hcc
      repeat (first | (refine t_off rfl rfl ?_; simp only [List.getElem_toArray, List.getElem_cons_succ, List.getElem_cons_zero, Act.put, Act.eval, List.setIfInBounds_toArray, List.set_cons_zero, List.set_cons_succ, Array.getD_eq_getD_getElem?, List.getElem?_toArray, List.getElem?_cons_succ, List.getElem?_cons_zero, Option.getD_some]) | (refine t_move rfl _ rfl rfl ?_; simp only [List.getElem_toArray, List.getElem_cons_succ, List.getElem_cons_zero, Act.put, Act.eval, List.setIfInBounds_toArray, List.set_cons_zero, List.set_cons_succ, Array.getD_eq_getD_getElem?, List.getElem?_toArray, List.getElem?_cons_succ, List.getElem?_cons_zero, Option.getD_some]) | (refine t_assign rfl _ rfl rfl ?_; simp only [List.getElem_toArray, List.getElem_cons_succ, List.getElem_cons_zero, Act.put, Act.eval, List.setIfInBounds_toArray, List.set_cons_zero, List.set_cons_succ, Array.getD_eq_getD_getElem?, List.getElem?_toArray, List.getElem?_cons_succ, List.getElem?_cons_zero, Option.getD_some]) | (refine t_val rfl rfl ?_; apply Exists.intro; refine ⟨fun w' hC' => ?_, ?_⟩; (obtain ⟨b0, b1, b2, b3, b4, o1, o2⟩ := HS.out w' hC'; obtain ⟨-, -, hX, hY⟩ := hC'; go_simp; (first | done | exact rfl)); simp only [List.getElem_toArray, List.getElem_cons_succ, List.getElem_cons_zero, Act.put, Act.eval, List.setIfInBounds_toArray, List.set_cons_zero, List.set_cons_succ, Array.getD_eq_getD_getElem?, List.getElem?_toArray, List.getElem?_cons_succ, List.getElem?_cons_zero, Option.getD_some]) | (refine p_off rfl rfl ?_; simp only [List.getElem_toArray, List.getElem_cons_succ, List.getElem_cons_zero, Act.put, Act.eval, List.setIfInBounds_toArray, List.set_cons_zero, List.set_cons_succ, Array.getD_eq_getD_getElem?, List.getElem?_toArray, List.getElem?_cons_succ, List.getElem?_cons_zero, Option.getD_some]) | (refine p_val rfl rfl ?_; apply Exists.intro; refine ⟨fun w' => ?_, ?_⟩; (go_simp; (first | done | exact rfl)); simp only [List.getElem_toArray, List.getElem_cons_succ, List.getElem_cons_zero, Act.put, Act.eval, List.setIfInBounds_toArray, List.set_cons_zero, List.set_cons_succ, Array.getD_eq_getD_getElem?, List.getElem?_toArray, List.getElem?_cons_succ, List.getElem?_cons_zero, Option.getD_some]))
      refine r_call rfl rfl ?_; apply Exists.intro; apply Exists.intro; refine ⟨?_, ?_⟩; (go_simp; exact ⟨rfl, rfl⟩)
      refine (told_any cd at_ _).mono ?_
      rintro _ u6 ⟨rfl, hb6⟩
      have HP2 := Lib.hid (HP.out.below hb6)
      have HC2 := Lib.hid (HC1.out.below hb6)
      have HO2 : Hid (readAt (u6) (w.heap.size + 1) 0 4 = some #[.int .i64 0, .int .i64 at_, .int .u8 (byte.toNat : Int), .slice ado cuts.length co]) := (readAt_below hb6 (readAt_lt HO.out) 0 4).trans HO.out
      have HC4 := Lib.hid (HC3.out.below hb6)
      have X2 := Lib.hid ((readAt_below hb6 (readAt_lt X.out) 0 64).trans X.out)
      have Y2 := Lib.hid ((readAt_below hb6 (readAt_lt Y.out) 0 64).trans Y.out)
      clear HP HC1 HO HC3
      have HP := HP2
      have HC1 := HC2
      have HO := HO2
      have HC3 := HC4
      clear HP2 HC2 HO2 HC4
      clear X
      have X := X2
      clear X2
      clear Y
      have Y := Y2
      clear Y2
      clear hb6
      refine ⟨_, rfl, _, fun _ h => h, ⟨HC1.out.r, HO.out, X.out, Y.out⟩, ?_⟩; simp only [List.getElem_toArray, List.getElem_cons_succ, List.getElem_cons_zero, Act.put, Act.eval, List.setIfInBounds_toArray, List.set_cons_zero, List.set_cons_succ, Array.getD_eq_getD_getElem?, List.getElem?_toArray, List.getElem?_cons_succ, List.getElem?_cons_zero, Option.getD_some]
      repeat (first | (refine t_off rfl rfl ?_; simp only [List.getElem_toArray, List.getElem_cons_succ, List.getElem_cons_zero, Act.put, Act.eval, List.setIfInBounds_toArray, List.set_cons_zero, List.set_cons_succ, Array.getD_eq_getD_getElem?, List.getElem?_toArray, List.getElem?_cons_succ, List.getElem?_cons_zero, Option.getD_some]) | (refine t_move rfl _ rfl rfl ?_; simp only [List.getElem_toArray, List.getElem_cons_succ, List.getElem_cons_zero, Act.put, Act.eval, List.setIfInBounds_toArray, List.set_cons_zero, List.set_cons_succ, Array.getD_eq_getD_getElem?, List.getElem?_toArray, List.getElem?_cons_succ, List.getElem?_cons_zero, Option.getD_some]) | (refine t_assign rfl _ rfl rfl ?_; simp only [List.getElem_toArray, List.getElem_cons_succ, List.getElem_cons_zero, Act.put, Act.eval, List.setIfInBounds_toArray, List.set_cons_zero, List.set_cons_succ, Array.getD_eq_getD_getElem?, List.getElem?_toArray, List.getElem?_cons_succ, List.getElem?_cons_zero, Option.getD_some]) | (refine t_val rfl rfl ?_; apply Exists.intro; refine ⟨fun w' hC' => ?_, ?_⟩; (obtain ⟨b0, b1, b2, b3, b4, o1, o2⟩ := HS.out w' hC'; obtain ⟨-, -, hX, hY⟩ := hC'; go_simp; (first | done | exact rfl)); simp only [List.getElem_toArray, List.getElem_cons_succ, List.getElem_cons_zero, Act.put, Act.eval, List.setIfInBounds_toArray, List.set_cons_zero, List.set_cons_succ, Array.getD_eq_getD_getElem?, List.getElem?_toArray, List.getElem?_cons_succ, List.getElem?_cons_zero, Option.getD_some]) | (refine p_off rfl rfl ?_; simp only [List.getElem_toArray, List.getElem_cons_succ, List.getElem_cons_zero, Act.put, Act.eval, List.setIfInBounds_toArray, List.set_cons_zero, List.set_cons_succ, Array.getD_eq_getD_getElem?, List.getElem?_toArray, List.getElem?_cons_succ, List.getElem?_cons_zero, Option.getD_some]) | (refine p_val rfl rfl ?_; apply Exists.intro; refine ⟨fun w' => ?_, ?_⟩; (go_simp; (first | done | exact rfl)); simp only [List.getElem_toArray, List.getElem_cons_succ, List.getElem_cons_zero, Act.put, Act.eval, List.setIfInBounds_toArray, List.set_cons_zero, List.set_cons_succ, Array.getD_eq_getD_getElem?, List.getElem?_toArray, List.getElem?_cons_succ, List.getElem?_cons_zero, Option.getD_some]))
      obtain ⟨f0, f1, f2, f3, f4⟩ := HC3.out.free
      obtain ⟨g0, g1, g2, g3, g4⟩ := HC3.out.cells
      refine r_any rfl rfl (fun K hK => ?_)
      go_simp
      have hk := put5_kb (Z := fun b => b = w.heap.size + 2) u6 (w.heap.size + 1 + 1) (.slice (some ⟨bl, ol, none⟩) n cl) (.slice ad2 R.op.length c2) (.bool R.down) (.int .i64 R.steps) (.slice ad3 R.plan.length c3) rfl
      unfold put5 at hk
      refine hK _ _ (fun u => readAt u w.heap.size 0 5 = some #[.slice (some ⟨bl, ol, none⟩) n cl, .slice ad2 R.op.length c2, .bool R.down, .int .i64 R.steps, .slice ad3 R.plan.length c3] ∧ readAt u (w.heap.size + 1) 0 4 = some #[.int .i64 0, .int .i64 at_, .int .u8 (byte.toNat : Int), .slice ado cuts.length co] ∧ readAt u bX 0 64 = some (av x) ∧ readAt u bY 0 64 = some (av x)) (fun _ h => h) ?_ ?_
      · refine ⟨(rd_same (hk.block _ HC1.out.lt (by omega)) 0 5).trans HC1.out.r, (rd_same (hk.block _ (readAt_lt HO.out) (by omega)) 0 4).trans HO.out, (rd_same (hk.block _ (readAt_lt X.out) (by have := HX.out; omega)) 0 64).trans X.out, (rd_same (hk.block _ (readAt_lt Y.out) (by have := HY.out; omega)) 0 64).trans Y.out⟩
      clear hK K
      try simp only [List.getElem_toArray, List.getElem_cons_succ, List.getElem_cons_zero, Act.put, Act.eval, List.setIfInBounds_toArray, List.set_cons_zero, List.set_cons_succ, Array.getD_eq_getD_getElem?, List.getElem?_toArray, List.getElem?_cons_succ, List.getElem?_cons_zero, Option.getD_some]
      repeat (first | (refine t_off rfl rfl ?_; simp only [List.getElem_toArray, List.getElem_cons_succ, List.getElem_cons_zero, Act.put, Act.eval, List.setIfInBounds_toArray, List.set_cons_zero, List.set_cons_succ, Array.getD_eq_getD_getElem?, List.getElem?_toArray, List.getElem?_cons_succ, List.getElem?_cons_zero, Option.getD_some]) | (refine t_move rfl _ rfl rfl ?_; simp only [List.getElem_toArray, List.getElem_cons_succ, List.getElem_cons_zero, Act.put, Act.eval, List.setIfInBounds_toArray, List.set_cons_zero, List.set_cons_succ, Array.getD_eq_getD_getElem?, List.getElem?_toArray, List.getElem?_cons_succ, List.getElem?_cons_zero, Option.getD_some]) | (refine t_assign rfl _ rfl rfl ?_; simp only [List.getElem_toArray, List.getElem_cons_succ, List.getElem_cons_zero, Act.put, Act.eval, List.setIfInBounds_toArray, List.set_cons_zero, List.set_cons_succ, Array.getD_eq_getD_getElem?, List.getElem?_toArray, List.getElem?_cons_succ, List.getElem?_cons_zero, Option.getD_some]) | (refine t_val rfl rfl ?_; apply Exists.intro; refine ⟨fun w' hC' => ?_, ?_⟩; (obtain ⟨b0, b1, b2, b3, b4, o1, o2⟩ := HS.out w' hC'; obtain ⟨-, -, hX, hY⟩ := hC'; go_simp; (first | done | exact rfl)); simp only [List.getElem_toArray, List.getElem_cons_succ, List.getElem_cons_zero, Act.put, Act.eval, List.setIfInBounds_toArray, List.set_cons_zero, List.set_cons_succ, Array.getD_eq_getD_getElem?, List.getElem?_toArray, List.getElem?_cons_succ, List.getElem?_cons_zero, Option.getD_some]) | (refine p_off rfl rfl ?_; simp only [List.getElem_toArray, List.getElem_cons_succ, List.getElem_cons_zero, Act.put, Act.eval, List.setIfInBounds_toArray, List.set_cons_zero, List.set_cons_succ, Array.getD_eq_getD_getElem?, List.getElem?_toArray, List.getElem?_cons_succ, List.getElem?_cons_zero, Option.getD_some]) | (refine p_val rfl rfl ?_; apply Exists.intro; refine ⟨fun w' => ?_, ?_⟩; (go_simp; (first | done | exact rfl)); simp only [List.getElem_toArray, List.getElem_cons_succ, List.getElem_cons_zero, Act.put, Act.eval, List.setIfInBounds_toArray, List.set_cons_zero, List.set_cons_succ, Array.getD_eq_getD_getElem?, List.getElem?_toArray, List.getElem?_cons_succ, List.getElem?_cons_zero, Option.getD_some]))
      refine t_done ?_
      go_wp2
      refine bodyPost_ret (v := .tuple #[.agg #[.slice (some ⟨bl, ol, none⟩) n cl, .slice ad2 R.op.length c2, .bool R.down, .int .i64 R.steps, .slice ad3 R.plan.length c3], .bool true]) (by simp [results, Try.results22, go_sem, g0, g1, g2, g3, g4]) rfl ?_
      exact (HP.out.own (i := 2) (by omega) hk).done (fun _ => rfl)
    · have hne : (cd == cr) = false := by simpa using hcc
      have Hcc := Lib.hid hcc
      clear hcc
      repeat (first | (refine t_off rfl rfl ?_; simp only [List.getElem_toArray, List.getElem_cons_succ, List.getElem_cons_zero, Act.put, Act.eval, List.setIfInBounds_toArray, List.set_cons_zero, List.set_cons_succ, Array.getD_eq_getD_getElem?, List.getElem?_toArray, List.getElem?_cons_succ, List.getElem?_cons_zero, Option.getD_some]) | (refine t_move rfl _ rfl rfl ?_; simp only [List.getElem_toArray, List.getElem_cons_succ, List.getElem_cons_zero, Act.put, Act.eval, List.setIfInBounds_toArray, List.set_cons_zero, List.set_cons_succ, Array.getD_eq_getD_getElem?, List.getElem?_toArray, List.getElem?_cons_succ, List.getElem?_cons_zero, Option.getD_some]) | (refine t_assign rfl _ rfl rfl ?_; simp only [List.getElem_toArray, List.getElem_cons_succ, List.getElem_cons_zero, Act.put, Act.eval, List.setIfInBounds_toArray, List.set_cons_zero, List.set_cons_succ, Array.getD_eq_getD_getElem?, List.getElem?_toArray, List.getElem?_cons_succ, List.getElem?_cons_zero, Option.getD_some]) | (refine t_val rfl rfl ?_; apply Exists.intro; refine ⟨fun w' hC' => ?_, ?_⟩; (obtain ⟨b0, b1, b2, b3, b4, o1, o2⟩ := HS.out w' hC'; obtain ⟨-, -, hX, hY⟩ := hC'; go_simp; (first | done | exact rfl)); simp only [List.getElem_toArray, List.getElem_cons_succ, List.getElem_cons_zero, Act.put, Act.eval, List.setIfInBounds_toArray, List.set_cons_zero, List.set_cons_succ, Array.getD_eq_getD_getElem?, List.getElem?_toArray, List.getElem?_cons_succ, List.getElem?_cons_zero, Option.getD_some]) | (refine p_off rfl rfl ?_; simp only [List.getElem_toArray, List.getElem_cons_succ, List.getElem_cons_zero, Act.put, Act.eval, List.setIfInBounds_toArray, List.set_cons_zero, List.set_cons_succ, Array.getD_eq_getD_getElem?, List.getElem?_toArray, List.getElem?_cons_succ, List.getElem?_cons_zero, Option.getD_some]) | (refine p_val rfl rfl ?_; apply Exists.intro; refine ⟨fun w' => ?_, ?_⟩; (go_simp; (first | done | exact rfl)); simp only [List.getElem_toArray, List.getElem_cons_succ, List.getElem_cons_zero, Act.put, Act.eval, List.setIfInBounds_toArray, List.set_cons_zero, List.set_cons_succ, Array.getD_eq_getD_getElem?, List.getElem?_toArray, List.getElem?_cons_succ, List.getElem?_cons_zero, Option.getD_some]))
      refine r_off rfl rfl ⟨HC1.out.r, HO.out, X.out, Y.out⟩ ?_
      simp only [List.getElem_toArray, List.getElem_cons_succ, List.getElem_cons_zero, Act.put, Act.eval, List.setIfInBounds_toArray, List.set_cons_zero, List.set_cons_succ, Array.getD_eq_getD_getElem?, List.getElem?_toArray, List.getElem?_cons_succ, List.getElem?_cons_zero, Option.getD_some]
      repeat (first | (refine t_off rfl rfl ?_; simp only [List.getElem_toArray, List.getElem_cons_succ, List.getElem_cons_zero, Act.put, Act.eval, List.setIfInBounds_toArray, List.set_cons_zero, List.set_cons_succ, Array.getD_eq_getD_getElem?, List.getElem?_toArray, List.getElem?_cons_succ, List.getElem?_cons_zero, Option.getD_some]) | (refine t_move rfl _ rfl rfl ?_; simp only [List.getElem_toArray, List.getElem_cons_succ, List.getElem_cons_zero, Act.put, Act.eval, List.setIfInBounds_toArray, List.set_cons_zero, List.set_cons_succ, Array.getD_eq_getD_getElem?, List.getElem?_toArray, List.getElem?_cons_succ, List.getElem?_cons_zero, Option.getD_some]) | (refine t_assign rfl _ rfl rfl ?_; simp only [List.getElem_toArray, List.getElem_cons_succ, List.getElem_cons_zero, Act.put, Act.eval, List.setIfInBounds_toArray, List.set_cons_zero, List.set_cons_succ, Array.getD_eq_getD_getElem?, List.getElem?_toArray, List.getElem?_cons_succ, List.getElem?_cons_zero, Option.getD_some]) | (refine t_val rfl rfl ?_; apply Exists.intro; refine ⟨fun w' hC' => ?_, ?_⟩; (obtain ⟨b0, b1, b2, b3, b4, o1, o2⟩ := HS.out w' hC'; obtain ⟨-, -, hX, hY⟩ := hC'; go_simp; (first | done | exact rfl)); simp only [List.getElem_toArray, List.getElem_cons_succ, List.getElem_cons_zero, Act.put, Act.eval, List.setIfInBounds_toArray, List.set_cons_zero, List.set_cons_succ, Array.getD_eq_getD_getElem?, List.getElem?_toArray, List.getElem?_cons_succ, List.getElem?_cons_zero, Option.getD_some]) | (refine p_off rfl rfl ?_; simp only [List.getElem_toArray, List.getElem_cons_succ, List.getElem_cons_zero, Act.put, Act.eval, List.setIfInBounds_toArray, List.set_cons_zero, List.set_cons_succ, Array.getD_eq_getD_getElem?, List.getElem?_toArray, List.getElem?_cons_succ, List.getElem?_cons_zero, Option.getD_some]) | (refine p_val rfl rfl ?_; apply Exists.intro; refine ⟨fun w' => ?_, ?_⟩; (go_simp; (first | done | exact rfl)); simp only [List.getElem_toArray, List.getElem_cons_succ, List.getElem_cons_zero, Act.put, Act.eval, List.setIfInBounds_toArray, List.set_cons_zero, List.set_cons_succ, Array.getD_eq_getD_getElem?, List.getElem?_toArray, List.getElem?_cons_succ, List.getElem?_cons_zero, Option.getD_some]))
      obtain ⟨f0, f1, f2, f3, f4⟩ := HC3.out.free
      obtain ⟨g0, g1, g2, g3, g4⟩ := HC3.out.cells
      refine r_any rfl rfl (fun K hK => ?_)
      go_simp
      have hk := put5_kb (Z := fun b => b = w.heap.size + 2) u5 (w.heap.size + 1 + 1) (.slice (some ⟨bl, ol, none⟩) n cl) (.slice ad2 R.op.length c2) (.bool R.down) (.int .i64 R.steps) (.slice ad3 R.plan.length c3) rfl
      unfold put5 at hk
      refine hK _ _ (fun u => readAt u w.heap.size 0 5 = some #[.slice (some ⟨bl, ol, none⟩) n cl, .slice ad2 R.op.length c2, .bool R.down, .int .i64 R.steps, .slice ad3 R.plan.length c3] ∧ readAt u (w.heap.size + 1) 0 4 = some #[.int .i64 0, .int .i64 at_, .int .u8 (byte.toNat : Int), .slice ado cuts.length co] ∧ readAt u bX 0 64 = some (av x) ∧ readAt u bY 0 64 = some (av x)) (fun _ h => h) ?_ ?_
      · refine ⟨(rd_same (hk.block _ HC1.out.lt (by omega)) 0 5).trans HC1.out.r, (rd_same (hk.block _ (readAt_lt HO.out) (by omega)) 0 4).trans HO.out, (rd_same (hk.block _ (readAt_lt X.out) (by have := HX.out; omega)) 0 64).trans X.out, (rd_same (hk.block _ (readAt_lt Y.out) (by have := HY.out; omega)) 0 64).trans Y.out⟩
      clear hK K
      try simp only [List.getElem_toArray, List.getElem_cons_succ, List.getElem_cons_zero, Act.put, Act.eval, List.setIfInBounds_toArray, List.set_cons_zero, List.set_cons_succ, Array.getD_eq_getD_getElem?, List.getElem?_toArray, List.getElem?_cons_succ, List.getElem?_cons_zero, Option.getD_some]
      repeat (first | (refine t_off rfl rfl ?_; simp only [List.getElem_toArray, List.getElem_cons_succ, List.getElem_cons_zero, Act.put, Act.eval, List.setIfInBounds_toArray, List.set_cons_zero, List.set_cons_succ, Array.getD_eq_getD_getElem?, List.getElem?_toArray, List.getElem?_cons_succ, List.getElem?_cons_zero, Option.getD_some]) | (refine t_move rfl _ rfl rfl ?_; simp only [List.getElem_toArray, List.getElem_cons_succ, List.getElem_cons_zero, Act.put, Act.eval, List.setIfInBounds_toArray, List.set_cons_zero, List.set_cons_succ, Array.getD_eq_getD_getElem?, List.getElem?_toArray, List.getElem?_cons_succ, List.getElem?_cons_zero, Option.getD_some]) | (refine t_assign rfl _ rfl rfl ?_; simp only [List.getElem_toArray, List.getElem_cons_succ, List.getElem_cons_zero, Act.put, Act.eval, List.setIfInBounds_toArray, List.set_cons_zero, List.set_cons_succ, Array.getD_eq_getD_getElem?, List.getElem?_toArray, List.getElem?_cons_succ, List.getElem?_cons_zero, Option.getD_some]) | (refine t_val rfl rfl ?_; apply Exists.intro; refine ⟨fun w' hC' => ?_, ?_⟩; (obtain ⟨b0, b1, b2, b3, b4, o1, o2⟩ := HS.out w' hC'; obtain ⟨-, -, hX, hY⟩ := hC'; go_simp; (first | done | exact rfl)); simp only [List.getElem_toArray, List.getElem_cons_succ, List.getElem_cons_zero, Act.put, Act.eval, List.setIfInBounds_toArray, List.set_cons_zero, List.set_cons_succ, Array.getD_eq_getD_getElem?, List.getElem?_toArray, List.getElem?_cons_succ, List.getElem?_cons_zero, Option.getD_some]) | (refine p_off rfl rfl ?_; simp only [List.getElem_toArray, List.getElem_cons_succ, List.getElem_cons_zero, Act.put, Act.eval, List.setIfInBounds_toArray, List.set_cons_zero, List.set_cons_succ, Array.getD_eq_getD_getElem?, List.getElem?_toArray, List.getElem?_cons_succ, List.getElem?_cons_zero, Option.getD_some]) | (refine p_val rfl rfl ?_; apply Exists.intro; refine ⟨fun w' => ?_, ?_⟩; (go_simp; (first | done | exact rfl)); simp only [List.getElem_toArray, List.getElem_cons_succ, List.getElem_cons_zero, Act.put, Act.eval, List.setIfInBounds_toArray, List.set_cons_zero, List.set_cons_succ, Array.getD_eq_getD_getElem?, List.getElem?_toArray, List.getElem?_cons_succ, List.getElem?_cons_zero, Option.getD_some]))
      refine t_done ?_
      go_wp2
      refine bodyPost_ret (v := .tuple #[.agg #[.slice (some ⟨bl, ol, none⟩) n cl, .slice ad2 R.op.length c2, .bool R.down, .int .i64 R.steps, .slice ad3 R.plan.length c3], .bool false]) (by simp [results, Try.results22, go_sem, g0, g1, g2, g3, g4]) rfl ?_
      exact (HP.out.own (i := 2) (by omega) hk).done (fun h => absurd (congrArg Prod.snd (Hsame.out h)) Hcc.out)
  · have hne : (x == y) = false := by simpa using hxy
    have Hxy := Lib.hid hxy
    clear hxy
    have HS : Hid (∀ u : World, ((fun u => readAt u w.heap.size 0 5 = some #[.slice (some ⟨bl, ol, none⟩) n cl, .slice ad2 R.op.length c2, .bool R.down, .int .i64 R.steps, .slice ad3 R.plan.length c3] ∧ readAt u (w.heap.size + 1) 0 4 = some #[.int .i64 0, .int .i64 at_, .int .u8 (byte.toNat : Int), .slice ado cuts.length co] ∧ readAt u bX 0 64 = some (av x) ∧ readAt u bY 0 64 = some (av y))) u → u.cell? ⟨w.heap.size, 0, none⟩ = some (.slice (some ⟨bl, ol, none⟩) n cl) ∧ u.cell? ⟨w.heap.size, 1, none⟩ = some (.slice ad2 R.op.length c2) ∧ u.cell? ⟨w.heap.size, 2, none⟩ = some (.bool R.down) ∧ u.cell? ⟨w.heap.size, 3, none⟩ = some (.int .i64 R.steps) ∧ u.cell? ⟨w.heap.size, 4, none⟩ = some (.slice ad3 R.plan.length c3) ∧ u.cell? ⟨w.heap.size + 1, 1, none⟩ = some (.int .i64 at_) ∧ u.cell? ⟨w.heap.size + 1, 2, none⟩ = some (.int .u8 (byte.toNat : Int))) := fun u hu => by
      have hc := fun i v hv => readAt_cell hu.1 i v hv
      have hd := fun i v hv => readAt_cell hu.2.1 i v hv
      simp only [Nat.zero_add] at hc hd
      exact ⟨hc 0 _ rfl, hc 1 _ rfl, hc 2 _ rfl, hc 3 _ rfl, hc 4 _ rfl, hd 1 _ rfl, hd 2 _ rfl⟩
    refine wp_region_tr (.take 0 (.take 1 (.take 2 (.take 3 (.take 4 (.take 5 (.take 7 (.run 6 (.take 8 (.take 9 (.take 10 (.take 11 (.take 12 (.take 13 (.take 14 (.run 15 (.take 16 (.run 17 (.take 18 .done))))))))))))))))))) (fun u => readAt u w.heap.size 0 5 = some #[.slice (some ⟨bl, ol, none⟩) n cl, .slice ad2 R.op.length c2, .bool R.down, .int .i64 R.steps, .slice ad3 R.plan.length c3] ∧ readAt u (w.heap.size + 1) 0 4 = some #[.int .i64 0, .int .i64 at_, .int .u8 (byte.toNat : Int), .slice ado cuts.length co] ∧ readAt u bX 0 64 = some (av x) ∧ readAt u bY 0 64 = some (av y)) (by kernel_rfl) (by kernel_rfl) rfl (by kernel_rfl) ⟨HC1.out.r, HO.out, X.out, Y.out⟩ ?_
    have hb := (Below.refl u4.heap.size u4).drew
    have HP2 := Lib.hid (HP.out.below hb)
    have HC2 := Lib.hid (HC1.out.below hb)
    have HO2 : Hid (readAt (u4.drew) (w.heap.size + 1) 0 4 = some #[.int .i64 0, .int .i64 at_, .int .u8 (byte.toNat : Int), .slice ado cuts.length co]) := (readAt_below hb (readAt_lt HO.out) 0 4).trans HO.out
    have HC4 := Lib.hid (HC3.out.below hb)
    have X2 := Lib.hid ((readAt_below hb (readAt_lt X.out) 0 64).trans X.out)
    have Y2 := Lib.hid ((readAt_below hb (readAt_lt Y.out) 0 64).trans Y.out)
    clear HP HC1 HO HC3
    have HP := HP2
    have HC1 := HC2
    have HO := HO2
    have HC3 := HC4
    clear HP2 HC2 HO2 HC4
    clear X
    have X := X2
    clear X2
    clear Y
    have Y := Y2
    clear Y2
    clear hb
    generalize u4.drew = u4' at *
    repeat (first | (refine t_off rfl rfl ?_; simp only [List.getElem_toArray, List.getElem_cons_succ, List.getElem_cons_zero, Act.put, Act.eval, List.setIfInBounds_toArray, List.set_cons_zero, List.set_cons_succ, Array.getD_eq_getD_getElem?, List.getElem?_toArray, List.getElem?_cons_succ, List.getElem?_cons_zero, Option.getD_some]) | (refine t_move rfl _ rfl rfl ?_; simp only [List.getElem_toArray, List.getElem_cons_succ, List.getElem_cons_zero, Act.put, Act.eval, List.setIfInBounds_toArray, List.set_cons_zero, List.set_cons_succ, Array.getD_eq_getD_getElem?, List.getElem?_toArray, List.getElem?_cons_succ, List.getElem?_cons_zero, Option.getD_some]) | (refine t_assign rfl _ rfl rfl ?_; simp only [List.getElem_toArray, List.getElem_cons_succ, List.getElem_cons_zero, Act.put, Act.eval, List.setIfInBounds_toArray, List.set_cons_zero, List.set_cons_succ, Array.getD_eq_getD_getElem?, List.getElem?_toArray, List.getElem?_cons_succ, List.getElem?_cons_zero, Option.getD_some]) | (refine t_val rfl rfl ?_; apply Exists.intro; refine ⟨fun w' hC' => ?_, ?_⟩; (obtain ⟨b0, b1, b2, b3, b4, o1, o2⟩ := HS.out w' hC'; obtain ⟨-, -, hX, hY⟩ := hC'; go_simp; (first | done | exact rfl)); simp only [List.getElem_toArray, List.getElem_cons_succ, List.getElem_cons_zero, Act.put, Act.eval, List.setIfInBounds_toArray, List.set_cons_zero, List.set_cons_succ, Array.getD_eq_getD_getElem?, List.getElem?_toArray, List.getElem?_cons_succ, List.getElem?_cons_zero, Option.getD_some]) | (refine p_off rfl rfl ?_; simp only [List.getElem_toArray, List.getElem_cons_succ, List.getElem_cons_zero, Act.put, Act.eval, List.setIfInBounds_toArray, List.set_cons_zero, List.set_cons_succ, Array.getD_eq_getD_getElem?, List.getElem?_toArray, List.getElem?_cons_succ, List.getElem?_cons_zero, Option.getD_some]) | (refine p_val rfl rfl ?_; apply Exists.intro; refine ⟨fun w' => ?_, ?_⟩; (go_simp; (first | done | exact rfl)); simp only [List.getElem_toArray, List.getElem_cons_succ, List.getElem_cons_zero, Act.put, Act.eval, List.setIfInBounds_toArray, List.set_cons_zero, List.set_cons_succ, Array.getD_eq_getD_getElem?, List.getElem?_toArray, List.getElem?_cons_succ, List.getElem?_cons_zero, Option.getD_some]))
    refine r_off rfl rfl ⟨HC1.out.r, HO.out, X.out, Y.out⟩ ?_
    simp only [List.getElem_toArray, List.getElem_cons_succ, List.getElem_cons_zero, Act.put, Act.eval, List.setIfInBounds_toArray, List.set_cons_zero, List.set_cons_succ, Array.getD_eq_getD_getElem?, List.getElem?_toArray, List.getElem?_cons_succ, List.getElem?_cons_zero, Option.getD_some]
    repeat (first | (refine t_off rfl rfl ?_; simp only [List.getElem_toArray, List.getElem_cons_succ, List.getElem_cons_zero, Act.put, Act.eval, List.setIfInBounds_toArray, List.set_cons_zero, List.set_cons_succ, Array.getD_eq_getD_getElem?, List.getElem?_toArray, List.getElem?_cons_succ, List.getElem?_cons_zero, Option.getD_some]) | (refine t_move rfl _ rfl rfl ?_; simp only [List.getElem_toArray, List.getElem_cons_succ, List.getElem_cons_zero, Act.put, Act.eval, List.setIfInBounds_toArray, List.set_cons_zero, List.set_cons_succ, Array.getD_eq_getD_getElem?, List.getElem?_toArray, List.getElem?_cons_succ, List.getElem?_cons_zero, Option.getD_some]) | (refine t_assign rfl _ rfl rfl ?_; simp only [List.getElem_toArray, List.getElem_cons_succ, List.getElem_cons_zero, Act.put, Act.eval, List.setIfInBounds_toArray, List.set_cons_zero, List.set_cons_succ, Array.getD_eq_getD_getElem?, List.getElem?_toArray, List.getElem?_cons_succ, List.getElem?_cons_zero, Option.getD_some]) | (refine t_val rfl rfl ?_; apply Exists.intro; refine ⟨fun w' hC' => ?_, ?_⟩; (obtain ⟨b0, b1, b2, b3, b4, o1, o2⟩ := HS.out w' hC'; obtain ⟨-, -, hX, hY⟩ := hC'; go_simp; (first | done | exact rfl)); simp only [List.getElem_toArray, List.getElem_cons_succ, List.getElem_cons_zero, Act.put, Act.eval, List.setIfInBounds_toArray, List.set_cons_zero, List.set_cons_succ, Array.getD_eq_getD_getElem?, List.getElem?_toArray, List.getElem?_cons_succ, List.getElem?_cons_zero, Option.getD_some]) | (refine p_off rfl rfl ?_; simp only [List.getElem_toArray, List.getElem_cons_succ, List.getElem_cons_zero, Act.put, Act.eval, List.setIfInBounds_toArray, List.set_cons_zero, List.set_cons_succ, Array.getD_eq_getD_getElem?, List.getElem?_toArray, List.getElem?_cons_succ, List.getElem?_cons_zero, Option.getD_some]) | (refine p_val rfl rfl ?_; apply Exists.intro; refine ⟨fun w' => ?_, ?_⟩; (go_simp; (first | done | exact rfl)); simp only [List.getElem_toArray, List.getElem_cons_succ, List.getElem_cons_zero, Act.put, Act.eval, List.setIfInBounds_toArray, List.set_cons_zero, List.set_cons_succ, Array.getD_eq_getD_getElem?, List.getElem?_toArray, List.getElem?_cons_succ, List.getElem?_cons_zero, Option.getD_some]))
    refine r_off rfl rfl ⟨HC1.out.r, HO.out, X.out, Y.out⟩ ?_
    simp only [List.getElem_toArray, List.getElem_cons_succ, List.getElem_cons_zero, Act.put, Act.eval, List.setIfInBounds_toArray, List.set_cons_zero, List.set_cons_succ, Array.getD_eq_getD_getElem?, List.getElem?_toArray, List.getElem?_cons_succ, List.getElem?_cons_zero, Option.getD_some]
    repeat (first | (refine t_off rfl rfl ?_; simp only [List.getElem_toArray, List.getElem_cons_succ, List.getElem_cons_zero, Act.put, Act.eval, List.setIfInBounds_toArray, List.set_cons_zero, List.set_cons_succ, Array.getD_eq_getD_getElem?, List.getElem?_toArray, List.getElem?_cons_succ, List.getElem?_cons_zero, Option.getD_some]) | (refine t_move rfl _ rfl rfl ?_; simp only [List.getElem_toArray, List.getElem_cons_succ, List.getElem_cons_zero, Act.put, Act.eval, List.setIfInBounds_toArray, List.set_cons_zero, List.set_cons_succ, Array.getD_eq_getD_getElem?, List.getElem?_toArray, List.getElem?_cons_succ, List.getElem?_cons_zero, Option.getD_some]) | (refine t_assign rfl _ rfl rfl ?_; simp only [List.getElem_toArray, List.getElem_cons_succ, List.getElem_cons_zero, Act.put, Act.eval, List.setIfInBounds_toArray, List.set_cons_zero, List.set_cons_succ, Array.getD_eq_getD_getElem?, List.getElem?_toArray, List.getElem?_cons_succ, List.getElem?_cons_zero, Option.getD_some]) | (refine t_val rfl rfl ?_; apply Exists.intro; refine ⟨fun w' hC' => ?_, ?_⟩; (obtain ⟨b0, b1, b2, b3, b4, o1, o2⟩ := HS.out w' hC'; obtain ⟨-, -, hX, hY⟩ := hC'; go_simp; (first | done | exact rfl)); simp only [List.getElem_toArray, List.getElem_cons_succ, List.getElem_cons_zero, Act.put, Act.eval, List.setIfInBounds_toArray, List.set_cons_zero, List.set_cons_succ, Array.getD_eq_getD_getElem?, List.getElem?_toArray, List.getElem?_cons_succ, List.getElem?_cons_zero, Option.getD_some]) | (refine p_off rfl rfl ?_; simp only [List.getElem_toArray, List.getElem_cons_succ, List.getElem_cons_zero, Act.put, Act.eval, List.setIfInBounds_toArray, List.set_cons_zero, List.set_cons_succ, Array.getD_eq_getD_getElem?, List.getElem?_toArray, List.getElem?_cons_succ, List.getElem?_cons_zero, Option.getD_some]) | (refine p_val rfl rfl ?_; apply Exists.intro; refine ⟨fun w' => ?_, ?_⟩; (go_simp; (first | done | exact rfl)); simp only [List.getElem_toArray, List.getElem_cons_succ, List.getElem_cons_zero, Act.put, Act.eval, List.setIfInBounds_toArray, List.set_cons_zero, List.set_cons_succ, Array.getD_eq_getD_getElem?, List.getElem?_toArray, List.getElem?_cons_succ, List.getElem?_cons_zero, Option.getD_some]))
    obtain ⟨f0, f1, f2, f3, f4⟩ := HC3.out.free
    obtain ⟨g0, g1, g2, g3, g4⟩ := HC3.out.cells
    refine r_any rfl rfl (fun K hK => ?_)
    go_simp
    have hk := put5_kb (Z := fun b => b = w.heap.size + 2) u4' (w.heap.size + 1 + 1) (.slice (some ⟨bl, ol, none⟩) n cl) (.slice ad2 R.op.length c2) (.bool R.down) (.int .i64 R.steps) (.slice ad3 R.plan.length c3) rfl
    unfold put5 at hk
    refine hK _ _ (fun u => readAt u w.heap.size 0 5 = some #[.slice (some ⟨bl, ol, none⟩) n cl, .slice ad2 R.op.length c2, .bool R.down, .int .i64 R.steps, .slice ad3 R.plan.length c3] ∧ readAt u (w.heap.size + 1) 0 4 = some #[.int .i64 0, .int .i64 at_, .int .u8 (byte.toNat : Int), .slice ado cuts.length co] ∧ readAt u bX 0 64 = some (av x) ∧ readAt u bY 0 64 = some (av y)) (fun _ h => h) ?_ ?_
    · refine ⟨(rd_same (hk.block _ HC1.out.lt (by omega)) 0 5).trans HC1.out.r, (rd_same (hk.block _ (readAt_lt HO.out) (by omega)) 0 4).trans HO.out, (rd_same (hk.block _ (readAt_lt X.out) (by have := HX.out; omega)) 0 64).trans X.out, (rd_same (hk.block _ (readAt_lt Y.out) (by have := HY.out; omega)) 0 64).trans Y.out⟩
    clear hK K
    try simp only [List.getElem_toArray, List.getElem_cons_succ, List.getElem_cons_zero, Act.put, Act.eval, List.setIfInBounds_toArray, List.set_cons_zero, List.set_cons_succ, Array.getD_eq_getD_getElem?, List.getElem?_toArray, List.getElem?_cons_succ, List.getElem?_cons_zero, Option.getD_some]
    repeat (first | (refine t_off rfl rfl ?_; simp only [List.getElem_toArray, List.getElem_cons_succ, List.getElem_cons_zero, Act.put, Act.eval, List.setIfInBounds_toArray, List.set_cons_zero, List.set_cons_succ, Array.getD_eq_getD_getElem?, List.getElem?_toArray, List.getElem?_cons_succ, List.getElem?_cons_zero, Option.getD_some]) | (refine t_move rfl _ rfl rfl ?_; simp only [List.getElem_toArray, List.getElem_cons_succ, List.getElem_cons_zero, Act.put, Act.eval, List.setIfInBounds_toArray, List.set_cons_zero, List.set_cons_succ, Array.getD_eq_getD_getElem?, List.getElem?_toArray, List.getElem?_cons_succ, List.getElem?_cons_zero, Option.getD_some]) | (refine t_assign rfl _ rfl rfl ?_; simp only [List.getElem_toArray, List.getElem_cons_succ, List.getElem_cons_zero, Act.put, Act.eval, List.setIfInBounds_toArray, List.set_cons_zero, List.set_cons_succ, Array.getD_eq_getD_getElem?, List.getElem?_toArray, List.getElem?_cons_succ, List.getElem?_cons_zero, Option.getD_some]) | (refine t_val rfl rfl ?_; apply Exists.intro; refine ⟨fun w' hC' => ?_, ?_⟩; (obtain ⟨b0, b1, b2, b3, b4, o1, o2⟩ := HS.out w' hC'; obtain ⟨-, -, hX, hY⟩ := hC'; go_simp; (first | done | exact rfl)); simp only [List.getElem_toArray, List.getElem_cons_succ, List.getElem_cons_zero, Act.put, Act.eval, List.setIfInBounds_toArray, List.set_cons_zero, List.set_cons_succ, Array.getD_eq_getD_getElem?, List.getElem?_toArray, List.getElem?_cons_succ, List.getElem?_cons_zero, Option.getD_some]) | (refine p_off rfl rfl ?_; simp only [List.getElem_toArray, List.getElem_cons_succ, List.getElem_cons_zero, Act.put, Act.eval, List.setIfInBounds_toArray, List.set_cons_zero, List.set_cons_succ, Array.getD_eq_getD_getElem?, List.getElem?_toArray, List.getElem?_cons_succ, List.getElem?_cons_zero, Option.getD_some]) | (refine p_val rfl rfl ?_; apply Exists.intro; refine ⟨fun w' => ?_, ?_⟩; (go_simp; (first | done | exact rfl)); simp only [List.getElem_toArray, List.getElem_cons_succ, List.getElem_cons_zero, Act.put, Act.eval, List.setIfInBounds_toArray, List.set_cons_zero, List.set_cons_succ, Array.getD_eq_getD_getElem?, List.getElem?_toArray, List.getElem?_cons_succ, List.getElem?_cons_zero, Option.getD_some]))
    refine t_done ?_
    go_wp2
    refine bodyPost_ret (v := .tuple #[.agg #[.slice (some ⟨bl, ol, none⟩) n cl, .slice ad2 R.op.length c2, .bool R.down, .int .i64 R.steps, .slice ad3 R.plan.length c3], .bool false]) (by simp [results, Try.results22, go_sem, g0, g1, g2, g3, g4]) rfl ?_
    exact (HP.out.own (i := 2) (by omega) hk).done (fun h => absurd (congrArg Prod.fst (Hsame.out h)) Hxy.out)

set_option maxRecDepth 100000 in
set_option maxHeartbeats 6400000 in
theorem play1 (Z : Nat → Prop) (w0 w : World) (p : DP) (n m : Nat) (D R : DM) (a b c : Value) (at_ : Int) (byte : UInt8) (cuts : List Int) (ado : Option Addr) (co : Nat) (hB : Both2 Z w0 w p n D R a b c) (hD : OkD D n m) (hRk : OkD R n m) (hm : m + 2 ≤ 100000) (hn : n ≤ 5000) (hpl : R.plan.length ≤ 100000) (hat : at_ ≤ 1048576)
    (hc : RdS w0 (.slice ado cuts.length co) cuts.length 1 (cuts.map (Value.int .i64))) (hcl : cuts.length ≤ 20) :
    Calls Try.prog 22 #[.pointer (some ⟨p.B, 0, none⟩), .agg (rV R a b c), .agg #[.int .i64 1, .int .i64 at_, .int .u8 (byte.toNat : Int), .slice ado cuts.length co]] w (PNext2 Z w0 w p n ((writeD D at_ (fill byte)).1) ((writeD R at_ (fill byte)).1) (D = R)) := by
  obtain ⟨bl, ol, cl, ad2, ad3, c2, c3, rfl, rfl, rfl⟩ := hB.r.open_
  unfold rV
  have HB := Lib.hid hB
  have HD := Lib.hid hD
  have HRk := Lib.hid hRk
  have Hc := Lib.hid hc
  clear hB hD hRk hc
  go_enter Try.func22, Try.ntmps22
  go_wp2_with fail
  obtain ⟨W, hW⟩ : ∃ W, ((w.alloc (.cells #[.slice (some ⟨bl, ol, none⟩) n cl, .slice ad2 R.op.length c2, .bool R.down, .int .i64 R.steps, .slice ad3 R.plan.length c3] 46)).alloc (.cells #[.int .i64 1, .int .i64 at_, .int .u8 (byte.toNat : Int), .slice ado cuts.length co] 30)).alloc (.cells #[.slice none 0 0, .slice none 0 0, .bool false, .int .i64 0, .slice none 0 0] 46) = W := ⟨_, rfl⟩
  have hb : Below w.heap.size w W := by rw [← hW]; exact ba _ (ba _ (ba _ (Below.refl _ _)))
  have HP := Lib.hid (HB.out.start hb (by rw [← hW]; simp))
  have HC1 : Hid (C5 W w.heap.size (.slice (some ⟨bl, ol, none⟩) n cl) (.slice ad2 R.op.length c2) (.bool R.down) (.int .i64 R.steps) (.slice ad3 R.plan.length c3)) := by
    unfold Hid; rw [← hW]; exact ((C5.made w _ _ _ _ _ _).below (ba _ (Below.refl _ _))).below (ba _ (Below.refl _ _))
  have HO : Hid (readAt W (w.heap.size + 1) 0 4 = some #[.int .i64 1, .int .i64 at_, .int .u8 (byte.toNat : Int), .slice ado cuts.length co]) := by
    unfold Hid; rw [← hW, readAt_alloc_past _ _ _ _ _ (by simp)]; have h1 := readAt_alloc_at (w.alloc (.cells #[.slice (some ⟨bl, ol, none⟩) n cl, .slice ad2 R.op.length c2, .bool R.down, .int .i64 R.steps, .slice ad3 R.plan.length c3] 46)) #[.int .i64 1, .int .i64 at_, .int .u8 (byte.toNat : Int), .slice ado cuts.length co] 30 (0, 0) (w.heap.size + 1) 0 4 (by simp) (by simp); rw [h1]; rfl
  have HC3 : Hid (C5 W (w.heap.size + 1 + 1) (.slice none 0 0) (.slice none 0 0) (.bool false) (.int .i64 0) (.slice none 0 0)) := by
    unfold Hid; rw [← hW]; have h1 := C5.made ((w.alloc (.cells #[.slice (some ⟨bl, ol, none⟩) n cl, .slice ad2 R.op.length c2, .bool R.down, .int .i64 R.steps, .slice ad3 R.plan.length c3] 46)).alloc (.cells #[.int .i64 1, .int .i64 at_, .int .u8 (byte.toNat : Int), .slice ado cuts.length co] 30)) 46 (.slice none 0 0) (.slice none 0 0) (.bool false) (.int .i64 0) (.slice none 0 0); simpa using h1
  rw [hW]
  clear hW hb
  have Hsame : Hid (D = R → (writeD D at_ (fill byte)).2 = (writeD R at_ (fill byte)).2) := fun h => by rw [h]
  generalize hD2 : (writeD D at_ (fill byte)).1 = D2 at *
  generalize hcd : (writeD D at_ (fill byte)).2 = cd at *
  generalize hR2 : (writeD R at_ (fill byte)).1 = R2 at *
  generalize hcr : (writeD R at_ (fill byte)).2 = cr at *
  have HS : Hid (∀ u : World, ((fun u => readAt u w.heap.size 0 5 = some #[.slice (some ⟨bl, ol, none⟩) n cl, .slice ad2 R.op.length c2, .bool R.down, .int .i64 R.steps, .slice ad3 R.plan.length c3] ∧ readAt u (w.heap.size + 1) 0 4 = some #[.int .i64 1, .int .i64 at_, .int .u8 (byte.toNat : Int), .slice ado cuts.length co])) u → u.cell? ⟨w.heap.size, 0, none⟩ = some (.slice (some ⟨bl, ol, none⟩) n cl) ∧ u.cell? ⟨w.heap.size, 1, none⟩ = some (.slice ad2 R.op.length c2) ∧ u.cell? ⟨w.heap.size, 2, none⟩ = some (.bool R.down) ∧ u.cell? ⟨w.heap.size, 3, none⟩ = some (.int .i64 R.steps) ∧ u.cell? ⟨w.heap.size, 4, none⟩ = some (.slice ad3 R.plan.length c3) ∧ u.cell? ⟨w.heap.size + 1, 1, none⟩ = some (.int .i64 at_) ∧ u.cell? ⟨w.heap.size + 1, 2, none⟩ = some (.int .u8 (byte.toNat : Int))) := fun u hu => by
    have hc := fun i v hv => readAt_cell hu.1 i v hv
    have hd := fun i v hv => readAt_cell hu.2 i v hv
    simp only [Nat.zero_add] at hc hd
    exact ⟨hc 0 _ rfl, hc 1 _ rfl, hc 2 _ rfl, hc 3 _ rfl, hc 4 _ rfl, hd 1 _ rfl, hd 2 _ rfl⟩
  refine wp_region_tr (.take 0 (.take 1 (.take 2 (.take 3 (.take 4 (.run 5 (.run 6 (.take 7 (.take 8 (.pure 9 (.brk 10 (.take 11 .done)))))))))))) (fun u => readAt u w.heap.size 0 5 = some #[.slice (some ⟨bl, ol, none⟩) n cl, .slice ad2 R.op.length c2, .bool R.down, .int .i64 R.steps, .slice ad3 R.plan.length c3] ∧ readAt u (w.heap.size + 1) 0 4 = some #[.int .i64 1, .int .i64 at_, .int .u8 (byte.toNat : Int), .slice ado cuts.length co]) (by kernel_rfl) (by kernel_rfl) rfl (by kernel_rfl) ⟨HC1.out.r, HO.out⟩ ?_
  have hb := (Below.refl W.heap.size W).drew
  have HP2 := Lib.hid (HP.out.below hb)
  have HC2 := Lib.hid (HC1.out.below hb)
  have HO2 : Hid (readAt (W.drew) (w.heap.size + 1) 0 4 = some #[.int .i64 1, .int .i64 at_, .int .u8 (byte.toNat : Int), .slice ado cuts.length co]) := (readAt_below hb (readAt_lt HO.out) 0 4).trans HO.out
  have HC4 := Lib.hid (HC3.out.below hb)
  clear HP HC1 HO HC3
  have HP := HP2
  have HC1 := HC2
  have HO := HO2
  have HC3 := HC4
  clear HP2 HC2 HO2 HC4
  clear hb
  generalize W.drew = W' at *
  repeat (first | (refine t_off rfl rfl ?_; simp only [List.getElem_toArray, List.getElem_cons_succ, List.getElem_cons_zero, Act.put, Act.eval, List.setIfInBounds_toArray, List.set_cons_zero, List.set_cons_succ, Array.getD_eq_getD_getElem?, List.getElem?_toArray, List.getElem?_cons_succ, List.getElem?_cons_zero, Option.getD_some]) | (refine t_move rfl _ rfl rfl ?_; simp only [List.getElem_toArray, List.getElem_cons_succ, List.getElem_cons_zero, Act.put, Act.eval, List.setIfInBounds_toArray, List.set_cons_zero, List.set_cons_succ, Array.getD_eq_getD_getElem?, List.getElem?_toArray, List.getElem?_cons_succ, List.getElem?_cons_zero, Option.getD_some]) | (refine t_assign rfl _ rfl rfl ?_; simp only [List.getElem_toArray, List.getElem_cons_succ, List.getElem_cons_zero, Act.put, Act.eval, List.setIfInBounds_toArray, List.set_cons_zero, List.set_cons_succ, Array.getD_eq_getD_getElem?, List.getElem?_toArray, List.getElem?_cons_succ, List.getElem?_cons_zero, Option.getD_some]) | (refine t_val rfl rfl ?_; apply Exists.intro; refine ⟨fun w' hC' => ?_, ?_⟩; (obtain ⟨b0, b1, b2, b3, b4, o1, o2⟩ := HS.out w' hC'; go_simp; (first | done | exact rfl)); simp only [List.getElem_toArray, List.getElem_cons_succ, List.getElem_cons_zero, Act.put, Act.eval, List.setIfInBounds_toArray, List.set_cons_zero, List.set_cons_succ, Array.getD_eq_getD_getElem?, List.getElem?_toArray, List.getElem?_cons_succ, List.getElem?_cons_zero, Option.getD_some]) | (refine p_off rfl rfl ?_; simp only [List.getElem_toArray, List.getElem_cons_succ, List.getElem_cons_zero, Act.put, Act.eval, List.setIfInBounds_toArray, List.set_cons_zero, List.set_cons_succ, Array.getD_eq_getD_getElem?, List.getElem?_toArray, List.getElem?_cons_succ, List.getElem?_cons_zero, Option.getD_some]) | (refine p_val rfl rfl ?_; apply Exists.intro; refine ⟨fun w' => ?_, ?_⟩; (go_simp; (first | done | exact rfl)); simp only [List.getElem_toArray, List.getElem_cons_succ, List.getElem_cons_zero, Act.put, Act.eval, List.setIfInBounds_toArray, List.set_cons_zero, List.set_cons_succ, Array.getD_eq_getD_getElem?, List.getElem?_toArray, List.getElem?_cons_succ, List.getElem?_cons_zero, Option.getD_some]))
  refine r_call rfl rfl ?_; apply Exists.intro; apply Exists.intro; refine ⟨?_, ?_⟩; (go_simp; exact ⟨rfl, rfl⟩)
  refine (fill_u8 byte _).mono ?_
  rintro _ u1 ⟨rfl, hb1⟩
  have HP2 := Lib.hid (HP.out.below hb1)
  have HC2 := Lib.hid (HC1.out.below hb1)
  have HO2 : Hid (readAt (u1) (w.heap.size + 1) 0 4 = some #[.int .i64 1, .int .i64 at_, .int .u8 (byte.toNat : Int), .slice ado cuts.length co]) := (readAt_below hb1 (readAt_lt HO.out) 0 4).trans HO.out
  have HC4 := Lib.hid (HC3.out.below hb1)
  clear HP HC1 HO HC3
  have HP := HP2
  have HC1 := HC2
  have HO := HO2
  have HC3 := HC4
  clear HP2 HC2 HO2 HC4
  clear hb1
  refine ⟨_, rfl, _, fun _ h => h, ⟨HC1.out.r, HO.out⟩, ?_⟩; simp only [List.getElem_toArray, List.getElem_cons_succ, List.getElem_cons_zero, Act.put, Act.eval, List.setIfInBounds_toArray, List.set_cons_zero, List.set_cons_succ, Array.getD_eq_getD_getElem?, List.getElem?_toArray, List.getElem?_cons_succ, List.getElem?_cons_zero, Option.getD_some]
  refine r_call rfl rfl ?_; apply Exists.intro; apply Exists.intro; refine ⟨?_, ?_⟩; (go_simp; exact ⟨rfl, rfl⟩)
  have hcall := (hR2 ▸ hcr ▸ rdwrite_any u1 _ n m R _ _ _ at_ (fill byte) HP.out.r HP.out.lt HRk.out hm hn hpl : Calls Try.prog 38 #[.agg (rV R _ _ _), .int .i64 at_, .agg (av (fill byte))] u1 fun e w' => (∃ v, e = .returned (.tuple #[v, .int .i64 cr]) ∧ RNext w' _ n R2 v) ∧ Below u1.heap.size u1 w')
  unfold rV at hcall
  refine hcall.mono ?_
  rintro _ u2 ⟨⟨v, rfl, a2, b2, c4, rfl, hr2⟩, hb2⟩
  obtain ⟨bl2, ol2, cl2, ad22, ad32, c22, c32, rfl, rfl, rfl⟩ := hr2.open_
  have hPr := HP.out.ref hb2 hr2
  have HP2 := Lib.hid (HP.out.below hb2)
  have HC2 := Lib.hid (HC1.out.below hb2)
  have HO2 : Hid (readAt (u2) (w.heap.size + 1) 0 4 = some #[.int .i64 1, .int .i64 at_, .int .u8 (byte.toNat : Int), .slice ado cuts.length co]) := (readAt_below hb2 (readAt_lt HO.out) 0 4).trans HO.out
  have HC4 := Lib.hid (HC3.out.below hb2)
  clear HP HC1 HO HC3
  have HP := HP2
  have HC1 := HC2
  have HO := HO2
  have HC3 := HC4
  clear HP2 HC2 HO2 HC4
  clear HP
  have HP := Lib.hid hPr
  clear hPr hr2 hb2 hcall
  unfold rV
  refine ⟨_, rfl, _, fun _ h => h, ⟨HC1.out.r, HO.out⟩, ?_⟩; simp only [List.getElem_toArray, List.getElem_cons_succ, List.getElem_cons_zero, Act.put, Act.eval, List.setIfInBounds_toArray, List.set_cons_zero, List.set_cons_succ, Array.getD_eq_getD_getElem?, List.getElem?_toArray, List.getElem?_cons_succ, List.getElem?_cons_zero, Option.getD_some]
  repeat (first | (refine t_off rfl rfl ?_; simp only [List.getElem_toArray, List.getElem_cons_succ, List.getElem_cons_zero, Act.put, Act.eval, List.setIfInBounds_toArray, List.set_cons_zero, List.set_cons_succ, Array.getD_eq_getD_getElem?, List.getElem?_toArray, List.getElem?_cons_succ, List.getElem?_cons_zero, Option.getD_some]) | (refine t_move rfl _ rfl rfl ?_; simp only [List.getElem_toArray, List.getElem_cons_succ, List.getElem_cons_zero, Act.put, Act.eval, List.setIfInBounds_toArray, List.set_cons_zero, List.set_cons_succ, Array.getD_eq_getD_getElem?, List.getElem?_toArray, List.getElem?_cons_succ, List.getElem?_cons_zero, Option.getD_some]) | (refine t_assign rfl _ rfl rfl ?_; simp only [List.getElem_toArray, List.getElem_cons_succ, List.getElem_cons_zero, Act.put, Act.eval, List.setIfInBounds_toArray, List.set_cons_zero, List.set_cons_succ, Array.getD_eq_getD_getElem?, List.getElem?_toArray, List.getElem?_cons_succ, List.getElem?_cons_zero, Option.getD_some]) | (refine t_val rfl rfl ?_; apply Exists.intro; refine ⟨fun w' hC' => ?_, ?_⟩; (obtain ⟨b0, b1, b2, b3, b4, o1, o2⟩ := HS.out w' hC'; go_simp; (first | done | exact rfl)); simp only [List.getElem_toArray, List.getElem_cons_succ, List.getElem_cons_zero, Act.put, Act.eval, List.setIfInBounds_toArray, List.set_cons_zero, List.set_cons_succ, Array.getD_eq_getD_getElem?, List.getElem?_toArray, List.getElem?_cons_succ, List.getElem?_cons_zero, Option.getD_some]) | (refine p_off rfl rfl ?_; simp only [List.getElem_toArray, List.getElem_cons_succ, List.getElem_cons_zero, Act.put, Act.eval, List.setIfInBounds_toArray, List.set_cons_zero, List.set_cons_succ, Array.getD_eq_getD_getElem?, List.getElem?_toArray, List.getElem?_cons_succ, List.getElem?_cons_zero, Option.getD_some]) | (refine p_val rfl rfl ?_; apply Exists.intro; refine ⟨fun w' => ?_, ?_⟩; (go_simp; (first | done | exact rfl)); simp only [List.getElem_toArray, List.getElem_cons_succ, List.getElem_cons_zero, Act.put, Act.eval, List.setIfInBounds_toArray, List.set_cons_zero, List.set_cons_succ, Array.getD_eq_getD_getElem?, List.getElem?_toArray, List.getElem?_cons_succ, List.getElem?_cons_zero, Option.getD_some]))
  obtain ⟨e0, e1, e2, e3, e4⟩ := HC1.out.free
  obtain ⟨b0, b1, b2, b3, b4⟩ := HC1.out.cells
  refine b_any rfl rfl (fun K hK => ?_)
  go_simp
  refine hK _ _ (fun _ => True) trivial ?_
  clear hK K e0 e1 e2 e3 e4 b0 b1 b2 b3 b4
  try simp only [List.getElem_toArray, List.getElem_cons_succ, List.getElem_cons_zero, Act.put, Act.eval, List.setIfInBounds_toArray, List.set_cons_zero, List.set_cons_succ, Array.getD_eq_getD_getElem?, List.getElem?_toArray, List.getElem?_cons_succ, List.getElem?_cons_zero, Option.getD_some]
  repeat (first | (refine t_off rfl rfl ?_; simp only [List.getElem_toArray, List.getElem_cons_succ, List.getElem_cons_zero, Act.put, Act.eval, List.setIfInBounds_toArray, List.set_cons_zero, List.set_cons_succ, Array.getD_eq_getD_getElem?, List.getElem?_toArray, List.getElem?_cons_succ, List.getElem?_cons_zero, Option.getD_some]) | (refine t_move rfl _ rfl rfl ?_; simp only [List.getElem_toArray, List.getElem_cons_succ, List.getElem_cons_zero, Act.put, Act.eval, List.setIfInBounds_toArray, List.set_cons_zero, List.set_cons_succ, Array.getD_eq_getD_getElem?, List.getElem?_toArray, List.getElem?_cons_succ, List.getElem?_cons_zero, Option.getD_some]) | (refine t_assign rfl _ rfl rfl ?_; simp only [List.getElem_toArray, List.getElem_cons_succ, List.getElem_cons_zero, Act.put, Act.eval, List.setIfInBounds_toArray, List.set_cons_zero, List.set_cons_succ, Array.getD_eq_getD_getElem?, List.getElem?_toArray, List.getElem?_cons_succ, List.getElem?_cons_zero, Option.getD_some]) | (refine t_val rfl rfl ?_; apply Exists.intro; refine ⟨fun w' hC' => ?_, ?_⟩; (skip; go_simp; (first | done | exact rfl)); simp only [List.getElem_toArray, List.getElem_cons_succ, List.getElem_cons_zero, Act.put, Act.eval, List.setIfInBounds_toArray, List.set_cons_zero, List.set_cons_succ, Array.getD_eq_getD_getElem?, List.getElem?_toArray, List.getElem?_cons_succ, List.getElem?_cons_zero, Option.getD_some]) | (refine p_off rfl rfl ?_; simp only [List.getElem_toArray, List.getElem_cons_succ, List.getElem_cons_zero, Act.put, Act.eval, List.setIfInBounds_toArray, List.set_cons_zero, List.set_cons_succ, Array.getD_eq_getD_getElem?, List.getElem?_toArray, List.getElem?_cons_succ, List.getElem?_cons_zero, Option.getD_some]) | (refine p_val rfl rfl ?_; apply Exists.intro; refine ⟨fun w' => ?_, ?_⟩; (go_simp; (first | done | exact rfl)); simp only [List.getElem_toArray, List.getElem_cons_succ, List.getElem_cons_zero, Act.put, Act.eval, List.setIfInBounds_toArray, List.set_cons_zero, List.set_cons_succ, Array.getD_eq_getD_getElem?, List.getElem?_toArray, List.getElem?_cons_succ, List.getElem?_cons_zero, Option.getD_some]))
  refine t_done ?_
  have hk := put5_kb (Z := fun b => b = w.heap.size + 0) u2 w.heap.size (.slice (some ⟨bl2, ol2, none⟩) n cl2) (.slice ad22 R2.op.length c22) (.bool R2.down) (.int .i64 R2.steps) (.slice ad32 R2.plan.length c32) rfl
  have hC := Lib.hid (HC1.out.put (.slice (some ⟨bl2, ol2, none⟩) n cl2) (.slice ad22 R2.op.length c22) (.bool R2.down) (.int .i64 R2.steps) (.slice ad32 R2.plan.length c32))
  unfold put5 at hk hC
  have HP2 := Lib.hid (HP.out.own (i := 0) (by omega) hk)
  have HO2 : Hid (readAt (((((u2.setCell ⟨w.heap.size, 0, none⟩ (.slice (some ⟨bl2, ol2, none⟩) n cl2)).setCell ⟨w.heap.size, 1, none⟩ (.slice ad22 R2.op.length c22)).setCell ⟨w.heap.size, 2, none⟩ (.bool R2.down)).setCell ⟨w.heap.size, 3, none⟩ (.int .i64 R2.steps)).setCell ⟨w.heap.size, 4, none⟩ (.slice ad32 R2.plan.length c32)) (w.heap.size + 1) 0 4 = some #[.int .i64 1, .int .i64 at_, .int .u8 (byte.toNat : Int), .slice ado cuts.length co]) := (rd_same (hk.block _ (readAt_lt HO.out) (by omega)) 0 4).trans HO.out
  have HC4 := Lib.hid (HC3.out.kb hk (by omega))
  clear hk
  clear HP HC1 HO HC3
  have HP := HP2
  have HC1 := hC
  have HO := HO2
  have HC3 := HC4
  clear HP2 hC HO2 HC4
  clear HS
  generalize (((((u2.setCell ⟨w.heap.size, 0, none⟩ (.slice (some ⟨bl2, ol2, none⟩) n cl2)).setCell ⟨w.heap.size, 1, none⟩ (.slice ad22 R2.op.length c22)).setCell ⟨w.heap.size, 2, none⟩ (.bool R2.down)).setCell ⟨w.heap.size, 3, none⟩ (.int .i64 R2.steps)).setCell ⟨w.heap.size, 4, none⟩ (.slice ad32 R2.plan.length c32)) = u3 at *
  go_upto_region 9 with fail
  have HS : Hid (∀ u : World, ((fun u => readAt u w.heap.size 0 5 = some #[.slice (some ⟨bl2, ol2, none⟩) n cl2, .slice ad22 R2.op.length c22, .bool R2.down, .int .i64 R2.steps, .slice ad32 R2.plan.length c32] ∧ readAt u (w.heap.size + 1) 0 4 = some #[.int .i64 1, .int .i64 at_, .int .u8 (byte.toNat : Int), .slice ado cuts.length co])) u → u.cell? ⟨w.heap.size, 0, none⟩ = some (.slice (some ⟨bl2, ol2, none⟩) n cl2) ∧ u.cell? ⟨w.heap.size, 1, none⟩ = some (.slice ad22 R2.op.length c22) ∧ u.cell? ⟨w.heap.size, 2, none⟩ = some (.bool R2.down) ∧ u.cell? ⟨w.heap.size, 3, none⟩ = some (.int .i64 R2.steps) ∧ u.cell? ⟨w.heap.size, 4, none⟩ = some (.slice ad32 R2.plan.length c32) ∧ u.cell? ⟨w.heap.size + 1, 1, none⟩ = some (.int .i64 at_) ∧ u.cell? ⟨w.heap.size + 1, 2, none⟩ = some (.int .u8 (byte.toNat : Int))) := fun u hu => by
    have hc := fun i v hv => readAt_cell hu.1 i v hv
    have hd := fun i v hv => readAt_cell hu.2 i v hv
    simp only [Nat.zero_add] at hc hd
    exact ⟨hc 0 _ rfl, hc 1 _ rfl, hc 2 _ rfl, hc 3 _ rfl, hc 4 _ rfl, hd 1 _ rfl, hd 2 _ rfl⟩
  refine wp_region_tr (.take 0 (.take 1 (.take 2 (.take 3 (.take 4 (.run 5 (.run 6 (.take 7 .done)))))))) (fun u => readAt u w.heap.size 0 5 = some #[.slice (some ⟨bl2, ol2, none⟩) n cl2, .slice ad22 R2.op.length c22, .bool R2.down, .int .i64 R2.steps, .slice ad32 R2.plan.length c32] ∧ readAt u (w.heap.size + 1) 0 4 = some #[.int .i64 1, .int .i64 at_, .int .u8 (byte.toNat : Int), .slice ado cuts.length co]) (by kernel_rfl) (by kernel_rfl) rfl (by kernel_rfl) ⟨HC1.out.r, HO.out⟩ ?_
  have hb := (Below.refl u3.heap.size u3).drew
  have HP2 := Lib.hid (HP.out.below hb)
  have HC2 := Lib.hid (HC1.out.below hb)
  have HO2 : Hid (readAt (u3.drew) (w.heap.size + 1) 0 4 = some #[.int .i64 1, .int .i64 at_, .int .u8 (byte.toNat : Int), .slice ado cuts.length co]) := (readAt_below hb (readAt_lt HO.out) 0 4).trans HO.out
  have HC4 := Lib.hid (HC3.out.below hb)
  clear HP HC1 HO HC3
  have HP := HP2
  have HC1 := HC2
  have HO := HO2
  have HC3 := HC4
  clear HP2 HC2 HO2 HC4
  clear hb
  generalize u3.drew = u3' at *
  repeat (first | (refine t_off rfl rfl ?_; simp only [List.getElem_toArray, List.getElem_cons_succ, List.getElem_cons_zero, Act.put, Act.eval, List.setIfInBounds_toArray, List.set_cons_zero, List.set_cons_succ, Array.getD_eq_getD_getElem?, List.getElem?_toArray, List.getElem?_cons_succ, List.getElem?_cons_zero, Option.getD_some]) | (refine t_move rfl _ rfl rfl ?_; simp only [List.getElem_toArray, List.getElem_cons_succ, List.getElem_cons_zero, Act.put, Act.eval, List.setIfInBounds_toArray, List.set_cons_zero, List.set_cons_succ, Array.getD_eq_getD_getElem?, List.getElem?_toArray, List.getElem?_cons_succ, List.getElem?_cons_zero, Option.getD_some]) | (refine t_assign rfl _ rfl rfl ?_; simp only [List.getElem_toArray, List.getElem_cons_succ, List.getElem_cons_zero, Act.put, Act.eval, List.setIfInBounds_toArray, List.set_cons_zero, List.set_cons_succ, Array.getD_eq_getD_getElem?, List.getElem?_toArray, List.getElem?_cons_succ, List.getElem?_cons_zero, Option.getD_some]) | (refine t_val rfl rfl ?_; apply Exists.intro; refine ⟨fun w' hC' => ?_, ?_⟩; (obtain ⟨b0, b1, b2, b3, b4, o1, o2⟩ := HS.out w' hC'; go_simp; (first | done | exact rfl)); simp only [List.getElem_toArray, List.getElem_cons_succ, List.getElem_cons_zero, Act.put, Act.eval, List.setIfInBounds_toArray, List.set_cons_zero, List.set_cons_succ, Array.getD_eq_getD_getElem?, List.getElem?_toArray, List.getElem?_cons_succ, List.getElem?_cons_zero, Option.getD_some]) | (refine p_off rfl rfl ?_; simp only [List.getElem_toArray, List.getElem_cons_succ, List.getElem_cons_zero, Act.put, Act.eval, List.setIfInBounds_toArray, List.set_cons_zero, List.set_cons_succ, Array.getD_eq_getD_getElem?, List.getElem?_toArray, List.getElem?_cons_succ, List.getElem?_cons_zero, Option.getD_some]) | (refine p_val rfl rfl ?_; apply Exists.intro; refine ⟨fun w' => ?_, ?_⟩; (go_simp; (first | done | exact rfl)); simp only [List.getElem_toArray, List.getElem_cons_succ, List.getElem_cons_zero, Act.put, Act.eval, List.setIfInBounds_toArray, List.set_cons_zero, List.set_cons_succ, Array.getD_eq_getD_getElem?, List.getElem?_toArray, List.getElem?_cons_succ, List.getElem?_cons_zero, Option.getD_some]))
  refine r_call rfl rfl ?_; apply Exists.intro; apply Exists.intro; refine ⟨?_, ?_⟩; (go_simp; exact ⟨rfl, rfl⟩)
  refine (fill_u8 byte _).mono ?_
  rintro _ u4 ⟨rfl, hb1⟩
  have HP2 := Lib.hid (HP.out.below hb1)
  have HC2 := Lib.hid (HC1.out.below hb1)
  have HO2 : Hid (readAt (u4) (w.heap.size + 1) 0 4 = some #[.int .i64 1, .int .i64 at_, .int .u8 (byte.toNat : Int), .slice ado cuts.length co]) := (readAt_below hb1 (readAt_lt HO.out) 0 4).trans HO.out
  have HC4 := Lib.hid (HC3.out.below hb1)
  clear HP HC1 HO HC3
  have HP := HP2
  have HC1 := HC2
  have HO := HO2
  have HC3 := HC4
  clear HP2 HC2 HO2 HC4
  clear hb1
  refine ⟨_, rfl, _, fun _ h => h, ⟨HC1.out.r, HO.out⟩, ?_⟩; simp only [List.getElem_toArray, List.getElem_cons_succ, List.getElem_cons_zero, Act.put, Act.eval, List.setIfInBounds_toArray, List.set_cons_zero, List.set_cons_succ, Array.getD_eq_getD_getElem?, List.getElem?_toArray, List.getElem?_cons_succ, List.getElem?_cons_zero, Option.getD_some]
  refine r_call rfl rfl ?_; apply Exists.intro; apply Exists.intro; refine ⟨?_, ?_⟩; (go_simp; exact ⟨rfl, rfl⟩)
  have hcall := (hD2 ▸ hcd ▸ dwrite_any u4 at_ (fill byte) m HP.out.d HD.out hm hn HP.out.ub : Calls Try.prog 13 #[.pointer (some ⟨p.B, 0, none⟩), .int .i64 at_, .agg (av (fill byte))] u4 fun e w' => e = .returned (errV cd at_) ∧ DNext u4 w0.heap.size p n D2 w')
  refine hcall.mono ?_
  rintro _ u5 ⟨rfl, hN⟩
  obtain ⟨p1, hP1, hk1⟩ := HP.out.disk hN
  clear hcall hN
  have HP2 := Lib.hid hP1
  have HC2 := Lib.hid (HC1.out.same (hk1 0 (by omega)))
  have HO2 : Hid (readAt u5 (w.heap.size + 1) 0 4 = some #[.int .i64 1, .int .i64 at_, .int .u8 (byte.toNat : Int), .slice ado cuts.length co]) := (rd_same (hk1 1 (by omega)) 0 4).trans HO.out
  have HC4 := Lib.hid (HC3.out.same (hk1 2 (by omega)))
  clear HP HC1 HO HC3
  have HP := HP2
  have HC1 := HC2
  have HO := HO2
  have HC3 := HC4
  clear HP2 HC2 HO2 HC4
  clear hP1 hk1
  refine ⟨_, rfl, _, fun _ h => h, ⟨HC1.out.r, HO.out⟩, ?_⟩; simp only [List.getElem_toArray, List.getElem_cons_succ, List.getElem_cons_zero, Act.put, Act.eval, List.setIfInBounds_toArray, List.set_cons_zero, List.set_cons_succ, Array.getD_eq_getD_getElem?, List.getElem?_toArray, List.getElem?_cons_succ, List.getElem?_cons_zero, Option.getD_some]
  repeat (first | (refine t_off rfl rfl ?_; simp only [List.getElem_toArray, List.getElem_cons_succ, List.getElem_cons_zero, Act.put, Act.eval, List.setIfInBounds_toArray, List.set_cons_zero, List.set_cons_succ, Array.getD_eq_getD_getElem?, List.getElem?_toArray, List.getElem?_cons_succ, List.getElem?_cons_zero, Option.getD_some]) | (refine t_move rfl _ rfl rfl ?_; simp only [List.getElem_toArray, List.getElem_cons_succ, List.getElem_cons_zero, Act.put, Act.eval, List.setIfInBounds_toArray, List.set_cons_zero, List.set_cons_succ, Array.getD_eq_getD_getElem?, List.getElem?_toArray, List.getElem?_cons_succ, List.getElem?_cons_zero, Option.getD_some]) | (refine t_assign rfl _ rfl rfl ?_; simp only [List.getElem_toArray, List.getElem_cons_succ, List.getElem_cons_zero, Act.put, Act.eval, List.setIfInBounds_toArray, List.set_cons_zero, List.set_cons_succ, Array.getD_eq_getD_getElem?, List.getElem?_toArray, List.getElem?_cons_succ, List.getElem?_cons_zero, Option.getD_some]) | (refine t_val rfl rfl ?_; apply Exists.intro; refine ⟨fun w' hC' => ?_, ?_⟩; (obtain ⟨b0, b1, b2, b3, b4, o1, o2⟩ := HS.out w' hC'; go_simp; (first | done | exact rfl)); simp only [List.getElem_toArray, List.getElem_cons_succ, List.getElem_cons_zero, Act.put, Act.eval, List.setIfInBounds_toArray, List.set_cons_zero, List.set_cons_succ, Array.getD_eq_getD_getElem?, List.getElem?_toArray, List.getElem?_cons_succ, List.getElem?_cons_zero, Option.getD_some]) | (refine p_off rfl rfl ?_; simp only [List.getElem_toArray, List.getElem_cons_succ, List.getElem_cons_zero, Act.put, Act.eval, List.setIfInBounds_toArray, List.set_cons_zero, List.set_cons_succ, Array.getD_eq_getD_getElem?, List.getElem?_toArray, List.getElem?_cons_succ, List.getElem?_cons_zero, Option.getD_some]) | (refine p_val rfl rfl ?_; apply Exists.intro; refine ⟨fun w' => ?_, ?_⟩; (go_simp; (first | done | exact rfl)); simp only [List.getElem_toArray, List.getElem_cons_succ, List.getElem_cons_zero, Act.put, Act.eval, List.setIfInBounds_toArray, List.set_cons_zero, List.set_cons_succ, Array.getD_eq_getD_getElem?, List.getElem?_toArray, List.getElem?_cons_succ, List.getElem?_cons_zero, Option.getD_some]))
  refine t_done ?_
  clear HS
  go_upto_region 10 with fail
  have HS : Hid (∀ u : World, ((fun u => readAt u w.heap.size 0 5 = some #[.slice (some ⟨bl2, ol2, none⟩) n cl2, .slice ad22 R2.op.length c22, .bool R2.down, .int .i64 R2.steps, .slice ad32 R2.plan.length c32] ∧ readAt u (w.heap.size + 1) 0 4 = some #[.int .i64 1, .int .i64 at_, .int .u8 (byte.toNat : Int), .slice ado cuts.length co])) u → u.cell? ⟨w.heap.size, 0, none⟩ = some (.slice (some ⟨bl2, ol2, none⟩) n cl2) ∧ u.cell? ⟨w.heap.size, 1, none⟩ = some (.slice ad22 R2.op.length c22) ∧ u.cell? ⟨w.heap.size, 2, none⟩ = some (.bool R2.down) ∧ u.cell? ⟨w.heap.size, 3, none⟩ = some (.int .i64 R2.steps) ∧ u.cell? ⟨w.heap.size, 4, none⟩ = some (.slice ad32 R2.plan.length c32) ∧ u.cell? ⟨w.heap.size + 1, 1, none⟩ = some (.int .i64 at_) ∧ u.cell? ⟨w.heap.size + 1, 2, none⟩ = some (.int .u8 (byte.toNat : Int))) := fun u hu => by
    have hc := fun i v hv => readAt_cell hu.1 i v hv
    have hd := fun i v hv => readAt_cell hu.2 i v hv
    simp only [Nat.zero_add] at hc hd
    exact ⟨hc 0 _ rfl, hc 1 _ rfl, hc 2 _ rfl, hc 3 _ rfl, hc 4 _ rfl, hd 1 _ rfl, hd 2 _ rfl⟩
  refine wp_region_tr (.take 0 (.take 1 (.take 3 (.run 2 (.take 4 (.take 5 (.take 6 (.take 7 (.take 8 (.take 9 (.run 10 (.take 11 (.run 12 (.take 13 .done)))))))))))))) (fun u => readAt u w.heap.size 0 5 = some #[.slice (some ⟨bl2, ol2, none⟩) n cl2, .slice ad22 R2.op.length c22, .bool R2.down, .int .i64 R2.steps, .slice ad32 R2.plan.length c32] ∧ readAt u (w.heap.size + 1) 0 4 = some #[.int .i64 1, .int .i64 at_, .int .u8 (byte.toNat : Int), .slice ado cuts.length co]) (by kernel_rfl) (by kernel_rfl) rfl (by kernel_rfl) ⟨HC1.out.r, HO.out⟩ ?_
  have hb := (Below.refl u5.heap.size u5).drew
  have HP2 := Lib.hid (HP.out.below hb)
  have HC2 := Lib.hid (HC1.out.below hb)
  have HO2 : Hid (readAt (u5.drew) (w.heap.size + 1) 0 4 = some #[.int .i64 1, .int .i64 at_, .int .u8 (byte.toNat : Int), .slice ado cuts.length co]) := (readAt_below hb (readAt_lt HO.out) 0 4).trans HO.out
  have HC4 := Lib.hid (HC3.out.below hb)
  clear HP HC1 HO HC3
  have HP := HP2
  have HC1 := HC2
  have HO := HO2
  have HC3 := HC4
  clear HP2 HC2 HO2 HC4
  clear hb
  generalize u5.drew = u5' at *
  repeat (first | (refine t_off rfl rfl ?_; simp only [List.getElem_toArray, List.getElem_cons_succ, List.getElem_cons_zero, Act.put, Act.eval, List.setIfInBounds_toArray, List.set_cons_zero, List.set_cons_succ, Array.getD_eq_getD_getElem?, List.getElem?_toArray, List.getElem?_cons_succ, List.getElem?_cons_zero, Option.getD_some]) | (refine t_move rfl _ rfl rfl ?_; simp only [List.getElem_toArray, List.getElem_cons_succ, List.getElem_cons_zero, Act.put, Act.eval, List.setIfInBounds_toArray, List.set_cons_zero, List.set_cons_succ, Array.getD_eq_getD_getElem?, List.getElem?_toArray, List.getElem?_cons_succ, List.getElem?_cons_zero, Option.getD_some]) | (refine t_assign rfl _ rfl rfl ?_; simp only [List.getElem_toArray, List.getElem_cons_succ, List.getElem_cons_zero, Act.put, Act.eval, List.setIfInBounds_toArray, List.set_cons_zero, List.set_cons_succ, Array.getD_eq_getD_getElem?, List.getElem?_toArray, List.getElem?_cons_succ, List.getElem?_cons_zero, Option.getD_some]) | (refine t_val rfl rfl ?_; apply Exists.intro; refine ⟨fun w' hC' => ?_, ?_⟩; (obtain ⟨b0, b1, b2, b3, b4, o1, o2⟩ := HS.out w' hC'; go_simp; (first | done | exact rfl)); simp only [List.getElem_toArray, List.getElem_cons_succ, List.getElem_cons_zero, Act.put, Act.eval, List.setIfInBounds_toArray, List.set_cons_zero, List.set_cons_succ, Array.getD_eq_getD_getElem?, List.getElem?_toArray, List.getElem?_cons_succ, List.getElem?_cons_zero, Option.getD_some]) | (refine p_off rfl rfl ?_; simp only [List.getElem_toArray, List.getElem_cons_succ, List.getElem_cons_zero, Act.put, Act.eval, List.setIfInBounds_toArray, List.set_cons_zero, List.set_cons_succ, Array.getD_eq_getD_getElem?, List.getElem?_toArray, List.getElem?_cons_succ, List.getElem?_cons_zero, Option.getD_some]) | (refine p_val rfl rfl ?_; apply Exists.intro; refine ⟨fun w' => ?_, ?_⟩; (go_simp; (first | done | exact rfl)); simp only [List.getElem_toArray, List.getElem_cons_succ, List.getElem_cons_zero, Act.put, Act.eval, List.setIfInBounds_toArray, List.set_cons_zero, List.set_cons_succ, Array.getD_eq_getD_getElem?, List.getElem?_toArray, List.getElem?_cons_succ, List.getElem?_cons_zero, Option.getD_some]))
  refine r_call rfl rfl ?_; apply Exists.intro; apply Exists.intro; refine ⟨?_, ?_⟩; (go_simp; exact ⟨rfl, rfl⟩)
  refine (code_any cd at_ _).mono ?_
  rintro _ u6 ⟨rfl, hb6⟩
  have HP2 := Lib.hid (HP.out.below hb6)
  have HC2 := Lib.hid (HC1.out.below hb6)
  have HO2 : Hid (readAt (u6) (w.heap.size + 1) 0 4 = some #[.int .i64 1, .int .i64 at_, .int .u8 (byte.toNat : Int), .slice ado cuts.length co]) := (readAt_below hb6 (readAt_lt HO.out) 0 4).trans HO.out
  have HC4 := Lib.hid (HC3.out.below hb6)
  clear HP HC1 HO HC3
  have HP := HP2
  have HC1 := HC2
  have HO := HO2
  have HC3 := HC4
  clear HP2 HC2 HO2 HC4
  clear hb6
  refine ⟨_, rfl, _, fun _ h => h, ⟨HC1.out.r, HO.out⟩, ?_⟩; simp only [List.getElem_toArray, List.getElem_cons_succ, List.getElem_cons_zero, Act.put, Act.eval, List.setIfInBounds_toArray, List.set_cons_zero, List.set_cons_succ, Array.getD_eq_getD_getElem?, List.getElem?_toArray, List.getElem?_cons_succ, List.getElem?_cons_zero, Option.getD_some]
  by_cases hcc : cd = cr
  · subst hcc
    repeat (first | (refine t_off rfl rfl ?_; simp only [List.getElem_toArray, List.getElem_cons_succ, List.getElem_cons_zero, Act.put, Act.eval, List.setIfInBounds_toArray, List.set_cons_zero, List.set_cons_succ, Array.getD_eq_getD_getElem?, List.getElem?_toArray, List.getElem?_cons_succ, List.getElem?_cons_zero, Option.getD_some]) | (refine t_move rfl _ rfl rfl ?_; simp only [List.getElem_toArray, List.getElem_cons_succ, List.getElem_cons_zero, Act.put, Act.eval, List.setIfInBounds_toArray, List.set_cons_zero, List.set_cons_succ, Array.getD_eq_getD_getElem?, List.getElem?_toArray, List.getElem?_cons_succ, List.getElem?_cons_zero, Option.getD_some]) | (refine t_assign rfl _ rfl rfl ?_; simp only [List.getElem_toArray, List.getElem_cons_succ, List.getElem_cons_zero, Act.put, Act.eval, List.setIfInBounds_toArray, List.set_cons_zero, List.set_cons_succ, Array.getD_eq_getD_getElem?, List.getElem?_toArray, List.getElem?_cons_succ, List.getElem?_cons_zero, Option.getD_some]) | (refine t_val rfl rfl ?_; apply Exists.intro; refine ⟨fun w' hC' => ?_, ?_⟩; (obtain ⟨b0, b1, b2, b3, b4, o1, o2⟩ := HS.out w' hC'; go_simp; (first | done | exact rfl)); simp only [List.getElem_toArray, List.getElem_cons_succ, List.getElem_cons_zero, Act.put, Act.eval, List.setIfInBounds_toArray, List.set_cons_zero, List.set_cons_succ, Array.getD_eq_getD_getElem?, List.getElem?_toArray, List.getElem?_cons_succ, List.getElem?_cons_zero, Option.getD_some]) | (refine p_off rfl rfl ?_; simp only [List.getElem_toArray, List.getElem_cons_succ, List.getElem_cons_zero, Act.put, Act.eval, List.setIfInBounds_toArray, List.set_cons_zero, List.set_cons_succ, Array.getD_eq_getD_getElem?, List.getElem?_toArray, List.getElem?_cons_succ, List.getElem?_cons_zero, Option.getD_some]) | (refine p_val rfl rfl ?_; apply Exists.intro; refine ⟨fun w' => ?_, ?_⟩; (go_simp; (first | done | exact rfl)); simp only [List.getElem_toArray, List.getElem_cons_succ, List.getElem_cons_zero, Act.put, Act.eval, List.setIfInBounds_toArray, List.set_cons_zero, List.set_cons_succ, Array.getD_eq_getD_getElem?, List.getElem?_toArray, List.getElem?_cons_succ, List.getElem?_cons_zero, Option.getD_some]))
    refine r_call rfl rfl ?_; apply Exists.intro; apply Exists.intro; refine ⟨?_, ?_⟩; (go_simp; exact ⟨rfl, rfl⟩)
    refine (told_any cd at_ _).mono ?_
    rintro _ u7 ⟨rfl, hb7⟩
    have HP2 := Lib.hid (HP.out.below hb7)
    have HC2 := Lib.hid (HC1.out.below hb7)
    have HO2 : Hid (readAt (u7) (w.heap.size + 1) 0 4 = some #[.int .i64 1, .int .i64 at_, .int .u8 (byte.toNat : Int), .slice ado cuts.length co]) := (readAt_below hb7 (readAt_lt HO.out) 0 4).trans HO.out
    have HC4 := Lib.hid (HC3.out.below hb7)
    clear HP HC1 HO HC3
    have HP := HP2
    have HC1 := HC2
    have HO := HO2
    have HC3 := HC4
    clear HP2 HC2 HO2 HC4
    clear hb7
    refine ⟨_, rfl, _, fun _ h => h, ⟨HC1.out.r, HO.out⟩, ?_⟩; simp only [List.getElem_toArray, List.getElem_cons_succ, List.getElem_cons_zero, Act.put, Act.eval, List.setIfInBounds_toArray, List.set_cons_zero, List.set_cons_succ, Array.getD_eq_getD_getElem?, List.getElem?_toArray, List.getElem?_cons_succ, List.getElem?_cons_zero, Option.getD_some]
    repeat (first | (refine t_off rfl rfl ?_; simp only [List.getElem_toArray, List.getElem_cons_succ, List.getElem_cons_zero, Act.put, Act.eval, List.setIfInBounds_toArray, List.set_cons_zero, List.set_cons_succ, Array.getD_eq_getD_getElem?, List.getElem?_toArray, List.getElem?_cons_succ, List.getElem?_cons_zero, Option.getD_some]) | (refine t_move rfl _ rfl rfl ?_; simp only [List.getElem_toArray, List.getElem_cons_succ, List.getElem_cons_zero, Act.put, Act.eval, List.setIfInBounds_toArray, List.set_cons_zero, List.set_cons_succ, Array.getD_eq_getD_getElem?, List.getElem?_toArray, List.getElem?_cons_succ, List.getElem?_cons_zero, Option.getD_some]) | (refine t_assign rfl _ rfl rfl ?_; simp only [List.getElem_toArray, List.getElem_cons_succ, List.getElem_cons_zero, Act.put, Act.eval, List.setIfInBounds_toArray, List.set_cons_zero, List.set_cons_succ, Array.getD_eq_getD_getElem?, List.getElem?_toArray, List.getElem?_cons_succ, List.getElem?_cons_zero, Option.getD_some]) | (refine t_val rfl rfl ?_; apply Exists.intro; refine ⟨fun w' hC' => ?_, ?_⟩; (obtain ⟨b0, b1, b2, b3, b4, o1, o2⟩ := HS.out w' hC'; go_simp; (first | done | exact rfl)); simp only [List.getElem_toArray, List.getElem_cons_succ, List.getElem_cons_zero, Act.put, Act.eval, List.setIfInBounds_toArray, List.set_cons_zero, List.set_cons_succ, Array.getD_eq_getD_getElem?, List.getElem?_toArray, List.getElem?_cons_succ, List.getElem?_cons_zero, Option.getD_some]) | (refine p_off rfl rfl ?_; simp only [List.getElem_toArray, List.getElem_cons_succ, List.getElem_cons_zero, Act.put, Act.eval, List.setIfInBounds_toArray, List.set_cons_zero, List.set_cons_succ, Array.getD_eq_getD_getElem?, List.getElem?_toArray, List.getElem?_cons_succ, List.getElem?_cons_zero, Option.getD_some]) | (refine p_val rfl rfl ?_; apply Exists.intro; refine ⟨fun w' => ?_, ?_⟩; (go_simp; (first | done | exact rfl)); simp only [List.getElem_toArray, List.getElem_cons_succ, List.getElem_cons_zero, Act.put, Act.eval, List.setIfInBounds_toArray, List.set_cons_zero, List.set_cons_succ, Array.getD_eq_getD_getElem?, List.getElem?_toArray, List.getElem?_cons_succ, List.getElem?_cons_zero, Option.getD_some]))
    obtain ⟨f0, f1, f2, f3, f4⟩ := HC3.out.free
    obtain ⟨g0, g1, g2, g3, g4⟩ := HC3.out.cells
    refine r_any rfl rfl (fun K hK => ?_)
    go_simp
    have hk := put5_kb (Z := fun b => b = w.heap.size + 2) u7 (w.heap.size + 1 + 1) (.slice (some ⟨bl2, ol2, none⟩) n cl2) (.slice ad22 R2.op.length c22) (.bool R2.down) (.int .i64 R2.steps) (.slice ad32 R2.plan.length c32) rfl
    unfold put5 at hk
    refine hK _ _ (fun u => readAt u w.heap.size 0 5 = some #[.slice (some ⟨bl2, ol2, none⟩) n cl2, .slice ad22 R2.op.length c22, .bool R2.down, .int .i64 R2.steps, .slice ad32 R2.plan.length c32] ∧ readAt u (w.heap.size + 1) 0 4 = some #[.int .i64 1, .int .i64 at_, .int .u8 (byte.toNat : Int), .slice ado cuts.length co]) (fun _ h => h) ?_ ?_
    · refine ⟨(rd_same (hk.block _ HC1.out.lt (by omega)) 0 5).trans HC1.out.r, (rd_same (hk.block _ (readAt_lt HO.out) (by omega)) 0 4).trans HO.out⟩
    clear hK K
    try simp only [List.getElem_toArray, List.getElem_cons_succ, List.getElem_cons_zero, Act.put, Act.eval, List.setIfInBounds_toArray, List.set_cons_zero, List.set_cons_succ, Array.getD_eq_getD_getElem?, List.getElem?_toArray, List.getElem?_cons_succ, List.getElem?_cons_zero, Option.getD_some]
    repeat (first | (refine t_off rfl rfl ?_; simp only [List.getElem_toArray, List.getElem_cons_succ, List.getElem_cons_zero, Act.put, Act.eval, List.setIfInBounds_toArray, List.set_cons_zero, List.set_cons_succ, Array.getD_eq_getD_getElem?, List.getElem?_toArray, List.getElem?_cons_succ, List.getElem?_cons_zero, Option.getD_some]) | (refine t_move rfl _ rfl rfl ?_; simp only [List.getElem_toArray, List.getElem_cons_succ, List.getElem_cons_zero, Act.put, Act.eval, List.setIfInBounds_toArray, List.set_cons_zero, List.set_cons_succ, Array.getD_eq_getD_getElem?, List.getElem?_toArray, List.getElem?_cons_succ, List.getElem?_cons_zero, Option.getD_some]) | (refine t_assign rfl _ rfl rfl ?_; simp only [List.getElem_toArray, List.getElem_cons_succ, List.getElem_cons_zero, Act.put, Act.eval, List.setIfInBounds_toArray, List.set_cons_zero, List.set_cons_succ, Array.getD_eq_getD_getElem?, List.getElem?_toArray, List.getElem?_cons_succ, List.getElem?_cons_zero, Option.getD_some]) | (refine t_val rfl rfl ?_; apply Exists.intro; refine ⟨fun w' hC' => ?_, ?_⟩; (obtain ⟨b0, b1, b2, b3, b4, o1, o2⟩ := HS.out w' hC'; go_simp; (first | done | exact rfl)); simp only [List.getElem_toArray, List.getElem_cons_succ, List.getElem_cons_zero, Act.put, Act.eval, List.setIfInBounds_toArray, List.set_cons_zero, List.set_cons_succ, Array.getD_eq_getD_getElem?, List.getElem?_toArray, List.getElem?_cons_succ, List.getElem?_cons_zero, Option.getD_some]) | (refine p_off rfl rfl ?_; simp only [List.getElem_toArray, List.getElem_cons_succ, List.getElem_cons_zero, Act.put, Act.eval, List.setIfInBounds_toArray, List.set_cons_zero, List.set_cons_succ, Array.getD_eq_getD_getElem?, List.getElem?_toArray, List.getElem?_cons_succ, List.getElem?_cons_zero, Option.getD_some]) | (refine p_val rfl rfl ?_; apply Exists.intro; refine ⟨fun w' => ?_, ?_⟩; (go_simp; (first | done | exact rfl)); simp only [List.getElem_toArray, List.getElem_cons_succ, List.getElem_cons_zero, Act.put, Act.eval, List.setIfInBounds_toArray, List.set_cons_zero, List.set_cons_succ, Array.getD_eq_getD_getElem?, List.getElem?_toArray, List.getElem?_cons_succ, List.getElem?_cons_zero, Option.getD_some]))
    refine t_done ?_
    go_wp2
    refine bodyPost_ret (v := .tuple #[.agg #[.slice (some ⟨bl2, ol2, none⟩) n cl2, .slice ad22 R2.op.length c22, .bool R2.down, .int .i64 R2.steps, .slice ad32 R2.plan.length c32], .bool true]) (by simp [results, Try.results22, go_sem, g0, g1, g2, g3, g4]) rfl ?_
    exact (HP.out.own (i := 2) (by omega) hk).done (fun _ => rfl)
  · have hne : (cd == cr) = false := by simpa using hcc
    have Hcc := Lib.hid hcc
    clear hcc
    repeat (first | (refine t_off rfl rfl ?_; simp only [List.getElem_toArray, List.getElem_cons_succ, List.getElem_cons_zero, Act.put, Act.eval, List.setIfInBounds_toArray, List.set_cons_zero, List.set_cons_succ, Array.getD_eq_getD_getElem?, List.getElem?_toArray, List.getElem?_cons_succ, List.getElem?_cons_zero, Option.getD_some]) | (refine t_move rfl _ rfl rfl ?_; simp only [List.getElem_toArray, List.getElem_cons_succ, List.getElem_cons_zero, Act.put, Act.eval, List.setIfInBounds_toArray, List.set_cons_zero, List.set_cons_succ, Array.getD_eq_getD_getElem?, List.getElem?_toArray, List.getElem?_cons_succ, List.getElem?_cons_zero, Option.getD_some]) | (refine t_assign rfl _ rfl rfl ?_; simp only [List.getElem_toArray, List.getElem_cons_succ, List.getElem_cons_zero, Act.put, Act.eval, List.setIfInBounds_toArray, List.set_cons_zero, List.set_cons_succ, Array.getD_eq_getD_getElem?, List.getElem?_toArray, List.getElem?_cons_succ, List.getElem?_cons_zero, Option.getD_some]) | (refine t_val rfl rfl ?_; apply Exists.intro; refine ⟨fun w' hC' => ?_, ?_⟩; (obtain ⟨b0, b1, b2, b3, b4, o1, o2⟩ := HS.out w' hC'; go_simp; (first | done | exact rfl)); simp only [List.getElem_toArray, List.getElem_cons_succ, List.getElem_cons_zero, Act.put, Act.eval, List.setIfInBounds_toArray, List.set_cons_zero, List.set_cons_succ, Array.getD_eq_getD_getElem?, List.getElem?_toArray, List.getElem?_cons_succ, List.getElem?_cons_zero, Option.getD_some]) | (refine p_off rfl rfl ?_; simp only [List.getElem_toArray, List.getElem_cons_succ, List.getElem_cons_zero, Act.put, Act.eval, List.setIfInBounds_toArray, List.set_cons_zero, List.set_cons_succ, Array.getD_eq_getD_getElem?, List.getElem?_toArray, List.getElem?_cons_succ, List.getElem?_cons_zero, Option.getD_some]) | (refine p_val rfl rfl ?_; apply Exists.intro; refine ⟨fun w' => ?_, ?_⟩; (go_simp; (first | done | exact rfl)); simp only [List.getElem_toArray, List.getElem_cons_succ, List.getElem_cons_zero, Act.put, Act.eval, List.setIfInBounds_toArray, List.set_cons_zero, List.set_cons_succ, Array.getD_eq_getD_getElem?, List.getElem?_toArray, List.getElem?_cons_succ, List.getElem?_cons_zero, Option.getD_some]))
    refine r_off rfl rfl ⟨HC1.out.r, HO.out⟩ ?_
    simp only [List.getElem_toArray, List.getElem_cons_succ, List.getElem_cons_zero, Act.put, Act.eval, List.setIfInBounds_toArray, List.set_cons_zero, List.set_cons_succ, Array.getD_eq_getD_getElem?, List.getElem?_toArray, List.getElem?_cons_succ, List.getElem?_cons_zero, Option.getD_some]
    repeat (first | (refine t_off rfl rfl ?_; simp only [List.getElem_toArray, List.getElem_cons_succ, List.getElem_cons_zero, Act.put, Act.eval, List.setIfInBounds_toArray, List.set_cons_zero, List.set_cons_succ, Array.getD_eq_getD_getElem?, List.getElem?_toArray, List.getElem?_cons_succ, List.getElem?_cons_zero, Option.getD_some]) | (refine t_move rfl _ rfl rfl ?_; simp only [List.getElem_toArray, List.getElem_cons_succ, List.getElem_cons_zero, Act.put, Act.eval, List.setIfInBounds_toArray, List.set_cons_zero, List.set_cons_succ, Array.getD_eq_getD_getElem?, List.getElem?_toArray, List.getElem?_cons_succ, List.getElem?_cons_zero, Option.getD_some]) | (refine t_assign rfl _ rfl rfl ?_; simp only [List.getElem_toArray, List.getElem_cons_succ, List.getElem_cons_zero, Act.put, Act.eval, List.setIfInBounds_toArray, List.set_cons_zero, List.set_cons_succ, Array.getD_eq_getD_getElem?, List.getElem?_toArray, List.getElem?_cons_succ, List.getElem?_cons_zero, Option.getD_some]) | (refine t_val rfl rfl ?_; apply Exists.intro; refine ⟨fun w' hC' => ?_, ?_⟩; (obtain ⟨b0, b1, b2, b3, b4, o1, o2⟩ := HS.out w' hC'; go_simp; (first | done | exact rfl)); simp only [List.getElem_toArray, List.getElem_cons_succ, List.getElem_cons_zero, Act.put, Act.eval, List.setIfInBounds_toArray, List.set_cons_zero, List.set_cons_succ, Array.getD_eq_getD_getElem?, List.getElem?_toArray, List.getElem?_cons_succ, List.getElem?_cons_zero, Option.getD_some]) | (refine p_off rfl rfl ?_; simp only [List.getElem_toArray, List.getElem_cons_succ, List.getElem_cons_zero, Act.put, Act.eval, List.setIfInBounds_toArray, List.set_cons_zero, List.set_cons_succ, Array.getD_eq_getD_getElem?, List.getElem?_toArray, List.getElem?_cons_succ, List.getElem?_cons_zero, Option.getD_some]) | (refine p_val rfl rfl ?_; apply Exists.intro; refine ⟨fun w' => ?_, ?_⟩; (go_simp; (first | done | exact rfl)); simp only [List.getElem_toArray, List.getElem_cons_succ, List.getElem_cons_zero, Act.put, Act.eval, List.setIfInBounds_toArray, List.set_cons_zero, List.set_cons_succ, Array.getD_eq_getD_getElem?, List.getElem?_toArray, List.getElem?_cons_succ, List.getElem?_cons_zero, Option.getD_some]))
    obtain ⟨f0, f1, f2, f3, f4⟩ := HC3.out.free
    obtain ⟨g0, g1, g2, g3, g4⟩ := HC3.out.cells
    refine r_any rfl rfl (fun K hK => ?_)
    go_simp
    have hk := put5_kb (Z := fun b => b = w.heap.size + 2) u6 (w.heap.size + 1 + 1) (.slice (some ⟨bl2, ol2, none⟩) n cl2) (.slice ad22 R2.op.length c22) (.bool R2.down) (.int .i64 R2.steps) (.slice ad32 R2.plan.length c32) rfl
    unfold put5 at hk
    refine hK _ _ (fun u => readAt u w.heap.size 0 5 = some #[.slice (some ⟨bl2, ol2, none⟩) n cl2, .slice ad22 R2.op.length c22, .bool R2.down, .int .i64 R2.steps, .slice ad32 R2.plan.length c32] ∧ readAt u (w.heap.size + 1) 0 4 = some #[.int .i64 1, .int .i64 at_, .int .u8 (byte.toNat : Int), .slice ado cuts.length co]) (fun _ h => h) ?_ ?_
    · refine ⟨(rd_same (hk.block _ HC1.out.lt (by omega)) 0 5).trans HC1.out.r, (rd_same (hk.block _ (readAt_lt HO.out) (by omega)) 0 4).trans HO.out⟩
    clear hK K
    try simp only [List.getElem_toArray, List.getElem_cons_succ, List.getElem_cons_zero, Act.put, Act.eval, List.setIfInBounds_toArray, List.set_cons_zero, List.set_cons_succ, Array.getD_eq_getD_getElem?, List.getElem?_toArray, List.getElem?_cons_succ, List.getElem?_cons_zero, Option.getD_some]
    repeat (first | (refine t_off rfl rfl ?_; simp only [List.getElem_toArray, List.getElem_cons_succ, List.getElem_cons_zero, Act.put, Act.eval, List.setIfInBounds_toArray, List.set_cons_zero, List.set_cons_succ, Array.getD_eq_getD_getElem?, List.getElem?_toArray, List.getElem?_cons_succ, List.getElem?_cons_zero, Option.getD_some]) | (refine t_move rfl _ rfl rfl ?_; simp only [List.getElem_toArray, List.getElem_cons_succ, List.getElem_cons_zero, Act.put, Act.eval, List.setIfInBounds_toArray, List.set_cons_zero, List.set_cons_succ, Array.getD_eq_getD_getElem?, List.getElem?_toArray, List.getElem?_cons_succ, List.getElem?_cons_zero, Option.getD_some]) | (refine t_assign rfl _ rfl rfl ?_; simp only [List.getElem_toArray, List.getElem_cons_succ, List.getElem_cons_zero, Act.put, Act.eval, List.setIfInBounds_toArray, List.set_cons_zero, List.set_cons_succ, Array.getD_eq_getD_getElem?, List.getElem?_toArray, List.getElem?_cons_succ, List.getElem?_cons_zero, Option.getD_some]) | (refine t_val rfl rfl ?_; apply Exists.intro; refine ⟨fun w' hC' => ?_, ?_⟩; (obtain ⟨b0, b1, b2, b3, b4, o1, o2⟩ := HS.out w' hC'; go_simp; (first | done | exact rfl)); simp only [List.getElem_toArray, List.getElem_cons_succ, List.getElem_cons_zero, Act.put, Act.eval, List.setIfInBounds_toArray, List.set_cons_zero, List.set_cons_succ, Array.getD_eq_getD_getElem?, List.getElem?_toArray, List.getElem?_cons_succ, List.getElem?_cons_zero, Option.getD_some]) | (refine p_off rfl rfl ?_; simp only [List.getElem_toArray, List.getElem_cons_succ, List.getElem_cons_zero, Act.put, Act.eval, List.setIfInBounds_toArray, List.set_cons_zero, List.set_cons_succ, Array.getD_eq_getD_getElem?, List.getElem?_toArray, List.getElem?_cons_succ, List.getElem?_cons_zero, Option.getD_some]) | (refine p_val rfl rfl ?_; apply Exists.intro; refine ⟨fun w' => ?_, ?_⟩; (go_simp; (first | done | exact rfl)); simp only [List.getElem_toArray, List.getElem_cons_succ, List.getElem_cons_zero, Act.put, Act.eval, List.setIfInBounds_toArray, List.set_cons_zero, List.set_cons_succ, Array.getD_eq_getD_getElem?, List.getElem?_toArray, List.getElem?_cons_succ, List.getElem?_cons_zero, Option.getD_some]))
    refine t_done ?_
    go_wp2
    refine bodyPost_ret (v := .tuple #[.agg #[.slice (some ⟨bl2, ol2, none⟩) n cl2, .slice ad22 R2.op.length c22, .bool R2.down, .int .i64 R2.steps, .slice ad32 R2.plan.length c32], .bool false]) (by simp [results, Try.results22, go_sem, g0, g1, g2, g3, g4]) rfl ?_
    exact (HP.out.own (i := 2) (by omega) hk).done (fun h => absurd (Hsame.out h) Hcc.out)

set_option maxRecDepth 100000 in
set_option maxHeartbeats 6400000 in
theorem play2 (Z : Nat → Prop) (w0 w : World) (p : DP) (n m : Nat) (D R : DM) (a b c : Value) (at_ : Int) (byte : UInt8) (cuts : List Int) (ado : Option Addr) (co : Nat) (hB : Both2 Z w0 w p n D R a b c) (hD : OkD D n m) (hRk : OkD R n m) (hm : m + 2 ≤ 100000) (hn : n ≤ 5000) (hpl : R.plan.length ≤ 100000) (hat : at_ ≤ 1048576)
    (hc : RdS w0 (.slice ado cuts.length co) cuts.length 1 (cuts.map (Value.int .i64))) (hcl : cuts.length ≤ 20) :
    Calls Try.prog 22 #[.pointer (some ⟨p.B, 0, none⟩), .agg (rV R a b c), .agg #[.int .i64 2, .int .i64 at_, .int .u8 (byte.toNat : Int), .slice ado cuts.length co]] w (PNext2 Z w0 w p n ((syncD D).1) ((syncD R).1) (D = R)) := by
  obtain ⟨bl, ol, cl, ad2, ad3, c2, c3, rfl, rfl, rfl⟩ := hB.r.open_
  unfold rV
  have HB := Lib.hid hB
  have HD := Lib.hid hD
  have HRk := Lib.hid hRk
  have Hc := Lib.hid hc
  clear hB hD hRk hc
  go_enter Try.func22, Try.ntmps22
  go_wp2_with fail
  obtain ⟨W, hW⟩ : ∃ W, ((w.alloc (.cells #[.slice (some ⟨bl, ol, none⟩) n cl, .slice ad2 R.op.length c2, .bool R.down, .int .i64 R.steps, .slice ad3 R.plan.length c3] 46)).alloc (.cells #[.int .i64 2, .int .i64 at_, .int .u8 (byte.toNat : Int), .slice ado cuts.length co] 30)).alloc (.cells #[.slice none 0 0, .slice none 0 0, .bool false, .int .i64 0, .slice none 0 0] 46) = W := ⟨_, rfl⟩
  have hb : Below w.heap.size w W := by rw [← hW]; exact ba _ (ba _ (ba _ (Below.refl _ _)))
  have HP := Lib.hid (HB.out.start hb (by rw [← hW]; simp))
  have HC1 : Hid (C5 W w.heap.size (.slice (some ⟨bl, ol, none⟩) n cl) (.slice ad2 R.op.length c2) (.bool R.down) (.int .i64 R.steps) (.slice ad3 R.plan.length c3)) := by
    unfold Hid; rw [← hW]; exact ((C5.made w _ _ _ _ _ _).below (ba _ (Below.refl _ _))).below (ba _ (Below.refl _ _))
  have HO : Hid (readAt W (w.heap.size + 1) 0 4 = some #[.int .i64 2, .int .i64 at_, .int .u8 (byte.toNat : Int), .slice ado cuts.length co]) := by
    unfold Hid; rw [← hW, readAt_alloc_past _ _ _ _ _ (by simp)]; have h1 := readAt_alloc_at (w.alloc (.cells #[.slice (some ⟨bl, ol, none⟩) n cl, .slice ad2 R.op.length c2, .bool R.down, .int .i64 R.steps, .slice ad3 R.plan.length c3] 46)) #[.int .i64 2, .int .i64 at_, .int .u8 (byte.toNat : Int), .slice ado cuts.length co] 30 (0, 0) (w.heap.size + 1) 0 4 (by simp) (by simp); rw [h1]; rfl
  have HC3 : Hid (C5 W (w.heap.size + 1 + 1) (.slice none 0 0) (.slice none 0 0) (.bool false) (.int .i64 0) (.slice none 0 0)) := by
    unfold Hid; rw [← hW]; have h1 := C5.made ((w.alloc (.cells #[.slice (some ⟨bl, ol, none⟩) n cl, .slice ad2 R.op.length c2, .bool R.down, .int .i64 R.steps, .slice ad3 R.plan.length c3] 46)).alloc (.cells #[.int .i64 2, .int .i64 at_, .int .u8 (byte.toNat : Int), .slice ado cuts.length co] 30)) 46 (.slice none 0 0) (.slice none 0 0) (.bool false) (.int .i64 0) (.slice none 0 0); simpa using h1
  rw [hW]
  clear hW hb
  have Hsame : Hid (D = R → (syncD D).2 = (syncD R).2) := fun h => by rw [h]
  generalize hD2 : (syncD D).1 = D2 at *
  generalize hcd : (syncD D).2 = cd at *
  generalize hR2 : (syncD R).1 = R2 at *
  generalize hcr : (syncD R).2 = cr at *
  have hcall := (hR2 ▸ hcr ▸ rdsync_any W _ n m R _ _ _ HP.out.r HP.out.lt HRk.out hm hn hpl : Calls Try.prog 39 #[.agg (rV R _ _ _)] W fun e w' => (∃ v, e = .returned (.tuple #[v, .int .i64 cr]) ∧ RNext w' _ n R2 v) ∧ Below W.heap.size W w')
  unfold rV at hcall
  refine hcall.mono ?_
  rintro _ u2 ⟨⟨v, rfl, a2, b2, c4, rfl, hr2⟩, hb2⟩
  obtain ⟨bl2, ol2, cl2, ad22, ad32, c22, c32, rfl, rfl, rfl⟩ := hr2.open_
  have hPr := HP.out.ref hb2 hr2
  have HP2 := Lib.hid (HP.out.below hb2)
  have HC2 := Lib.hid (HC1.out.below hb2)
  have HO2 : Hid (readAt (u2) (w.heap.size + 1) 0 4 = some #[.int .i64 2, .int .i64 at_, .int .u8 (byte.toNat : Int), .slice ado cuts.length co]) := (readAt_below hb2 (readAt_lt HO.out) 0 4).trans HO.out
  have HC4 := Lib.hid (HC3.out.below hb2)
  clear HP HC1 HO HC3
  have HP := HP2
  have HC1 := HC2
  have HO := HO2
  have HC3 := HC4
  clear HP2 HC2 HO2 HC4
  clear HP
  have HP := Lib.hid hPr
  clear hPr hr2 hb2 hcall
  unfold rV
  obtain ⟨e0, e1, e2, e3, e4⟩ := HC1.out.free
  obtain ⟨b0, b1, b2, b3, b4⟩ := HC1.out.cells
  go_upto_region 13 with fail
  clear e0 e1 e2 e3 e4 b0 b1 b2 b3 b4
  have HS := trivial
  have hk := put5_kb (Z := fun b => b = w.heap.size + 0) u2 w.heap.size (.slice (some ⟨bl2, ol2, none⟩) n cl2) (.slice ad22 R2.op.length c22) (.bool R2.down) (.int .i64 R2.steps) (.slice ad32 R2.plan.length c32) rfl
  have hC := Lib.hid (HC1.out.put (.slice (some ⟨bl2, ol2, none⟩) n cl2) (.slice ad22 R2.op.length c22) (.bool R2.down) (.int .i64 R2.steps) (.slice ad32 R2.plan.length c32))
  unfold put5 at hk hC
  have HP2 := Lib.hid (HP.out.own (i := 0) (by omega) hk)
  have HO2 : Hid (readAt (((((u2.setCell ⟨w.heap.size, 0, none⟩ (.slice (some ⟨bl2, ol2, none⟩) n cl2)).setCell ⟨w.heap.size, 1, none⟩ (.slice ad22 R2.op.length c22)).setCell ⟨w.heap.size, 2, none⟩ (.bool R2.down)).setCell ⟨w.heap.size, 3, none⟩ (.int .i64 R2.steps)).setCell ⟨w.heap.size, 4, none⟩ (.slice ad32 R2.plan.length c32)) (w.heap.size + 1) 0 4 = some #[.int .i64 2, .int .i64 at_, .int .u8 (byte.toNat : Int), .slice ado cuts.length co]) := (rd_same (hk.block _ (readAt_lt HO.out) (by omega)) 0 4).trans HO.out
  have HC4 := Lib.hid (HC3.out.kb hk (by omega))
  clear hk
  clear HP HC1 HO HC3
  have HP := HP2
  have HC1 := hC
  have HO := HO2
  have HC3 := HC4
  clear HP2 hC HO2 HC4
  clear HS
  generalize (((((u2.setCell ⟨w.heap.size, 0, none⟩ (.slice (some ⟨bl2, ol2, none⟩) n cl2)).setCell ⟨w.heap.size, 1, none⟩ (.slice ad22 R2.op.length c22)).setCell ⟨w.heap.size, 2, none⟩ (.bool R2.down)).setCell ⟨w.heap.size, 3, none⟩ (.int .i64 R2.steps)).setCell ⟨w.heap.size, 4, none⟩ (.slice ad32 R2.plan.length c32)) = u3 at *
  have HS : Hid (∀ u : World, ((fun u => readAt u w.heap.size 0 5 = some #[.slice (some ⟨bl2, ol2, none⟩) n cl2, .slice ad22 R2.op.length c22, .bool R2.down, .int .i64 R2.steps, .slice ad32 R2.plan.length c32] ∧ readAt u (w.heap.size + 1) 0 4 = some #[.int .i64 2, .int .i64 at_, .int .u8 (byte.toNat : Int), .slice ado cuts.length co])) u → u.cell? ⟨w.heap.size, 0, none⟩ = some (.slice (some ⟨bl2, ol2, none⟩) n cl2) ∧ u.cell? ⟨w.heap.size, 1, none⟩ = some (.slice ad22 R2.op.length c22) ∧ u.cell? ⟨w.heap.size, 2, none⟩ = some (.bool R2.down) ∧ u.cell? ⟨w.heap.size, 3, none⟩ = some (.int .i64 R2.steps) ∧ u.cell? ⟨w.heap.size, 4, none⟩ = some (.slice ad32 R2.plan.length c32) ∧ u.cell? ⟨w.heap.size + 1, 1, none⟩ = some (.int .i64 at_) ∧ u.cell? ⟨w.heap.size + 1, 2, none⟩ = some (.int .u8 (byte.toNat : Int))) := fun u hu => by
    have hc := fun i v hv => readAt_cell hu.1 i v hv
    have hd := fun i v hv => readAt_cell hu.2 i v hv
    simp only [Nat.zero_add] at hc hd
    exact ⟨hc 0 _ rfl, hc 1 _ rfl, hc 2 _ rfl, hc 3 _ rfl, hc 4 _ rfl, hd 1 _ rfl, hd 2 _ rfl⟩
  refine wp_region_tr (.take 0 (.take 1 (.take 4 (.run 2 (.run 3 (.take 5 (.run 6 (.take 7 .done)))))))) (fun u => readAt u w.heap.size 0 5 = some #[.slice (some ⟨bl2, ol2, none⟩) n cl2, .slice ad22 R2.op.length c22, .bool R2.down, .int .i64 R2.steps, .slice ad32 R2.plan.length c32] ∧ readAt u (w.heap.size + 1) 0 4 = some #[.int .i64 2, .int .i64 at_, .int .u8 (byte.toNat : Int), .slice ado cuts.length co]) (by kernel_rfl) (by kernel_rfl) rfl (by kernel_rfl) ⟨HC1.out.r, HO.out⟩ ?_
  have hb := (Below.refl u3.heap.size u3).drew
  have HP2 := Lib.hid (HP.out.below hb)
  have HC2 := Lib.hid (HC1.out.below hb)
  have HO2 : Hid (readAt (u3.drew) (w.heap.size + 1) 0 4 = some #[.int .i64 2, .int .i64 at_, .int .u8 (byte.toNat : Int), .slice ado cuts.length co]) := (readAt_below hb (readAt_lt HO.out) 0 4).trans HO.out
  have HC4 := Lib.hid (HC3.out.below hb)
  clear HP HC1 HO HC3
  have HP := HP2
  have HC1 := HC2
  have HO := HO2
  have HC3 := HC4
  clear HP2 HC2 HO2 HC4
  clear hb
  generalize u3.drew = u3' at *
  repeat (first | (refine t_off rfl rfl ?_; simp only [List.getElem_toArray, List.getElem_cons_succ, List.getElem_cons_zero, Act.put, Act.eval, List.setIfInBounds_toArray, List.set_cons_zero, List.set_cons_succ, Array.getD_eq_getD_getElem?, List.getElem?_toArray, List.getElem?_cons_succ, List.getElem?_cons_zero, Option.getD_some]) | (refine t_move rfl _ rfl rfl ?_; simp only [List.getElem_toArray, List.getElem_cons_succ, List.getElem_cons_zero, Act.put, Act.eval, List.setIfInBounds_toArray, List.set_cons_zero, List.set_cons_succ, Array.getD_eq_getD_getElem?, List.getElem?_toArray, List.getElem?_cons_succ, List.getElem?_cons_zero, Option.getD_some]) | (refine t_assign rfl _ rfl rfl ?_; simp only [List.getElem_toArray, List.getElem_cons_succ, List.getElem_cons_zero, Act.put, Act.eval, List.setIfInBounds_toArray, List.set_cons_zero, List.set_cons_succ, Array.getD_eq_getD_getElem?, List.getElem?_toArray, List.getElem?_cons_succ, List.getElem?_cons_zero, Option.getD_some]) | (refine t_val rfl rfl ?_; apply Exists.intro; refine ⟨fun w' hC' => ?_, ?_⟩; (obtain ⟨b0, b1, b2, b3, b4, o1, o2⟩ := HS.out w' hC'; go_simp; (first | done | exact rfl)); simp only [List.getElem_toArray, List.getElem_cons_succ, List.getElem_cons_zero, Act.put, Act.eval, List.setIfInBounds_toArray, List.set_cons_zero, List.set_cons_succ, Array.getD_eq_getD_getElem?, List.getElem?_toArray, List.getElem?_cons_succ, List.getElem?_cons_zero, Option.getD_some]) | (refine p_off rfl rfl ?_; simp only [List.getElem_toArray, List.getElem_cons_succ, List.getElem_cons_zero, Act.put, Act.eval, List.setIfInBounds_toArray, List.set_cons_zero, List.set_cons_succ, Array.getD_eq_getD_getElem?, List.getElem?_toArray, List.getElem?_cons_succ, List.getElem?_cons_zero, Option.getD_some]) | (refine p_val rfl rfl ?_; apply Exists.intro; refine ⟨fun w' => ?_, ?_⟩; (go_simp; (first | done | exact rfl)); simp only [List.getElem_toArray, List.getElem_cons_succ, List.getElem_cons_zero, Act.put, Act.eval, List.setIfInBounds_toArray, List.set_cons_zero, List.set_cons_succ, Array.getD_eq_getD_getElem?, List.getElem?_toArray, List.getElem?_cons_succ, List.getElem?_cons_zero, Option.getD_some]))
  refine r_call rfl rfl ?_; apply Exists.intro; apply Exists.intro; refine ⟨?_, ?_⟩; (go_simp; exact ⟨rfl, rfl⟩)
  have hcall := (hD2 ▸ hcd ▸ dsync_any u3' m HP.out.d HD.out hm hn HP.out.ub : Calls Try.prog 16 #[.pointer (some ⟨p.B, 0, none⟩)] u3' fun e w' => e = .returned (errV cd 0) ∧ DNext u3' w0.heap.size p n D2 w')
  refine hcall.mono ?_
  rintro _ u5 ⟨rfl, hN⟩
  obtain ⟨p1, hP1, hk1⟩ := HP.out.disk hN
  clear hcall hN
  have HP2 := Lib.hid hP1
  have HC2 := Lib.hid (HC1.out.same (hk1 0 (by omega)))
  have HO2 : Hid (readAt u5 (w.heap.size + 1) 0 4 = some #[.int .i64 2, .int .i64 at_, .int .u8 (byte.toNat : Int), .slice ado cuts.length co]) := (rd_same (hk1 1 (by omega)) 0 4).trans HO.out
  have HC4 := Lib.hid (HC3.out.same (hk1 2 (by omega)))
  clear HP HC1 HO HC3
  have HP := HP2
  have HC1 := HC2
  have HO := HO2
  have HC3 := HC4
  clear HP2 HC2 HO2 HC4
  clear hP1 hk1
  refine ⟨_, rfl, _, fun _ h => h, ⟨HC1.out.r, HO.out⟩, ?_⟩; simp only [List.getElem_toArray, List.getElem_cons_succ, List.getElem_cons_zero, Act.put, Act.eval, List.setIfInBounds_toArray, List.set_cons_zero, List.set_cons_succ, Array.getD_eq_getD_getElem?, List.getElem?_toArray, List.getElem?_cons_succ, List.getElem?_cons_zero, Option.getD_some]
  repeat (first | (refine t_off rfl rfl ?_; simp only [List.getElem_toArray, List.getElem_cons_succ, List.getElem_cons_zero, Act.put, Act.eval, List.setIfInBounds_toArray, List.set_cons_zero, List.set_cons_succ, Array.getD_eq_getD_getElem?, List.getElem?_toArray, List.getElem?_cons_succ, List.getElem?_cons_zero, Option.getD_some]) | (refine t_move rfl _ rfl rfl ?_; simp only [List.getElem_toArray, List.getElem_cons_succ, List.getElem_cons_zero, Act.put, Act.eval, List.setIfInBounds_toArray, List.set_cons_zero, List.set_cons_succ, Array.getD_eq_getD_getElem?, List.getElem?_toArray, List.getElem?_cons_succ, List.getElem?_cons_zero, Option.getD_some]) | (refine t_assign rfl _ rfl rfl ?_; simp only [List.getElem_toArray, List.getElem_cons_succ, List.getElem_cons_zero, Act.put, Act.eval, List.setIfInBounds_toArray, List.set_cons_zero, List.set_cons_succ, Array.getD_eq_getD_getElem?, List.getElem?_toArray, List.getElem?_cons_succ, List.getElem?_cons_zero, Option.getD_some]) | (refine t_val rfl rfl ?_; apply Exists.intro; refine ⟨fun w' hC' => ?_, ?_⟩; (obtain ⟨b0, b1, b2, b3, b4, o1, o2⟩ := HS.out w' hC'; go_simp; (first | done | exact rfl)); simp only [List.getElem_toArray, List.getElem_cons_succ, List.getElem_cons_zero, Act.put, Act.eval, List.setIfInBounds_toArray, List.set_cons_zero, List.set_cons_succ, Array.getD_eq_getD_getElem?, List.getElem?_toArray, List.getElem?_cons_succ, List.getElem?_cons_zero, Option.getD_some]) | (refine p_off rfl rfl ?_; simp only [List.getElem_toArray, List.getElem_cons_succ, List.getElem_cons_zero, Act.put, Act.eval, List.setIfInBounds_toArray, List.set_cons_zero, List.set_cons_succ, Array.getD_eq_getD_getElem?, List.getElem?_toArray, List.getElem?_cons_succ, List.getElem?_cons_zero, Option.getD_some]) | (refine p_val rfl rfl ?_; apply Exists.intro; refine ⟨fun w' => ?_, ?_⟩; (go_simp; (first | done | exact rfl)); simp only [List.getElem_toArray, List.getElem_cons_succ, List.getElem_cons_zero, Act.put, Act.eval, List.setIfInBounds_toArray, List.set_cons_zero, List.set_cons_succ, Array.getD_eq_getD_getElem?, List.getElem?_toArray, List.getElem?_cons_succ, List.getElem?_cons_zero, Option.getD_some]))
  refine r_call rfl rfl ?_; apply Exists.intro; apply Exists.intro; refine ⟨?_, ?_⟩; (go_simp; exact ⟨rfl, rfl⟩)
  refine (code_any cd 0 _).mono ?_
  rintro _ u6 ⟨rfl, hb6⟩
  have HP2 := Lib.hid (HP.out.below hb6)
  have HC2 := Lib.hid (HC1.out.below hb6)
  have HO2 : Hid (readAt (u6) (w.heap.size + 1) 0 4 = some #[.int .i64 2, .int .i64 at_, .int .u8 (byte.toNat : Int), .slice ado cuts.length co]) := (readAt_below hb6 (readAt_lt HO.out) 0 4).trans HO.out
  have HC4 := Lib.hid (HC3.out.below hb6)
  clear HP HC1 HO HC3
  have HP := HP2
  have HC1 := HC2
  have HO := HO2
  have HC3 := HC4
  clear HP2 HC2 HO2 HC4
  clear hb6
  refine ⟨_, rfl, _, fun _ h => h, ⟨HC1.out.r, HO.out⟩, ?_⟩; simp only [List.getElem_toArray, List.getElem_cons_succ, List.getElem_cons_zero, Act.put, Act.eval, List.setIfInBounds_toArray, List.set_cons_zero, List.set_cons_succ, Array.getD_eq_getD_getElem?, List.getElem?_toArray, List.getElem?_cons_succ, List.getElem?_cons_zero, Option.getD_some]
  by_cases hcc : cd = cr
  · subst hcc
    repeat (first | (refine t_off rfl rfl ?_; simp only [List.getElem_toArray, List.getElem_cons_succ, List.getElem_cons_zero, Act.put, Act.eval, List.setIfInBounds_toArray, List.set_cons_zero, List.set_cons_succ, Array.getD_eq_getD_getElem?, List.getElem?_toArray, List.getElem?_cons_succ, List.getElem?_cons_zero, Option.getD_some]) | (refine t_move rfl _ rfl rfl ?_; simp only [List.getElem_toArray, List.getElem_cons_succ, List.getElem_cons_zero, Act.put, Act.eval, List.setIfInBounds_toArray, List.set_cons_zero, List.set_cons_succ, Array.getD_eq_getD_getElem?, List.getElem?_toArray, List.getElem?_cons_succ, List.getElem?_cons_zero, Option.getD_some]) | (refine t_assign rfl _ rfl rfl ?_; simp only [List.getElem_toArray, List.getElem_cons_succ, List.getElem_cons_zero, Act.put, Act.eval, List.setIfInBounds_toArray, List.set_cons_zero, List.set_cons_succ, Array.getD_eq_getD_getElem?, List.getElem?_toArray, List.getElem?_cons_succ, List.getElem?_cons_zero, Option.getD_some]) | (refine t_val rfl rfl ?_; apply Exists.intro; refine ⟨fun w' hC' => ?_, ?_⟩; (obtain ⟨b0, b1, b2, b3, b4, o1, o2⟩ := HS.out w' hC'; go_simp; (first | done | exact rfl)); simp only [List.getElem_toArray, List.getElem_cons_succ, List.getElem_cons_zero, Act.put, Act.eval, List.setIfInBounds_toArray, List.set_cons_zero, List.set_cons_succ, Array.getD_eq_getD_getElem?, List.getElem?_toArray, List.getElem?_cons_succ, List.getElem?_cons_zero, Option.getD_some]) | (refine p_off rfl rfl ?_; simp only [List.getElem_toArray, List.getElem_cons_succ, List.getElem_cons_zero, Act.put, Act.eval, List.setIfInBounds_toArray, List.set_cons_zero, List.set_cons_succ, Array.getD_eq_getD_getElem?, List.getElem?_toArray, List.getElem?_cons_succ, List.getElem?_cons_zero, Option.getD_some]) | (refine p_val rfl rfl ?_; apply Exists.intro; refine ⟨fun w' => ?_, ?_⟩; (go_simp; (first | done | exact rfl)); simp only [List.getElem_toArray, List.getElem_cons_succ, List.getElem_cons_zero, Act.put, Act.eval, List.setIfInBounds_toArray, List.set_cons_zero, List.set_cons_succ, Array.getD_eq_getD_getElem?, List.getElem?_toArray, List.getElem?_cons_succ, List.getElem?_cons_zero, Option.getD_some]))
    obtain ⟨f0, f1, f2, f3, f4⟩ := HC3.out.free
    obtain ⟨g0, g1, g2, g3, g4⟩ := HC3.out.cells
    refine r_any rfl rfl (fun K hK => ?_)
    go_simp
    have hk := put5_kb (Z := fun b => b = w.heap.size + 2) u6 (w.heap.size + 1 + 1) (.slice (some ⟨bl2, ol2, none⟩) n cl2) (.slice ad22 R2.op.length c22) (.bool R2.down) (.int .i64 R2.steps) (.slice ad32 R2.plan.length c32) rfl
    unfold put5 at hk
    refine hK _ _ (fun u => readAt u w.heap.size 0 5 = some #[.slice (some ⟨bl2, ol2, none⟩) n cl2, .slice ad22 R2.op.length c22, .bool R2.down, .int .i64 R2.steps, .slice ad32 R2.plan.length c32] ∧ readAt u (w.heap.size + 1) 0 4 = some #[.int .i64 2, .int .i64 at_, .int .u8 (byte.toNat : Int), .slice ado cuts.length co]) (fun _ h => h) ?_ ?_
    · refine ⟨(rd_same (hk.block _ HC1.out.lt (by omega)) 0 5).trans HC1.out.r, (rd_same (hk.block _ (readAt_lt HO.out) (by omega)) 0 4).trans HO.out⟩
    clear hK K
    try simp only [List.getElem_toArray, List.getElem_cons_succ, List.getElem_cons_zero, Act.put, Act.eval, List.setIfInBounds_toArray, List.set_cons_zero, List.set_cons_succ, Array.getD_eq_getD_getElem?, List.getElem?_toArray, List.getElem?_cons_succ, List.getElem?_cons_zero, Option.getD_some]
    repeat (first | (refine t_off rfl rfl ?_; simp only [List.getElem_toArray, List.getElem_cons_succ, List.getElem_cons_zero, Act.put, Act.eval, List.setIfInBounds_toArray, List.set_cons_zero, List.set_cons_succ, Array.getD_eq_getD_getElem?, List.getElem?_toArray, List.getElem?_cons_succ, List.getElem?_cons_zero, Option.getD_some]) | (refine t_move rfl _ rfl rfl ?_; simp only [List.getElem_toArray, List.getElem_cons_succ, List.getElem_cons_zero, Act.put, Act.eval, List.setIfInBounds_toArray, List.set_cons_zero, List.set_cons_succ, Array.getD_eq_getD_getElem?, List.getElem?_toArray, List.getElem?_cons_succ, List.getElem?_cons_zero, Option.getD_some]) | (refine t_assign rfl _ rfl rfl ?_; simp only [List.getElem_toArray, List.getElem_cons_succ, List.getElem_cons_zero, Act.put, Act.eval, List.setIfInBounds_toArray, List.set_cons_zero, List.set_cons_succ, Array.getD_eq_getD_getElem?, List.getElem?_toArray, List.getElem?_cons_succ, List.getElem?_cons_zero, Option.getD_some]) | (refine t_val rfl rfl ?_; apply Exists.intro; refine ⟨fun w' hC' => ?_, ?_⟩; (obtain ⟨b0, b1, b2, b3, b4, o1, o2⟩ := HS.out w' hC'; go_simp; (first | done | exact rfl)); simp only [List.getElem_toArray, List.getElem_cons_succ, List.getElem_cons_zero, Act.put, Act.eval, List.setIfInBounds_toArray, List.set_cons_zero, List.set_cons_succ, Array.getD_eq_getD_getElem?, List.getElem?_toArray, List.getElem?_cons_succ, List.getElem?_cons_zero, Option.getD_some]) | (refine p_off rfl rfl ?_; simp only [List.getElem_toArray, List.getElem_cons_succ, List.getElem_cons_zero, Act.put, Act.eval, List.setIfInBounds_toArray, List.set_cons_zero, List.set_cons_succ, Array.getD_eq_getD_getElem?, List.getElem?_toArray, List.getElem?_cons_succ, List.getElem?_cons_zero, Option.getD_some]) | (refine p_val rfl rfl ?_; apply Exists.intro; refine ⟨fun w' => ?_, ?_⟩; (go_simp; (first | done | exact rfl)); simp only [List.getElem_toArray, List.getElem_cons_succ, List.getElem_cons_zero, Act.put, Act.eval, List.setIfInBounds_toArray, List.set_cons_zero, List.set_cons_succ, Array.getD_eq_getD_getElem?, List.getElem?_toArray, List.getElem?_cons_succ, List.getElem?_cons_zero, Option.getD_some]))
    refine t_done ?_
    go_wp2
    refine bodyPost_ret (v := .tuple #[.agg #[.slice (some ⟨bl2, ol2, none⟩) n cl2, .slice ad22 R2.op.length c22, .bool R2.down, .int .i64 R2.steps, .slice ad32 R2.plan.length c32], .bool true]) (by simp [results, Try.results22, go_sem, g0, g1, g2, g3, g4]) rfl ?_
    exact (HP.out.own (i := 2) (by omega) hk).done (fun _ => rfl)
  · have hne : (cd == cr) = false := by simpa using hcc
    have Hcc := Lib.hid hcc
    clear hcc
    repeat (first | (refine t_off rfl rfl ?_; simp only [List.getElem_toArray, List.getElem_cons_succ, List.getElem_cons_zero, Act.put, Act.eval, List.setIfInBounds_toArray, List.set_cons_zero, List.set_cons_succ, Array.getD_eq_getD_getElem?, List.getElem?_toArray, List.getElem?_cons_succ, List.getElem?_cons_zero, Option.getD_some]) | (refine t_move rfl _ rfl rfl ?_; simp only [List.getElem_toArray, List.getElem_cons_succ, List.getElem_cons_zero, Act.put, Act.eval, List.setIfInBounds_toArray, List.set_cons_zero, List.set_cons_succ, Array.getD_eq_getD_getElem?, List.getElem?_toArray, List.getElem?_cons_succ, List.getElem?_cons_zero, Option.getD_some]) | (refine t_assign rfl _ rfl rfl ?_; simp only [List.getElem_toArray, List.getElem_cons_succ, List.getElem_cons_zero, Act.put, Act.eval, List.setIfInBounds_toArray, List.set_cons_zero, List.set_cons_succ, Array.getD_eq_getD_getElem?, List.getElem?_toArray, List.getElem?_cons_succ, List.getElem?_cons_zero, Option.getD_some]) | (refine t_val rfl rfl ?_; apply Exists.intro; refine ⟨fun w' hC' => ?_, ?_⟩; (obtain ⟨b0, b1, b2, b3, b4, o1, o2⟩ := HS.out w' hC'; go_simp; (first | done | exact rfl)); simp only [List.getElem_toArray, List.getElem_cons_succ, List.getElem_cons_zero, Act.put, Act.eval, List.setIfInBounds_toArray, List.set_cons_zero, List.set_cons_succ, Array.getD_eq_getD_getElem?, List.getElem?_toArray, List.getElem?_cons_succ, List.getElem?_cons_zero, Option.getD_some]) | (refine p_off rfl rfl ?_; simp only [List.getElem_toArray, List.getElem_cons_succ, List.getElem_cons_zero, Act.put, Act.eval, List.setIfInBounds_toArray, List.set_cons_zero, List.set_cons_succ, Array.getD_eq_getD_getElem?, List.getElem?_toArray, List.getElem?_cons_succ, List.getElem?_cons_zero, Option.getD_some]) | (refine p_val rfl rfl ?_; apply Exists.intro; refine ⟨fun w' => ?_, ?_⟩; (go_simp; (first | done | exact rfl)); simp only [List.getElem_toArray, List.getElem_cons_succ, List.getElem_cons_zero, Act.put, Act.eval, List.setIfInBounds_toArray, List.set_cons_zero, List.set_cons_succ, Array.getD_eq_getD_getElem?, List.getElem?_toArray, List.getElem?_cons_succ, List.getElem?_cons_zero, Option.getD_some]))
    obtain ⟨f0, f1, f2, f3, f4⟩ := HC3.out.free
    obtain ⟨g0, g1, g2, g3, g4⟩ := HC3.out.cells
    refine r_any rfl rfl (fun K hK => ?_)
    go_simp
    have hk := put5_kb (Z := fun b => b = w.heap.size + 2) u6 (w.heap.size + 1 + 1) (.slice (some ⟨bl2, ol2, none⟩) n cl2) (.slice ad22 R2.op.length c22) (.bool R2.down) (.int .i64 R2.steps) (.slice ad32 R2.plan.length c32) rfl
    unfold put5 at hk
    refine hK _ _ (fun u => readAt u w.heap.size 0 5 = some #[.slice (some ⟨bl2, ol2, none⟩) n cl2, .slice ad22 R2.op.length c22, .bool R2.down, .int .i64 R2.steps, .slice ad32 R2.plan.length c32] ∧ readAt u (w.heap.size + 1) 0 4 = some #[.int .i64 2, .int .i64 at_, .int .u8 (byte.toNat : Int), .slice ado cuts.length co]) (fun _ h => h) ?_ ?_
    · refine ⟨(rd_same (hk.block _ HC1.out.lt (by omega)) 0 5).trans HC1.out.r, (rd_same (hk.block _ (readAt_lt HO.out) (by omega)) 0 4).trans HO.out⟩
    clear hK K
    try simp only [List.getElem_toArray, List.getElem_cons_succ, List.getElem_cons_zero, Act.put, Act.eval, List.setIfInBounds_toArray, List.set_cons_zero, List.set_cons_succ, Array.getD_eq_getD_getElem?, List.getElem?_toArray, List.getElem?_cons_succ, List.getElem?_cons_zero, Option.getD_some]
    repeat (first | (refine t_off rfl rfl ?_; simp only [List.getElem_toArray, List.getElem_cons_succ, List.getElem_cons_zero, Act.put, Act.eval, List.setIfInBounds_toArray, List.set_cons_zero, List.set_cons_succ, Array.getD_eq_getD_getElem?, List.getElem?_toArray, List.getElem?_cons_succ, List.getElem?_cons_zero, Option.getD_some]) | (refine t_move rfl _ rfl rfl ?_; simp only [List.getElem_toArray, List.getElem_cons_succ, List.getElem_cons_zero, Act.put, Act.eval, List.setIfInBounds_toArray, List.set_cons_zero, List.set_cons_succ, Array.getD_eq_getD_getElem?, List.getElem?_toArray, List.getElem?_cons_succ, List.getElem?_cons_zero, Option.getD_some]) | (refine t_assign rfl _ rfl rfl ?_; simp only [List.getElem_toArray, List.getElem_cons_succ, List.getElem_cons_zero, Act.put, Act.eval, List.setIfInBounds_toArray, List.set_cons_zero, List.set_cons_succ, Array.getD_eq_getD_getElem?, List.getElem?_toArray, List.getElem?_cons_succ, List.getElem?_cons_zero, Option.getD_some]) | (refine t_val rfl rfl ?_; apply Exists.intro; refine ⟨fun w' hC' => ?_, ?_⟩; (obtain ⟨b0, b1, b2, b3, b4, o1, o2⟩ := HS.out w' hC'; go_simp; (first | done | exact rfl)); simp only [List.getElem_toArray, List.getElem_cons_succ, List.getElem_cons_zero, Act.put, Act.eval, List.setIfInBounds_toArray, List.set_cons_zero, List.set_cons_succ, Array.getD_eq_getD_getElem?, List.getElem?_toArray, List.getElem?_cons_succ, List.getElem?_cons_zero, Option.getD_some]) | (refine p_off rfl rfl ?_; simp only [List.getElem_toArray, List.getElem_cons_succ, List.getElem_cons_zero, Act.put, Act.eval, List.setIfInBounds_toArray, List.set_cons_zero, List.set_cons_succ, Array.getD_eq_getD_getElem?, List.getElem?_toArray, List.getElem?_cons_succ, List.getElem?_cons_zero, Option.getD_some]) | (refine p_val rfl rfl ?_; apply Exists.intro; refine ⟨fun w' => ?_, ?_⟩; (go_simp; (first | done | exact rfl)); simp only [List.getElem_toArray, List.getElem_cons_succ, List.getElem_cons_zero, Act.put, Act.eval, List.setIfInBounds_toArray, List.set_cons_zero, List.set_cons_succ, Array.getD_eq_getD_getElem?, List.getElem?_toArray, List.getElem?_cons_succ, List.getElem?_cons_zero, Option.getD_some]))
    refine t_done ?_
    go_wp2
    refine bodyPost_ret (v := .tuple #[.agg #[.slice (some ⟨bl2, ol2, none⟩) n cl2, .slice ad22 R2.op.length c22, .bool R2.down, .int .i64 R2.steps, .slice ad32 R2.plan.length c32], .bool false]) (by simp [results, Try.results22, go_sem, g0, g1, g2, g3, g4]) rfl ?_
    exact (HP.out.own (i := 2) (by omega) hk).done (fun h => absurd (Hsame.out h) Hcc.out)
end Go.Proofs.Ytjedlcfeobhjnaa
