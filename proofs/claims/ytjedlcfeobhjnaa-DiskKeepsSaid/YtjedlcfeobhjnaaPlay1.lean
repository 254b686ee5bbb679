/- The law's play, the arms that only plan, crash or start. Conditions: the numbers are small. -/
import Derived.Test.YtjedlcfeobhjnaaPlayR
set_option linter.unusedSimpArgs false
set_option linter.unusedVariables false
namespace Go.Proofs.Ytjedlcfeobhjnaa
open Go.RowKit Go.ChangeMaps

theorem nil_cuts (w : World) : RdS w (.slice none 0 0) ([] : List Int).length 1 (([] : List Int).map (Value.int .i64)) :=
  ⟨none, 0, rfl, Nat.le_refl _, by simp [maxLen], by simp, fun _ => ⟨rfl, rfl⟩, fun h => absurd h (by simp)⟩

set_option maxRecDepth 100000 in
set_option maxHeartbeats 6400000 in
theorem play3 (Z : Nat → Prop) (w0 w : World) (p : DP) (n m : Nat) (D R : DM) (a b c : Value) (at_ : Int) (byte : UInt8) (cuts : List Int) (ado : Option Addr) (co : Nat) (hB : Both2 Z w0 w p n D R a b c) (hD : OkD D n m) (hRk : OkD R n m) (hm : m + 2 ≤ 100000) (hn : n ≤ 5000) (hpl : R.plan.length ≤ 100000) (hat : at_ ≤ 1048576)
    (hc : RdS w0 (.slice ado cuts.length co) cuts.length 1 (cuts.map (Value.int .i64))) (hcl : cuts.length ≤ 20) :
    Calls Try.prog 22 #[.pointer (some ⟨p.B, 0, none⟩), .agg (rV R a b c), .agg #[.int .i64 3, .int .i64 at_, .int .u8 (byte.toNat : Int), .slice ado cuts.length co]] w (PNext2 Z w0 w p n (planD D at_ false []) (planD R at_ false []) (D = R)) := by
  obtain ⟨bl, ol, cl, ad2, ad3, c2, c3, rfl, rfl, rfl⟩ := hB.r.open_
  unfold rV
  have HB := Lib.hid hB
  have HD := Lib.hid hD
  have HRk := Lib.hid hRk
  have Hc := Lib.hid hc
  clear hB hD hRk hc
  go_enter Try.func22, Try.ntmps22
  go_wp2_with fail
  obtain ⟨W, hW⟩ : ∃ W, ((w.alloc (.cells #[.slice (some ⟨bl, ol, none⟩) n cl, .slice ad2 R.op.length c2, .bool R.down, .int .i64 R.steps, .slice ad3 R.plan.length c3] 46)).alloc (.cells #[.int .i64 3, .int .i64 at_, .int .u8 (byte.toNat : Int), .slice ado cuts.length co] 30)).alloc (.cells #[.slice none 0 0, .slice none 0 0, .bool false, .int .i64 0, .slice none 0 0] 46) = W := ⟨_, rfl⟩
  have hb : Below w.heap.size w W := by rw [← hW]; exact ba _ (ba _ (ba _ (Below.refl _ _)))
  have HP := Lib.hid (HB.out.start hb (by rw [← hW]; simp))
  have HC1 : Hid (C5 W w.heap.size (.slice (some ⟨bl, ol, none⟩) n cl) (.slice ad2 R.op.length c2) (.bool R.down) (.int .i64 R.steps) (.slice ad3 R.plan.length c3)) := by
    unfold Hid; rw [← hW]; exact ((C5.made w _ _ _ _ _ _).below (ba _ (Below.refl _ _))).below (ba _ (Below.refl _ _))
  have HO : Hid (readAt W (w.heap.size + 1) 0 4 = some #[.int .i64 3, .int .i64 at_, .int .u8 (byte.toNat : Int), .slice ado cuts.length co]) := by
    unfold Hid; rw [← hW, readAt_alloc_past _ _ _ _ _ (by simp)]; have h1 := readAt_alloc_at (w.alloc (.cells #[.slice (some ⟨bl, ol, none⟩) n cl, .slice ad2 R.op.length c2, .bool R.down, .int .i64 R.steps, .slice ad3 R.plan.length c3] 46)) #[.int .i64 3, .int .i64 at_, .int .u8 (byte.toNat : Int), .slice ado cuts.length co] 30 (0, 0) (w.heap.size + 1) 0 4 (by simp) (by simp); rw [h1]; rfl
  have HC3 : Hid (C5 W (w.heap.size + 1 + 1) (.slice none 0 0) (.slice none 0 0) (.bool false) (.int .i64 0) (.slice none 0 0)) := by
    unfold Hid; rw [← hW]; have h1 := C5.made ((w.alloc (.cells #[.slice (some ⟨bl, ol, none⟩) n cl, .slice ad2 R.op.length c2, .bool R.down, .int .i64 R.steps, .slice ad3 R.plan.length c3] 46)).alloc (.cells #[.int .i64 3, .int .i64 at_, .int .u8 (byte.toNat : Int), .slice ado cuts.length co] 30)) 46 (.slice none 0 0) (.slice none 0 0) (.bool false) (.int .i64 0) (.slice none 0 0); simpa using h1
  rw [hW]
  clear hW hb
  have hcall := dfail_any W at_ m [] HP.out.d HD.out (by omega) hat
  refine hcall.mono ?_
  rintro _ u1 ⟨rfl, hN⟩
  obtain ⟨p1, hP1, hk1⟩ := HP.out.disk hN
  have HP1 := Lib.hid hP1
  have HC1a := Lib.hid (HC1.out.same (hk1 0 (by omega)))
  have HOa : Hid (readAt u1 (w.heap.size + 1) 0 4 = some #[.int .i64 3, .int .i64 at_, .int .u8 (byte.toNat : Int), .slice ado cuts.length co]) := (rd_same (hk1 1 (by omega)) 0 4).trans HO.out
  have HC3a := Lib.hid (HC3.out.same (hk1 2 (by omega)))
  clear hcall hN hP1 hk1 HP HC1 HO HC3
  obtain ⟨b0, b1, b2, b3, b4⟩ := HC1a.out.cells
  have hcO := fun i v hv => readAt_cell HOa.out i v hv
  simp only [Nat.zero_add] at hcO
  have o0 : u1.cell? ⟨w.heap.size + 1, 0, none⟩ = some (.int .i64 3) := hcO 0 _ rfl
  have o1 : u1.cell? ⟨w.heap.size + 1, 1, none⟩ = some (.int .i64 at_) := hcO 1 _ rfl
  have o2 : u1.cell? ⟨w.heap.size + 1, 2, none⟩ = some (.int .u8 (byte.toNat : Int)) := hcO 2 _ rfl
  have o3 : u1.cell? ⟨w.heap.size + 1, 3, none⟩ = some (.slice ado cuts.length co) := hcO 3 _ rfl
  clear hcO
  go_wp2_with fail
  clear o0 o1 o2 o3 b0 b1 b2 b3 b4
  have hcall := rdplan_any u1 _ n m R _ _ _ (.slice none 0 0) at_ false [] HP1.out.r HP1.out.lt HRk.out (by omega) hpl hat (by simp) (nil_cuts u1)
  unfold rV at hcall
  generalize hR2 : planD R at_ false [] = R2 at hcall ⊢
  refine hcall.mono ?_
  rintro _ u2 ⟨⟨v, rfl, a2, b2, c4, rfl, hr2⟩, hb2⟩
  obtain ⟨bl2, ol2, cl2, ad22, ad32, c22, c32, rfl, rfl, rfl⟩ := hr2.open_
  have HP2 := Lib.hid (HP1.out.ref hb2 hr2)
  have HC3b := Lib.hid (HC3a.out.below hb2)
  clear hr2 hb2 hcall
  unfold rV
  obtain ⟨f0, f1, f2, f3, f4⟩ := HC3b.out.free
  obtain ⟨g0, g1, g2, g3, g4⟩ := HC3b.out.cells
  go_wp2
  have hk := put5_kb (Z := fun b => b = w.heap.size + 2) u2 (w.heap.size + 1 + 1) (.slice (some ⟨bl2, ol2, none⟩) n cl2) (.slice ad22 R2.op.length c22) (.bool R2.down) (.int .i64 R2.steps) (.slice ad32 R2.plan.length c32) rfl
  unfold put5 at hk
  refine bodyPost_ret (v := .tuple #[.agg #[.slice (some ⟨bl2, ol2, none⟩) n cl2, .slice ad22 R2.op.length c22, .bool R2.down, .int .i64 R2.steps, .slice ad32 R2.plan.length c32], .bool true]) (by simp [results, Try.results22, go_sem, g0, g1, g2, g3, g4]) rfl ?_
  rw [hR2]
  exact (HP2.out.own (i := 2) (by omega) hk).done (fun _ => rfl)

set_option maxRecDepth 100000 in
set_option maxHeartbeats 6400000 in
theorem play4 (Z : Nat → Prop) (w0 w : World) (p : DP) (n m : Nat) (D R : DM) (a b c : Value) (at_ : Int) (byte : UInt8) (cuts : List Int) (ado : Option Addr) (co : Nat) (hB : Both2 Z w0 w p n D R a b c) (hD : OkD D n m) (hRk : OkD R n m) (hm : m + 2 ≤ 100000) (hn : n ≤ 5000) (hpl : R.plan.length ≤ 100000) (hat : at_ ≤ 1048576)
    (hc : RdS w0 (.slice ado cuts.length co) cuts.length 1 (cuts.map (Value.int .i64))) (hcl : cuts.length ≤ 20) :
    Calls Try.prog 22 #[.pointer (some ⟨p.B, 0, none⟩), .agg (rV R a b c), .agg #[.int .i64 4, .int .i64 at_, .int .u8 (byte.toNat : Int), .slice ado cuts.length co]] w (PNext2 Z w0 w p n (planD D at_ true cuts) (planD R at_ true cuts) (D = R)) := by
  obtain ⟨bl, ol, cl, ad2, ad3, c2, c3, rfl, rfl, rfl⟩ := hB.r.open_
  unfold rV
  have HB := Lib.hid hB
  have HD := Lib.hid hD
  have HRk := Lib.hid hRk
  have Hc := Lib.hid hc
  clear hB hD hRk hc
  go_enter Try.func22, Try.ntmps22
  go_wp2_with fail
  obtain ⟨W, hW⟩ : ∃ W, ((w.alloc (.cells #[.slice (some ⟨bl, ol, none⟩) n cl, .slice ad2 R.op.length c2, .bool R.down, .int .i64 R.steps, .slice ad3 R.plan.length c3] 46)).alloc (.cells #[.int .i64 4, .int .i64 at_, .int .u8 (byte.toNat : Int), .slice ado cuts.length co] 30)).alloc (.cells #[.slice none 0 0, .slice none 0 0, .bool false, .int .i64 0, .slice none 0 0] 46) = W := ⟨_, rfl⟩
  have hb : Below w.heap.size w W := by rw [← hW]; exact ba _ (ba _ (ba _ (Below.refl _ _)))
  have HP := Lib.hid (HB.out.start hb (by rw [← hW]; simp))
  have HC1 : Hid (C5 W w.heap.size (.slice (some ⟨bl, ol, none⟩) n cl) (.slice ad2 R.op.length c2) (.bool R.down) (.int .i64 R.steps) (.slice ad3 R.plan.length c3)) := by
    unfold Hid; rw [← hW]; exact ((C5.made w _ _ _ _ _ _).below (ba _ (Below.refl _ _))).below (ba _ (Below.refl _ _))
  have HO : Hid (readAt W (w.heap.size + 1) 0 4 = some #[.int .i64 4, .int .i64 at_, .int .u8 (byte.toNat : Int), .slice ado cuts.length co]) := by
    unfold Hid; rw [← hW, readAt_alloc_past _ _ _ _ _ (by simp)]; have h1 := readAt_alloc_at (w.alloc (.cells #[.slice (some ⟨bl, ol, none⟩) n cl, .slice ad2 R.op.length c2, .bool R.down, .int .i64 R.steps, .slice ad3 R.plan.length c3] 46)) #[.int .i64 4, .int .i64 at_, .int .u8 (byte.toNat : Int), .slice ado cuts.length co] 30 (0, 0) (w.heap.size + 1) 0 4 (by simp) (by simp); rw [h1]; rfl
  have HC3 : Hid (C5 W (w.heap.size + 1 + 1) (.slice none 0 0) (.slice none 0 0) (.bool false) (.int .i64 0) (.slice none 0 0)) := by
    unfold Hid; rw [← hW]; have h1 := C5.made ((w.alloc (.cells #[.slice (some ⟨bl, ol, none⟩) n cl, .slice ad2 R.op.length c2, .bool R.down, .int .i64 R.steps, .slice ad3 R.plan.length c3] 46)).alloc (.cells #[.int .i64 4, .int .i64 at_, .int .u8 (byte.toNat : Int), .slice ado cuts.length co] 30)) 46 (.slice none 0 0) (.slice none 0 0) (.bool false) (.int .i64 0) (.slice none 0 0); simpa using h1
  rw [hW]
  clear hW hb
  have hcall := dcrashat_any W at_ (.slice ado cuts.length co) cuts m HP.out.d HD.out (by omega) hat HP.out.ub (by omega) (Hc.out.below HP.out.bel)
  refine hcall.mono ?_
  rintro _ u1 ⟨rfl, hN⟩
  obtain ⟨p1, hP1, hk1⟩ := HP.out.disk hN
  have HP1 := Lib.hid hP1
  have HC1a := Lib.hid (HC1.out.same (hk1 0 (by omega)))
  have HOa : Hid (readAt u1 (w.heap.size + 1) 0 4 = some #[.int .i64 4, .int .i64 at_, .int .u8 (byte.toNat : Int), .slice ado cuts.length co]) := (rd_same (hk1 1 (by omega)) 0 4).trans HO.out
  have HC3a := Lib.hid (HC3.out.same (hk1 2 (by omega)))
  clear hcall hN hP1 hk1 HP HC1 HO HC3
  obtain ⟨b0, b1, b2, b3, b4⟩ := HC1a.out.cells
  have hcO := fun i v hv => readAt_cell HOa.out i v hv
  simp only [Nat.zero_add] at hcO
  have o0 : u1.cell? ⟨w.heap.size + 1, 0, none⟩ = some (.int .i64 4) := hcO 0 _ rfl
  have o1 : u1.cell? ⟨w.heap.size + 1, 1, none⟩ = some (.int .i64 at_) := hcO 1 _ rfl
  have o2 : u1.cell? ⟨w.heap.size + 1, 2, none⟩ = some (.int .u8 (byte.toNat : Int)) := hcO 2 _ rfl
  have o3 : u1.cell? ⟨w.heap.size + 1, 3, none⟩ = some (.slice ado cuts.length co) := hcO 3 _ rfl
  clear hcO
  go_wp2_with fail
  clear o0 o1 o2 o3 b0 b1 b2 b3 b4
  have hcall := rdplan_any u1 _ n m R _ _ _ (.slice ado cuts.length co) at_ true cuts HP1.out.r HP1.out.lt HRk.out (by omega) hpl hat (by omega) (Hc.out.below HP1.out.bel)
  unfold rV at hcall
  generalize hR2 : planD R at_ true cuts = R2 at hcall ⊢
  refine hcall.mono ?_
  rintro _ u2 ⟨⟨v, rfl, a2, b2, c4, rfl, hr2⟩, hb2⟩
  obtain ⟨bl2, ol2, cl2, ad22, ad32, c22, c32, rfl, rfl, rfl⟩ := hr2.open_
  have HP2 := Lib.hid (HP1.out.ref hb2 hr2)
  have HC3b := Lib.hid (HC3a.out.below hb2)
  clear hr2 hb2 hcall
  unfold rV
  obtain ⟨f0, f1, f2, f3, f4⟩ := HC3b.out.free
  obtain ⟨g0, g1, g2, g3, g4⟩ := HC3b.out.cells
  go_wp2
  have hk := put5_kb (Z := fun b => b = w.heap.size + 2) u2 (w.heap.size + 1 + 1) (.slice (some ⟨bl2, ol2, none⟩) n cl2) (.slice ad22 R2.op.length c22) (.bool R2.down) (.int .i64 R2.steps) (.slice ad32 R2.plan.length c32) rfl
  unfold put5 at hk
  refine bodyPost_ret (v := .tuple #[.agg #[.slice (some ⟨bl2, ol2, none⟩) n cl2, .slice ad22 R2.op.length c22, .bool R2.down, .int .i64 R2.steps, .slice ad32 R2.plan.length c32], .bool true]) (by simp [results, Try.results22, go_sem, g0, g1, g2, g3, g4]) rfl ?_
  rw [hR2]
  exact (HP2.out.own (i := 2) (by omega) hk).done (fun _ => rfl)

set_option maxRecDepth 100000 in
set_option maxHeartbeats 6400000 in
theorem play5 (Z : Nat → Prop) (w0 w : World) (p : DP) (n m : Nat) (D R : DM) (a b c : Value) (at_ : Int) (byte : UInt8) (cuts : List Int) (ado : Option Addr) (co : Nat) (hB : Both2 Z w0 w p n D R a b c) (hD : OkD D n m) (hRk : OkD R n m) (hm : m + 2 ≤ 100000) (hn : n ≤ 5000) (hpl : R.plan.length ≤ 100000) (hat : at_ ≤ 1048576)
    (hc : RdS w0 (.slice ado cuts.length co) cuts.length 1 (cuts.map (Value.int .i64))) (hcl : cuts.length ≤ 20) :
    Calls Try.prog 22 #[.pointer (some ⟨p.B, 0, none⟩), .agg (rV R a b c), .agg #[.int .i64 5, .int .i64 at_, .int .u8 (byte.toNat : Int), .slice ado cuts.length co]] w (PNext2 Z w0 w p n (crashD D cuts) (crashD R cuts) (D = R)) := by
  obtain ⟨bl, ol, cl, ad2, ad3, c2, c3, rfl, rfl, rfl⟩ := hB.r.open_
  unfold rV
  have HB := Lib.hid hB
  have HD := Lib.hid hD
  have HRk := Lib.hid hRk
  have Hc := Lib.hid hc
  clear hB hD hRk hc
  go_enter Try.func22, Try.ntmps22
  go_wp2_with fail
  obtain ⟨W, hW⟩ : ∃ W, ((w.alloc (.cells #[.slice (some ⟨bl, ol, none⟩) n cl, .slice ad2 R.op.length c2, .bool R.down, .int .i64 R.steps, .slice ad3 R.plan.length c3] 46)).alloc (.cells #[.int .i64 5, .int .i64 at_, .int .u8 (byte.toNat : Int), .slice ado cuts.length co] 30)).alloc (.cells #[.slice none 0 0, .slice none 0 0, .bool false, .int .i64 0, .slice none 0 0] 46) = W := ⟨_, rfl⟩
  have hb : Below w.heap.size w W := by rw [← hW]; exact ba _ (ba _ (ba _ (Below.refl _ _)))
  have HP := Lib.hid (HB.out.start hb (by rw [← hW]; simp))
  have HC1 : Hid (C5 W w.heap.size (.slice (some ⟨bl, ol, none⟩) n cl) (.slice ad2 R.op.length c2) (.bool R.down) (.int .i64 R.steps) (.slice ad3 R.plan.length c3)) := by
    unfold Hid; rw [← hW]; exact ((C5.made w _ _ _ _ _ _).below (ba _ (Below.refl _ _))).below (ba _ (Below.refl _ _))
  have HO : Hid (readAt W (w.heap.size + 1) 0 4 = some #[.int .i64 5, .int .i64 at_, .int .u8 (byte.toNat : Int), .slice ado cuts.length co]) := by
    unfold Hid; rw [← hW, readAt_alloc_past _ _ _ _ _ (by simp)]; have h1 := readAt_alloc_at (w.alloc (.cells #[.slice (some ⟨bl, ol, none⟩) n cl, .slice ad2 R.op.length c2, .bool R.down, .int .i64 R.steps, .slice ad3 R.plan.length c3] 46)) #[.int .i64 5, .int .i64 at_, .int .u8 (byte.toNat : Int), .slice ado cuts.length co] 30 (0, 0) (w.heap.size + 1) 0 4 (by simp) (by simp); rw [h1]; rfl
  have HC3 : Hid (C5 W (w.heap.size + 1 + 1) (.slice none 0 0) (.slice none 0 0) (.bool false) (.int .i64 0) (.slice none 0 0)) := by
    unfold Hid; rw [← hW]; have h1 := C5.made ((w.alloc (.cells #[.slice (some ⟨bl, ol, none⟩) n cl, .slice ad2 R.op.length c2, .bool R.down, .int .i64 R.steps, .slice ad3 R.plan.length c3] 46)).alloc (.cells #[.int .i64 5, .int .i64 at_, .int .u8 (byte.toNat : Int), .slice ado cuts.length co] 30)) 46 (.slice none 0 0) (.slice none 0 0) (.bool false) (.int .i64 0) (.slice none 0 0); simpa using h1
  rw [hW]
  clear hW hb
  have hcall := dcrash_any W (.slice ado cuts.length co) cuts m HP.out.d HD.out (by omega) hn HP.out.ub (Hc.out.below HP.out.bel)
  refine hcall.mono ?_
  rintro _ u1 ⟨rfl, hN⟩
  obtain ⟨p1, hP1, hk1⟩ := HP.out.disk hN
  have HP1 := Lib.hid hP1
  have HC1a := Lib.hid (HC1.out.same (hk1 0 (by omega)))
  have HOa : Hid (readAt u1 (w.heap.size + 1) 0 4 = some #[.int .i64 5, .int .i64 at_, .int .u8 (byte.toNat : Int), .slice ado cuts.length co]) := (rd_same (hk1 1 (by omega)) 0 4).trans HO.out
  have HC3a := Lib.hid (HC3.out.same (hk1 2 (by omega)))
  clear hcall hN hP1 hk1 HP HC1 HO HC3
  obtain ⟨b0, b1, b2, b3, b4⟩ := HC1a.out.cells
  have hcO := fun i v hv => readAt_cell HOa.out i v hv
  simp only [Nat.zero_add] at hcO
  have o0 : u1.cell? ⟨w.heap.size + 1, 0, none⟩ = some (.int .i64 5) := hcO 0 _ rfl
  have o1 : u1.cell? ⟨w.heap.size + 1, 1, none⟩ = some (.int .i64 at_) := hcO 1 _ rfl
  have o2 : u1.cell? ⟨w.heap.size + 1, 2, none⟩ = some (.int .u8 (byte.toNat : Int)) := hcO 2 _ rfl
  have o3 : u1.cell? ⟨w.heap.size + 1, 3, none⟩ = some (.slice ado cuts.length co) := hcO 3 _ rfl
  clear hcO
  go_wp2_with fail
  clear o0 o1 o2 o3 b0 b1 b2 b3 b4
  have hcall := rdcrash_any u1 _ n m R _ _ _ (.slice ado cuts.length co) cuts HP1.out.r HP1.out.lt HRk.out (by omega) hn (Hc.out.below HP1.out.bel)
  unfold rV at hcall
  generalize hR2 : crashD R cuts = R2 at hcall ⊢
  refine hcall.mono ?_
  rintro _ u2 ⟨⟨v, rfl, a2, b2, c4, rfl, hr2⟩, hb2⟩
  obtain ⟨bl2, ol2, cl2, ad22, ad32, c22, c32, rfl, rfl, rfl⟩ := hr2.open_
  have HP2 := Lib.hid (HP1.out.ref hb2 hr2)
  have HC3b := Lib.hid (HC3a.out.below hb2)
  clear hr2 hb2 hcall
  unfold rV
  obtain ⟨f0, f1, f2, f3, f4⟩ := HC3b.out.free
  obtain ⟨g0, g1, g2, g3, g4⟩ := HC3b.out.cells
  go_wp2
  have hk := put5_kb (Z := fun b => b = w.heap.size + 2) u2 (w.heap.size + 1 + 1) (.slice (some ⟨bl2, ol2, none⟩) n cl2) (.slice ad22 R2.op.length c22) (.bool R2.down) (.int .i64 R2.steps) (.slice ad32 R2.plan.length c32) rfl
  unfold put5 at hk
  refine bodyPost_ret (v := .tuple #[.agg #[.slice (some ⟨bl2, ol2, none⟩) n cl2, .slice ad22 R2.op.length c22, .bool R2.down, .int .i64 R2.steps, .slice ad32 R2.plan.length c32], .bool true]) (by simp [results, Try.results22, go_sem, g0, g1, g2, g3, g4]) rfl ?_
  rw [hR2]
  exact (HP2.out.own (i := 2) (by omega) hk).done (fun _ => rfl)

set_option maxRecDepth 100000 in
set_option maxHeartbeats 6400000 in
theorem play6 (Z : Nat → Prop) (w0 w : World) (p : DP) (n m : Nat) (D R : DM) (a b c : Value) (kind : Int) (at_ : Int) (byte : UInt8) (cuts : List Int) (ado : Option Addr) (co : Nat) (hB : Both2 Z w0 w p n D R a b c) (hD : OkD D n m) (hRk : OkD R n m) (hm : m + 2 ≤ 100000) (hn : n ≤ 5000) (hpl : R.plan.length ≤ 100000) (hat : at_ ≤ 1048576)
    (hc : RdS w0 (.slice ado cuts.length co) cuts.length 1 (cuts.map (Value.int .i64))) (hcl : cuts.length ≤ 20) (k0 : (kind == 0) = false) (k1 : (kind == 1) = false) (k2 : (kind == 2) = false) (k3 : (kind == 3) = false) (k4 : (kind == 4) = false) (k5 : (kind == 5) = false) :
    Calls Try.prog 22 #[.pointer (some ⟨p.B, 0, none⟩), .agg (rV R a b c), .agg #[.int .i64 kind, .int .i64 at_, .int .u8 (byte.toNat : Int), .slice ado cuts.length co]] w (PNext2 Z w0 w p n (startD D) (startD R) (D = R)) := by
  obtain ⟨bl, ol, cl, ad2, ad3, c2, c3, rfl, rfl, rfl⟩ := hB.r.open_
  unfold rV
  have HB := Lib.hid hB
  have HD := Lib.hid hD
  have HRk := Lib.hid hRk
  have Hc := Lib.hid hc
  clear hB hD hRk hc
  go_enter Try.func22, Try.ntmps22
  go_wp2_with fail
  obtain ⟨W, hW⟩ : ∃ W, ((w.alloc (.cells #[.slice (some ⟨bl, ol, none⟩) n cl, .slice ad2 R.op.length c2, .bool R.down, .int .i64 R.steps, .slice ad3 R.plan.length c3] 46)).alloc (.cells #[.int .i64 kind, .int .i64 at_, .int .u8 (byte.toNat : Int), .slice ado cuts.length co] 30)).alloc (.cells #[.slice none 0 0, .slice none 0 0, .bool false, .int .i64 0, .slice none 0 0] 46) = W := ⟨_, rfl⟩
  have hb : Below w.heap.size w W := by rw [← hW]; exact ba _ (ba _ (ba _ (Below.refl _ _)))
  have HP := Lib.hid (HB.out.start hb (by rw [← hW]; simp))
  have HC1 : Hid (C5 W w.heap.size (.slice (some ⟨bl, ol, none⟩) n cl) (.slice ad2 R.op.length c2) (.bool R.down) (.int .i64 R.steps) (.slice ad3 R.plan.length c3)) := by
    unfold Hid; rw [← hW]; exact ((C5.made w _ _ _ _ _ _).below (ba _ (Below.refl _ _))).below (ba _ (Below.refl _ _))
  have HO : Hid (readAt W (w.heap.size + 1) 0 4 = some #[.int .i64 kind, .int .i64 at_, .int .u8 (byte.toNat : Int), .slice ado cuts.length co]) := by
    unfold Hid; rw [← hW, readAt_alloc_past _ _ _ _ _ (by simp)]; have h1 := readAt_alloc_at (w.alloc (.cells #[.slice (some ⟨bl, ol, none⟩) n cl, .slice ad2 R.op.length c2, .bool R.down, .int .i64 R.steps, .slice ad3 R.plan.length c3] 46)) #[.int .i64 kind, .int .i64 at_, .int .u8 (byte.toNat : Int), .slice ado cuts.length co] 30 (0, 0) (w.heap.size + 1) 0 4 (by simp) (by simp); rw [h1]; rfl
  have HC3 : Hid (C5 W (w.heap.size + 1 + 1) (.slice none 0 0) (.slice none 0 0) (.bool false) (.int .i64 0) (.slice none 0 0)) := by
    unfold Hid; rw [← hW]; have h1 := C5.made ((w.alloc (.cells #[.slice (some ⟨bl, ol, none⟩) n cl, .slice ad2 R.op.length c2, .bool R.down, .int .i64 R.steps, .slice ad3 R.plan.length c3] 46)).alloc (.cells #[.int .i64 kind, .int .i64 at_, .int .u8 (byte.toNat : Int), .slice ado cuts.length co] 30)) 46 (.slice none 0 0) (.slice none 0 0) (.bool false) (.int .i64 0) (.slice none 0 0); simpa using h1
  rw [hW]
  clear hW hb
  have hcall := start_any W HP.out.d
  refine hcall.mono ?_
  rintro _ u1 ⟨rfl, hN⟩
  obtain ⟨p1, hP1, hk1⟩ := HP.out.disk hN
  have HP1 := Lib.hid hP1
  have HC1a := Lib.hid (HC1.out.same (hk1 0 (by omega)))
  have HOa : Hid (readAt u1 (w.heap.size + 1) 0 4 = some #[.int .i64 kind, .int .i64 at_, .int .u8 (byte.toNat : Int), .slice ado cuts.length co]) := (rd_same (hk1 1 (by omega)) 0 4).trans HO.out
  have HC3a := Lib.hid (HC3.out.same (hk1 2 (by omega)))
  clear hcall hN hP1 hk1 HP HC1 HO HC3
  obtain ⟨b0, b1, b2, b3, b4⟩ := HC1a.out.cells
  have hcO := fun i v hv => readAt_cell HOa.out i v hv
  simp only [Nat.zero_add] at hcO
  have o0 : u1.cell? ⟨w.heap.size + 1, 0, none⟩ = some (.int .i64 kind) := hcO 0 _ rfl
  have o1 : u1.cell? ⟨w.heap.size + 1, 1, none⟩ = some (.int .i64 at_) := hcO 1 _ rfl
  have o2 : u1.cell? ⟨w.heap.size + 1, 2, none⟩ = some (.int .u8 (byte.toNat : Int)) := hcO 2 _ rfl
  have o3 : u1.cell? ⟨w.heap.size + 1, 3, none⟩ = some (.slice ado cuts.length co) := hcO 3 _ rfl
  clear hcO
  obtain ⟨e0, e1, e2, e3, e4⟩ := HC1a.out.free
  obtain ⟨g0, g1, g2, g3, g4⟩ := HC3a.out.cells
  obtain ⟨f0, f1, f2, f3, f4⟩ := HC3a.out.free
  go_wp2
  have hk0 : Kb (fun b => b = w.heap.size + 0) u1 (u1.setCell ⟨w.heap.size, 2, none⟩ (.bool false)) := (Kb.refl _ _).setC _ _ rfl
  have HP2 := Lib.hid (HP1.out.own (i := 0) (by omega) hk0)
  have hk := put5_kb (Z := fun b => b = w.heap.size + 2) (u1.setCell ⟨w.heap.size, 2, none⟩ (.bool false)) (w.heap.size + 1 + 1) (.slice (some ⟨bl, ol, none⟩) n cl) (.slice ad2 R.op.length c2) (.bool false) (.int .i64 R.steps) (.slice ad3 R.plan.length c3) rfl
  unfold put5 at hk
  refine bodyPost_ret (v := .tuple #[.agg #[.slice (some ⟨bl, ol, none⟩) n cl, .slice ad2 R.op.length c2, .bool false, .int .i64 R.steps, .slice ad3 R.plan.length c3], .bool true]) (by simp [results, Try.results22, go_sem, g0, g1, g2, g3, g4]) rfl ?_
  have h9 := HP2.out.own (i := 2) (by omega) hk
  exact PIn.done (D := startD D) (R := startD R) ⟨h9.base, h9.bel, h9.hB, h9.d, ⟨h9.r.st, h9.r.op, h9.r.pl⟩, h9.zl, h9.kb, h9.new, h9.old, h9.sz⟩ (fun _ => rfl)
end Go.Proofs.Ytjedlcfeobhjnaa
