/- What Plan of the reference's disk computes at n >= 1. Conditions: the numbers are small. -/
import Derived.Test.YtjedlcfeobhjnaaRPlan
set_option linter.unusedSimpArgs false
set_option linter.unusedVariables false
namespace Go.Proofs.Ytjedlcfeobhjnaa
open Go.RowKit Go.ChangeMaps

theorem view_Ev : (Try.prog.info? 99).map (fun i => (i.zero, i.size, i.bytes)) = some (some (.agg #[.int .i64 0, .bool false, .slice none 0 0]), 3, 40) := by kernel_rfl
/-- Three cells of a block, and that they may be written. -/
structure C3 (w : World) (b : Nat) (x0 x1 x2 : Value) : Prop where
  r : readAt w b 0 3 = some #[x0, x1, x2]
  k : canAt w b 0 3 = true
section
variable {w : World} {b : Nat} {x0 x1 x2 : Value}
theorem C3.cells (h : C3 w b x0 x1 x2) : w.cell? ⟨b, 0, none⟩ = some x0 ∧ w.cell? ⟨b, 1, none⟩ = some x1 ∧ w.cell? ⟨b, 2, none⟩ = some x2 := by
  have hc := fun i v hv => readAt_cell h.r i v hv
  simp only [Nat.zero_add] at hc
  exact ⟨hc 0 _ rfl, hc 1 _ rfl, hc 2 _ rfl⟩
theorem C3.free (h : C3 w b x0 x1 x2) : w.frozen? ⟨b, 0, none⟩ = false ∧ w.frozen? ⟨b, 1, none⟩ = false ∧ w.frozen? ⟨b, 2, none⟩ = false := by
  have hc := fun i => canAt_cell h.k i
  simp only [Nat.zero_add] at hc
  exact ⟨hc 0, hc 1, hc 2⟩
theorem C3.lt (h : C3 w b x0 x1 x2) : b < w.heap.size := readAt_lt h.r
theorem C3.same {w' : World} (h : C3 w b x0 x1 x2) (hs : w'.heap[b]? = w.heap[b]?) : C3 w' b x0 x1 x2 := ⟨by rw [← h.r]; simp [readAt, hs], by rw [← h.k]; simp [canAt, hs]⟩
theorem C3.below {w' : World} (h : C3 w b x0 x1 x2) (hb : Below w.heap.size w w') : C3 w' b x0 x1 x2 := h.same (hb.block b h.lt)
theorem C3.made (w : World) (t : TypeId) (x0 x1 x2 : Value) : C3 (w.alloc (.cells #[x0, x1, x2] t)) w.heap.size x0 x1 x2 :=
  ⟨by rw [readAt_alloc_at _ _ _ _ _ _ _ rfl (by simp)]; rfl, by rw [canAt_alloc_at _ _ _ _ _ _ rfl (by simp)]⟩
theorem C3.set0 (h : C3 w b x0 x1 x2) (y : Value) : C3 (w.setCell ⟨b, 0, none⟩ y) b y x1 x2 := by
  rw [setCell_setAt (canAt_sub h.k 0 1 (by omega))]
  exact ⟨by rw [readAt_setAt_over w b 0 3 _ h.r h.k 0 _ (by omega) (by simp)]; rfl, by rw [canAt_setAt _ _ _ _ _ _ _ (canAt_sub h.k 0 1 (by omega))]; exact h.k⟩
theorem C3.set1 (h : C3 w b x0 x1 x2) (y : Value) : C3 (w.setCell ⟨b, 1, none⟩ y) b x0 y x2 := by
  rw [setCell_setAt (canAt_sub h.k 1 1 (by omega))]
  exact ⟨by rw [readAt_setAt_over w b 0 3 _ h.r h.k 1 _ (by omega) (by simp)]; rfl, by rw [canAt_setAt _ _ _ _ _ _ _ (canAt_sub h.k 1 1 (by omega))]; exact h.k⟩
theorem C3.set2 (h : C3 w b x0 x1 x2) (y : Value) : C3 (w.setCell ⟨b, 2, none⟩ y) b x0 x1 y := by
  rw [setCell_setAt (canAt_sub h.k 2 1 (by omega))]
  exact ⟨by rw [readAt_setAt_over w b 0 3 _ h.r h.k 2 _ (by omega) (by simp)]; rfl, by rw [canAt_setAt _ _ _ _ _ _ _ (canAt_sub h.k 2 1 (by omega))]; exact h.k⟩
def put3 (w : World) (b : Nat) (y0 y1 y2 : Value) : World := ((w.setCell ⟨b, 0, none⟩ y0).setCell ⟨b, 1, none⟩ y1).setCell ⟨b, 2, none⟩ y2
theorem C3.put (h : C3 w b x0 x1 x2) (y0 y1 y2 : Value) : C3 (put3 w b y0 y1 y2) b y0 y1 y2 := ((h.set0 y0).set1 y1).set2 y2
theorem put3_kb {Z : Nat → Prop} (w : World) (b : Nat) (y0 y1 y2 : Value) (hz : Z b) : Kb Z w (put3 w b y0 y1 y2) :=
  (((Kb.refl Z w).setC ⟨b, 0, none⟩ y0 hz).setC ⟨b, 1, none⟩ y1 hz).setC ⟨b, 2, none⟩ y2 hz
end
theorem run_SliceEv1 (w : World) (a : Int) (b : Bool) (ad : Option Addr) (l c : Nat) : (Instr.buildSlice 44 1 #[(0, .agg #[.int .i64 a, .bool b, .slice ad l c])]).run Try.prog w = .ok (.slice (some ⟨w.heap.size, 0, none⟩) 1 1) (w.alloc (.cells #[.int .i64 a, .bool b, .slice ad l c] 99)) := by
  obtain ⟨i, hi, hz, hs, hb⟩ := info_parts view_Ev
  exact run_buildSlice_one w _ _ i _ (.agg #[.int .i64 a, .bool b, .slice ad l c]) Try.underlying44 hi hz (by simp [hs, Value.cells]) (by simp [Value.cells]) (by simp [Value.cells]) (by simp [Value.cells])
theorem flat_oneL {α : Type} (f : α → Array Value) : ∀ (L : List α), (∀ x ∈ L, ∀ v ∈ f x, v.oneCell' = true) → ∀ v ∈ flat f L, v.oneCell' = true := by
  intro L h v hv
  simp only [flat, List.mem_flatMap, Array.mem_toList_iff] at hv
  obtain ⟨x, hx1, hx⟩ := hv
  exact h x hx1 v hx
theorem ev3_one (q : Evt × Value) (h : q.2.oneCell' = true) : ∀ v ∈ ev3 q, v.oneCell' = true := by
  intro v hv
  simp only [ev3, List.mem_toArray, List.mem_cons, List.not_mem_nil, or_false] at hv
  rcases hv with rfl | rfl | rfl <;> first | rfl | exact h
set_option maxRecDepth 100000 in
set_option maxHeartbeats 6400000 in
theorem rdplan_yes (w : World) (X : Nat → Prop) (n m : Nat) (D : DM) (a b c vc : Value) (k : Int) (cr : Bool) (cuts : List Int) (hR : RAt w X n D a b c) (hX : ∀ g, X g → g < w.heap.size) (hD : OkD D n m) (hm : m ≤ 100000) (hpl : D.plan.length ≤ 100000) (hk : 1 ≤ k) (hk2 : k ≤ 1048576) (hcl : cuts.length ≤ 100000) (hc : RdS w vc cuts.length 1 (cuts.map (Value.int .i64))) :
    Calls Try.prog 40 #[.agg (rV D a b c), .int .i64 k, .bool cr, vc] w fun e w' => (∃ v, e = .returned v ∧ RNext w' X n (planD D k cr cuts) v) ∧ Below w.heap.size w w' := by
  obtain ⟨bl, ol, cl, ad2, ad3, c2, c3, rfl, rfl, rfl⟩ := hR.open_
  have HM : Hid (planD D k cr cuts = { D with plan := D.plan ++ [⟨D.steps + k, cr, cuts⟩] }) := by unfold Hid planD; rw [if_neg (by omega)]
  obtain ⟨i0, hi0, hz0, hs0, hby0⟩ := info_parts view_int
  obtain ⟨i1, hi1, hz1, hs1, hby1⟩ := info_parts view_Ev
  unfold rV
  have s0 := hD.s0
  have s1 := hD.s1
  have hwr : IntKind.i64.wrap (D.steps + k) = D.steps + k := by rw [IntKind.wrap_i64]; omega
  have HR := Lib.hid hR
  have HX := Lib.hid hX
  have HD := Lib.hid hD
  have Hpl := Lib.hid hpl
  have Hc := Lib.hid hc
  have d1 : decide (k < 1) = false := by simpa using hk
  clear hR hX hD hpl hc
  go_enter Try.func40, Try.ntmps40
  go_wp2_with fail
  obtain ⟨W, hW⟩ : ∃ W, (w.alloc (.cells #[.slice (some ⟨bl, ol, none⟩) n cl, .slice ad2 D.op.length c2, .bool D.down, .int .i64 D.steps, .slice ad3 D.plan.length c3] 46)).alloc (.cells #[.slice none 0 0, .slice none 0 0, .bool false, .int .i64 0, .slice none 0 0] 46) = W := ⟨_, rfl⟩
  have HB : Hid (Below w.heap.size w W) := by unfold Hid; rw [← hW]; exact ba _ (ba _ (Below.refl _ _))
  have HC1 : Hid (C5 W w.heap.size (.slice (some ⟨bl, ol, none⟩) n cl) (.slice ad2 D.op.length c2) (.bool D.down) (.int .i64 D.steps) (.slice ad3 D.plan.length c3)) := by
    unfold Hid; rw [← hW]; exact (C5.made w _ _ _ _ _ _).below (ba _ (Below.refl _ _))
  have HC2 : Hid (C5 W (w.heap.size + 1) (.slice none 0 0) (.slice none 0 0) (.bool false) (.int .i64 0) (.slice none 0 0)) := by
    unfold Hid; rw [← hW]; have h1 := C5.made (w.alloc (.cells #[.slice (some ⟨bl, ol, none⟩) n cl, .slice ad2 D.op.length c2, .bool D.down, .int .i64 D.steps, .slice ad3 D.plan.length c3] 46)) 46 (.slice none 0 0) (.slice none 0 0) (.bool false) (.int .i64 0) (.slice none 0 0); simpa using h1
  have HsW : Hid (W.heap.size = w.heap.size + 2) := by unfold Hid; rw [← hW]; simp
  rw [hW]
  clear hW
  obtain ⟨L, hL1, hL2, hL3⟩ := HR.out.pl
  have HL4 : Hid (D.plan.length = L.length) := by (show _ = _; rw [← hL1, List.length_map])
  have HL2 := Lib.hid hL2
  have HL3 := Lib.hid hL3
  clear hL2 hL3
  refine Code.wp_mono (Q := fun e a' w' => e = .normal ∧ ∃ (p18 : Value) (ad20 : Option Addr) (n20 c20 eb : Nat), a' = ⟨#[.agg #[.slice (some ⟨bl, ol, none⟩) n cl, .slice ad2 D.op.length c2, .bool D.down, .int .i64 D.steps, .slice ad3 D.plan.length c3], .int .i64 k, .bool cr, vc, .pointer (some ⟨w.heap.size, 0, none⟩), undef, undef, undef, .pointer (some ⟨w.heap.size + 1, 0, none⟩), .pointer (some ⟨eb, 0, none⟩), .int .i64 k, .bool false, undef, .pointer (some ⟨w.heap.size, 3, none⟩), .int .i64 D.steps, .int .i64 k, .int .i64 (D.steps + k), .bool cr, p18, vc, .slice ad20 n20 c20, .agg #[.int .i64 (D.steps + k), .bool cr, .slice ad20 n20 c20], undef, undef, undef, undef, undef, undef, undef, undef, undef], []⟩ ∧ Below W.heap.size W w' ∧ W.heap.size ≤ eb ∧ readAt w' eb 0 3 = some #[.int .i64 (D.steps + k), .bool cr, .slice ad20 n20 c20] ∧ n20 = cuts.length ∧ w'.ownsRow W.heap.size 3 1 (.slice ad20 n20 c20) cuts.length (cuts.map (Value.int .i64))) ?cont ?reg
  case reg =>
    refine wp_region_tr (.take 0 (.take 1 (.take 2 (.take 3 (.take 4 (.take 6 (.two 5 (.two 7 (.take 8 (.run 9 (.brk 10 .done))) 9 (.run 7 (.take 8 (.brk 10 .done)))) 9 (.run 5 (.run 7 (.take 8 (.brk 10 .done)))))))))))  (fun u => u.cell? ⟨w.heap.size, 3, none⟩ = some (.int .i64 D.steps)) (by kernel_rfl) (by kernel_rfl) rfl (by kernel_rfl) HC1.out.cells.2.2.2.1 ?_
    repeat (first | (refine t_off rfl rfl ?_; simp only [List.getElem_toArray, List.getElem_cons_succ, List.getElem_cons_zero, Act.put, Act.eval, List.setIfInBounds_toArray, List.set_cons_zero, List.set_cons_succ, Array.getD_eq_getD_getElem?, List.getElem?_toArray, List.getElem?_cons_succ, List.getElem?_cons_zero, Option.getD_some]) | (refine t_move rfl _ rfl rfl ?_; simp only [List.getElem_toArray, List.getElem_cons_succ, List.getElem_cons_zero, Act.put, Act.eval, List.setIfInBounds_toArray, List.set_cons_zero, List.set_cons_succ, Array.getD_eq_getD_getElem?, List.getElem?_toArray, List.getElem?_cons_succ, List.getElem?_cons_zero, Option.getD_some]) | (refine t_assign rfl _ rfl rfl ?_; simp only [List.getElem_toArray, List.getElem_cons_succ, List.getElem_cons_zero, Act.put, Act.eval, List.setIfInBounds_toArray, List.set_cons_zero, List.set_cons_succ, Array.getD_eq_getD_getElem?, List.getElem?_toArray, List.getElem?_cons_succ, List.getElem?_cons_zero, Option.getD_some]) | (refine t_val rfl rfl ?_; apply Exists.intro; refine ⟨fun w' hC' => ?_, ?_⟩; (skip; go_simp; (first | done | exact rfl)); simp only [List.getElem_toArray, List.getElem_cons_succ, List.getElem_cons_zero, Act.put, Act.eval, List.setIfInBounds_toArray, List.set_cons_zero, List.set_cons_succ, Array.getD_eq_getD_getElem?, List.getElem?_toArray, List.getElem?_cons_succ, List.getElem?_cons_zero, Option.getD_some]) | (refine p_off rfl rfl ?_; simp only [List.getElem_toArray, List.getElem_cons_succ, List.getElem_cons_zero, Act.put, Act.eval, List.setIfInBounds_toArray, List.set_cons_zero, List.set_cons_succ, Array.getD_eq_getD_getElem?, List.getElem?_toArray, List.getElem?_cons_succ, List.getElem?_cons_zero, Option.getD_some]) | (refine p_val rfl rfl ?_; apply Exists.intro; refine ⟨fun w' => ?_, ?_⟩; (go_simp; (first | done | exact rfl)); simp only [List.getElem_toArray, List.getElem_cons_succ, List.getElem_cons_zero, Act.put, Act.eval, List.setIfInBounds_toArray, List.set_cons_zero, List.set_cons_succ, Array.getD_eq_getD_getElem?, List.getElem?_toArray, List.getElem?_cons_succ, List.getElem?_cons_zero, Option.getD_some]))
    have HbU : Hid (Below W.heap.size W W.drew) := (Below.refl _ _).drew
    have Hfew : Hid (cuts.length ≤ 100000) := hcl
    have HT : Hid (∀ u, Below W.heap.size W u → u.cell? ⟨w.heap.size, 3, none⟩ = some (.int .i64 D.steps)) := fun u hu => (HC1.out.same (hu.block _ HC1.out.lt)).cells.2.2.2.1
    generalize W.drew = u0 at *
    refine t_two ?_ ?_
    · have htr := True.intro
      have hbz := run_buildSlice_zero (P := Try.prog) u0 23 3 i0 Try.underlying23 hi0
      refine r_val rfl rfl ?_; apply Exists.intro; apply Exists.intro; refine ⟨?_, ?_⟩; (go_simp; exact ⟨rfl, rfl⟩)
      clear hbz
      have hy := ba (.cells #[] 3) (Below.refl u0.heap.size u0)
      have HBu1 := Lib.hid (HbU.out.trans (hy.mono HbU.out.size))
      have HBg : Hid (W.heap.size ≤ u0.heap.size) := HbU.out.size
      have HOwn : Hid ((u0.alloc (.cells #[] 3)).ownsRow W.heap.size 3 1 (Value.slice (some ⟨u0.heap.size, 0, none⟩) 0 0) 0 []) := World.ownsRow_made (size := 1) u0 #[] 0 HBg.out (by simp [maxLen]) (by simp)
      have HNn : Hid ((Value.slice (some ⟨u0.heap.size, 0, none⟩) 0 0) ≠ .slice none 0 0) := by (intro h; cases h)
      clear hy HBg HbU
      refine ⟨_, fun _ h => h, HT.out _ HBu1.out, ?_⟩; simp only [List.getElem_toArray, List.getElem_cons_succ, List.getElem_cons_zero, Act.put, Act.eval, List.setIfInBounds_toArray, List.set_cons_zero, List.set_cons_succ, Array.getD_eq_getD_getElem?, List.getElem?_toArray, List.getElem?_cons_succ, List.getElem?_cons_zero, Option.getD_some]
      generalize u0.alloc (.cells #[] 3) = u1 at *
      refine t_two ?_ ?_
      · have htr := True.intro
        obtain ⟨v2, u2, hrun, hown, hgr, hnn, hloc⟩ := append_src (P := Try.prog) (w := u1) W.heap.size 23 23 3 i0 _ 1 8 Try.underlying23 hi0 hz0 hs0 hby0 (by simp [Value.cells]) (by decide) (Value.slice (some ⟨u0.heap.size, 0, none⟩) 0 0) (0) [] HOwn.out HNn.out vc cuts.length (cuts.map (Value.int .i64)) (Hc.out.below (HB.out.trans (HBu1.out.mono HB.out.size))) (by simp [Value.oneCell']) (by (have := Hfew.out; simp only [maxLen]; omega)) (by (have := Hfew.out; omega)) HBu1.out.size
        have HBu2 : Hid (Below W.heap.size W u2) := below_grown HBu1.out hgr HBu1.out.size (fun b hb => (HOwn.out.lt b hb).1)
        refine r_append rfl rfl (.tmp 18) (.tmp 19) 23 rfl _ _ v2 u2 rfl rfl hrun ?_
        have HOw2 := Lib.hid hown
        clear HOwn
        have HOwn := HOw2
        clear HOw2
        clear HNn
        have HNn := Lib.hid hnn
        clear hrun hown hgr hnn hloc HBu1
        refine ⟨_, fun _ h => h, HT.out _ HBu2.out, ?_⟩; simp only [List.getElem_toArray, List.getElem_cons_succ, List.getElem_cons_zero, Act.put, Act.eval, List.setIfInBounds_toArray, List.set_cons_zero, List.set_cons_succ, Array.getD_eq_getD_getElem?, List.getElem?_toArray, List.getElem?_cons_succ, List.getElem?_cons_zero, Option.getD_some]
        have hrow : u2.ownsRow W.heap.size 3 1 v2 cuts.length (cuts.map (Value.int .i64)) := by (have h1 := HOwn.out; simpa using h1)
        clear HOwn
        obtain ⟨ad9, cap9, e9, _⟩ := RdS_of_own hrow
        subst e9
        have HOwn := Lib.hid hrow
        clear hrow
        repeat (first | (refine t_off rfl rfl ?_; simp only [List.getElem_toArray, List.getElem_cons_succ, List.getElem_cons_zero, Act.put, Act.eval, List.setIfInBounds_toArray, List.set_cons_zero, List.set_cons_succ, Array.getD_eq_getD_getElem?, List.getElem?_toArray, List.getElem?_cons_succ, List.getElem?_cons_zero, Option.getD_some]) | (refine t_move rfl _ rfl rfl ?_; simp only [List.getElem_toArray, List.getElem_cons_succ, List.getElem_cons_zero, Act.put, Act.eval, List.setIfInBounds_toArray, List.set_cons_zero, List.set_cons_succ, Array.getD_eq_getD_getElem?, List.getElem?_toArray, List.getElem?_cons_succ, List.getElem?_cons_zero, Option.getD_some]) | (refine t_assign rfl _ rfl rfl ?_; simp only [List.getElem_toArray, List.getElem_cons_succ, List.getElem_cons_zero, Act.put, Act.eval, List.setIfInBounds_toArray, List.set_cons_zero, List.set_cons_succ, Array.getD_eq_getD_getElem?, List.getElem?_toArray, List.getElem?_cons_succ, List.getElem?_cons_zero, Option.getD_some]) | (refine t_val rfl rfl ?_; apply Exists.intro; refine ⟨fun w' hC' => ?_, ?_⟩; (skip; go_simp; (first | done | exact rfl)); simp only [List.getElem_toArray, List.getElem_cons_succ, List.getElem_cons_zero, Act.put, Act.eval, List.setIfInBounds_toArray, List.set_cons_zero, List.set_cons_succ, Array.getD_eq_getD_getElem?, List.getElem?_toArray, List.getElem?_cons_succ, List.getElem?_cons_zero, Option.getD_some]) | (refine p_off rfl rfl ?_; simp only [List.getElem_toArray, List.getElem_cons_succ, List.getElem_cons_zero, Act.put, Act.eval, List.setIfInBounds_toArray, List.set_cons_zero, List.set_cons_succ, Array.getD_eq_getD_getElem?, List.getElem?_toArray, List.getElem?_cons_succ, List.getElem?_cons_zero, Option.getD_some]) | (refine p_val rfl rfl ?_; apply Exists.intro; refine ⟨fun w' => ?_, ?_⟩; (go_simp; (first | done | exact rfl)); simp only [List.getElem_toArray, List.getElem_cons_succ, List.getElem_cons_zero, Act.put, Act.eval, List.setIfInBounds_toArray, List.set_cons_zero, List.set_cons_succ, Array.getD_eq_getD_getElem?, List.getElem?_toArray, List.getElem?_cons_succ, List.getElem?_cons_zero, Option.getD_some]))
        refine r_val rfl rfl ?_; apply Exists.intro; apply Exists.intro; refine ⟨?_, ?_⟩; (go_simp; exact ⟨rfl, rfl⟩)
        have hy := ba (.cells #[.int .i64 0, .bool false, .slice none 0 0] 99) (Below.refl u2.heap.size u2)
        have HBu3 := Lib.hid (HBu2.out.trans (hy.mono HBu2.out.size))
        have HBg : Hid (W.heap.size ≤ u2.heap.size) := HBu2.out.size
        have HNe : Hid (∀ g, (Value.slice ad9 cuts.length cap9).ownBlock = some g → g ≠ u2.heap.size) := fun g h1 => by (have h2 := ownsRow_lt HOwn.out g h1; omega)
        have HOw2 := Lib.hid (ownsRow_below HOwn.out hy)
        clear HOwn
        have HOwn := HOw2
        clear HOw2
        have HBx := Lib.hid (C3.made u2 99 (.int .i64 0) (.bool false) (.slice none 0 0))
        have HBb : Hid (W.heap.size ≤ u2.heap.size) := HBg.out
        have HBl : Hid (u2.heap.size < (u2.alloc (.cells #[.int .i64 0, .bool false, .slice none 0 0] 99)).heap.size) := by (show _ < _; simp)
        clear hy HBg HBu2
        refine ⟨_, fun _ h => h, HT.out _ HBu3.out, ?_⟩; simp only [List.getElem_toArray, List.getElem_cons_succ, List.getElem_cons_zero, Act.put, Act.eval, List.setIfInBounds_toArray, List.set_cons_zero, List.set_cons_succ, Array.getD_eq_getD_getElem?, List.getElem?_toArray, List.getElem?_cons_succ, List.getElem?_cons_zero, Option.getD_some]
        generalize u2.alloc (.cells #[.int .i64 0, .bool false, .slice none 0 0] 99) = u3 at *
        obtain ⟨b0, b1, b2⟩ := HBx.out.cells
        obtain ⟨f0, f1, f2⟩ := HBx.out.free
        refine b_any rfl rfl (fun K hK => ?_)
        go_simp
        refine hK _ _ (fun _ => True) trivial ?_
        clear hK K b0 b1 b2 f0 f1 f2
        try simp only [List.getElem_toArray, List.getElem_cons_succ, List.getElem_cons_zero, Act.put, Act.eval, List.setIfInBounds_toArray, List.set_cons_zero, List.set_cons_succ, Array.getD_eq_getD_getElem?, List.getElem?_toArray, List.getElem?_cons_succ, List.getElem?_cons_zero, Option.getD_some]
        refine t_done ?_
        have hk := put3_kb (Z := fun b => b = u2.heap.size) u3 u2.heap.size (.int .i64 (D.steps + k)) (.bool cr) (.slice ad9 cuts.length cap9) rfl
        have hp := (HBx.out.put (.int .i64 (D.steps + k)) (.bool cr) (.slice ad9 cuts.length cap9)).r
        have ho : (put3 u3 u2.heap.size (.int .i64 (D.steps + k)) (.bool cr) (.slice ad9 cuts.length cap9)).ownsRow W.heap.size 3 1 (.slice ad9 cuts.length cap9) cuts.length (cuts.map (Value.int .i64)) := own_same HOwn.out (fun g hg hl => hk.block g hl (HNe.out g hg))
        refine ⟨rfl, _, ad9, cuts.length, cap9, u2.heap.size, rfl, HBu3.out.trans (hk.below (fun b hb => by (subst hb; exact HBb.out)) HBu3.out.size), HBb.out, hp, rfl, ho⟩
      · have htr := True.intro
        refine r_val rfl rfl ?_; apply Exists.intro; apply Exists.intro; refine ⟨?_, ?_⟩; (go_simp; exact ⟨rfl, rfl⟩)
        have hy := ba (.cells #[.int .i64 0, .bool false, .slice none 0 0] 99) (Below.refl u1.heap.size u1)
        have HBu2 := Lib.hid (HBu1.out.trans (hy.mono HBu1.out.size))
        have HBg : Hid (W.heap.size ≤ u1.heap.size) := HBu1.out.size
        have HNe : Hid (∀ g, (Value.slice (some ⟨u0.heap.size, 0, none⟩) 0 0).ownBlock = some g → g ≠ u1.heap.size) := fun g h1 => by (have h2 := ownsRow_lt HOwn.out g h1; omega)
        have HOw2 := Lib.hid (ownsRow_below HOwn.out hy)
        clear HOwn
        have HOwn := HOw2
        clear HOw2
        have HBx := Lib.hid (C3.made u1 99 (.int .i64 0) (.bool false) (.slice none 0 0))
        have HBb : Hid (W.heap.size ≤ u1.heap.size) := HBg.out
        have HBl : Hid (u1.heap.size < (u1.alloc (.cells #[.int .i64 0, .bool false, .slice none 0 0] 99)).heap.size) := by (show _ < _; simp)
        clear hy HBg HBu1
        refine ⟨_, fun _ h => h, HT.out _ HBu2.out, ?_⟩; simp only [List.getElem_toArray, List.getElem_cons_succ, List.getElem_cons_zero, Act.put, Act.eval, List.setIfInBounds_toArray, List.set_cons_zero, List.set_cons_succ, Array.getD_eq_getD_getElem?, List.getElem?_toArray, List.getElem?_cons_succ, List.getElem?_cons_zero, Option.getD_some]
        generalize u1.alloc (.cells #[.int .i64 0, .bool false, .slice none 0 0] 99) = u2 at *
        obtain ⟨v3, u3, hrun, hown, hgr, hnn, hloc⟩ := append_src (P := Try.prog) (w := u2) W.heap.size 23 23 3 i0 _ 1 8 Try.underlying23 hi0 hz0 hs0 hby0 (by simp [Value.cells]) (by decide) (Value.slice (some ⟨u0.heap.size, 0, none⟩) 0 0) (0) [] HOwn.out HNn.out vc cuts.length (cuts.map (Value.int .i64)) (Hc.out.below (HB.out.trans (HBu2.out.mono HB.out.size))) (by simp [Value.oneCell']) (by (have := Hfew.out; simp only [maxLen]; omega)) (by (have := Hfew.out; omega)) HBu2.out.size
        have HBu3 : Hid (Below W.heap.size W u3) := below_grown HBu2.out hgr HBu2.out.size (fun b hb => (HOwn.out.lt b hb).1)
        refine r_append rfl rfl (.tmp 18) (.tmp 19) 23 rfl _ _ v3 u3 rfl rfl hrun ?_
        have HBx2 := Lib.hid (HBx.out.same (w' := u3) (hgr.block _ HBl.out (fun e => HNe.out _ e.symm rfl)))
        clear HBx
        have HBx := HBx2
        clear HBx2
        have HNe2 : Hid (∀ g, v3.ownBlock = some g → g ≠ u1.heap.size) := fun g h1 => by
          rcases hloc with h2 | h2
          · exact HNe.out g (h2 ▸ h1)
          · (rw [h2] at h1; have h3 := HBl.out; simp only [Option.some.injEq] at h1; omega)
        clear HNe
        have HNe := HNe2
        clear HNe2
        have HBl2 : Hid (u1.heap.size < u3.heap.size) := Nat.lt_of_lt_of_le HBl.out hgr.size
        clear HBl
        have HBl := HBl2
        clear HBl2
        have HOw2 := Lib.hid hown
        clear HOwn
        have HOwn := HOw2
        clear HOw2
        clear HNn
        have HNn := Lib.hid hnn
        clear hrun hown hgr hnn hloc HBu2
        refine ⟨_, fun _ h => h, HT.out _ HBu3.out, ?_⟩; simp only [List.getElem_toArray, List.getElem_cons_succ, List.getElem_cons_zero, Act.put, Act.eval, List.setIfInBounds_toArray, List.set_cons_zero, List.set_cons_succ, Array.getD_eq_getD_getElem?, List.getElem?_toArray, List.getElem?_cons_succ, List.getElem?_cons_zero, Option.getD_some]
        have hrow : u3.ownsRow W.heap.size 3 1 v3 cuts.length (cuts.map (Value.int .i64)) := by (have h1 := HOwn.out; simpa using h1)
        clear HOwn
        obtain ⟨ad9, cap9, e9, _⟩ := RdS_of_own hrow
        subst e9
        have HOwn := Lib.hid hrow
        clear hrow
        repeat (first | (refine t_off rfl rfl ?_; simp only [List.getElem_toArray, List.getElem_cons_succ, List.getElem_cons_zero, Act.put, Act.eval, List.setIfInBounds_toArray, List.set_cons_zero, List.set_cons_succ, Array.getD_eq_getD_getElem?, List.getElem?_toArray, List.getElem?_cons_succ, List.getElem?_cons_zero, Option.getD_some]) | (refine t_move rfl _ rfl rfl ?_; simp only [List.getElem_toArray, List.getElem_cons_succ, List.getElem_cons_zero, Act.put, Act.eval, List.setIfInBounds_toArray, List.set_cons_zero, List.set_cons_succ, Array.getD_eq_getD_getElem?, List.getElem?_toArray, List.getElem?_cons_succ, List.getElem?_cons_zero, Option.getD_some]) | (refine t_assign rfl _ rfl rfl ?_; simp only [List.getElem_toArray, List.getElem_cons_succ, List.getElem_cons_zero, Act.put, Act.eval, List.setIfInBounds_toArray, List.set_cons_zero, List.set_cons_succ, Array.getD_eq_getD_getElem?, List.getElem?_toArray, List.getElem?_cons_succ, List.getElem?_cons_zero, Option.getD_some]) | (refine t_val rfl rfl ?_; apply Exists.intro; refine ⟨fun w' hC' => ?_, ?_⟩; (skip; go_simp; (first | done | exact rfl)); simp only [List.getElem_toArray, List.getElem_cons_succ, List.getElem_cons_zero, Act.put, Act.eval, List.setIfInBounds_toArray, List.set_cons_zero, List.set_cons_succ, Array.getD_eq_getD_getElem?, List.getElem?_toArray, List.getElem?_cons_succ, List.getElem?_cons_zero, Option.getD_some]) | (refine p_off rfl rfl ?_; simp only [List.getElem_toArray, List.getElem_cons_succ, List.getElem_cons_zero, Act.put, Act.eval, List.setIfInBounds_toArray, List.set_cons_zero, List.set_cons_succ, Array.getD_eq_getD_getElem?, List.getElem?_toArray, List.getElem?_cons_succ, List.getElem?_cons_zero, Option.getD_some]) | (refine p_val rfl rfl ?_; apply Exists.intro; refine ⟨fun w' => ?_, ?_⟩; (go_simp; (first | done | exact rfl)); simp only [List.getElem_toArray, List.getElem_cons_succ, List.getElem_cons_zero, Act.put, Act.eval, List.setIfInBounds_toArray, List.set_cons_zero, List.set_cons_succ, Array.getD_eq_getD_getElem?, List.getElem?_toArray, List.getElem?_cons_succ, List.getElem?_cons_zero, Option.getD_some]))
        obtain ⟨b0, b1, b2⟩ := HBx.out.cells
        obtain ⟨f0, f1, f2⟩ := HBx.out.free
        refine b_any rfl rfl (fun K hK => ?_)
        go_simp
        refine hK _ _ (fun _ => True) trivial ?_
        clear hK K b0 b1 b2 f0 f1 f2
        try simp only [List.getElem_toArray, List.getElem_cons_succ, List.getElem_cons_zero, Act.put, Act.eval, List.setIfInBounds_toArray, List.set_cons_zero, List.set_cons_succ, Array.getD_eq_getD_getElem?, List.getElem?_toArray, List.getElem?_cons_succ, List.getElem?_cons_zero, Option.getD_some]
        refine t_done ?_
        have hk := put3_kb (Z := fun b => b = u1.heap.size) u3 u1.heap.size (.int .i64 (D.steps + k)) (.bool cr) (.slice ad9 cuts.length cap9) rfl
        have hp := (HBx.out.put (.int .i64 (D.steps + k)) (.bool cr) (.slice ad9 cuts.length cap9)).r
        have ho : (put3 u3 u1.heap.size (.int .i64 (D.steps + k)) (.bool cr) (.slice ad9 cuts.length cap9)).ownsRow W.heap.size 3 1 (.slice ad9 cuts.length cap9) cuts.length (cuts.map (Value.int .i64)) := own_same HOwn.out (fun g hg hl => hk.block g hl (HNe.out g hg))
        refine ⟨rfl, _, ad9, cuts.length, cap9, u1.heap.size, rfl, HBu3.out.trans (hk.below (fun b hb => by (subst hb; exact HBb.out)) HBu3.out.size), HBb.out, hp, rfl, ho⟩
    · have htr := True.intro
      refine r_val rfl rfl ?_; apply Exists.intro; apply Exists.intro; refine ⟨?_, ?_⟩; (go_simp; exact ⟨rfl, rfl⟩)
      have hy := ba (.cells #[.int .i64 0, .bool false, .slice none 0 0] 99) (Below.refl u0.heap.size u0)
      have HBu1 := Lib.hid (HbU.out.trans (hy.mono HbU.out.size))
      have HBg : Hid (W.heap.size ≤ u0.heap.size) := HbU.out.size
      have HBx := Lib.hid (C3.made u0 99 (.int .i64 0) (.bool false) (.slice none 0 0))
      have HBb : Hid (W.heap.size ≤ u0.heap.size) := HBg.out
      have HBl : Hid (u0.heap.size < (u0.alloc (.cells #[.int .i64 0, .bool false, .slice none 0 0] 99)).heap.size) := by (show _ < _; simp)
      clear hy HBg HbU
      refine ⟨_, fun _ h => h, HT.out _ HBu1.out, ?_⟩; simp only [List.getElem_toArray, List.getElem_cons_succ, List.getElem_cons_zero, Act.put, Act.eval, List.setIfInBounds_toArray, List.set_cons_zero, List.set_cons_succ, Array.getD_eq_getD_getElem?, List.getElem?_toArray, List.getElem?_cons_succ, List.getElem?_cons_zero, Option.getD_some]
      generalize u0.alloc (.cells #[.int .i64 0, .bool false, .slice none 0 0] 99) = u1 at *
      have hbz := run_buildSlice_zero (P := Try.prog) u1 23 3 i0 Try.underlying23 hi0
      refine r_val rfl rfl ?_; apply Exists.intro; apply Exists.intro; refine ⟨?_, ?_⟩; (go_simp; exact ⟨rfl, rfl⟩)
      clear hbz
      have HNe : Hid (∀ g, (Value.slice (some ⟨u1.heap.size, 0, none⟩) 0 0).ownBlock = some g → g ≠ u0.heap.size) := fun g h1 => by (simp only [Value.ownBlock, Option.some.injEq] at h1; have h2 := HBl.out; omega)
      have hy := ba (.cells #[] 3) (Below.refl u1.heap.size u1)
      have HBu2 := Lib.hid (HBu1.out.trans (hy.mono HBu1.out.size))
      have HBg : Hid (W.heap.size ≤ u1.heap.size) := HBu1.out.size
      have HBx2 := Lib.hid (HBx.out.below hy)
      clear HBx
      have HBx := HBx2
      clear HBx2
      have HBl2 : Hid (u0.heap.size < (u1.alloc (.cells #[] 3)).heap.size) := Nat.lt_of_lt_of_le HBl.out hy.size
      clear HBl
      have HBl := HBl2
      clear HBl2
      have HOwn : Hid ((u1.alloc (.cells #[] 3)).ownsRow W.heap.size 3 1 (Value.slice (some ⟨u1.heap.size, 0, none⟩) 0 0) 0 []) := World.ownsRow_made (size := 1) u1 #[] 0 HBg.out (by simp [maxLen]) (by simp)
      have HNn : Hid ((Value.slice (some ⟨u1.heap.size, 0, none⟩) 0 0) ≠ .slice none 0 0) := by (intro h; cases h)
      clear hy HBg HBu1
      refine ⟨_, fun _ h => h, HT.out _ HBu2.out, ?_⟩; simp only [List.getElem_toArray, List.getElem_cons_succ, List.getElem_cons_zero, Act.put, Act.eval, List.setIfInBounds_toArray, List.set_cons_zero, List.set_cons_succ, Array.getD_eq_getD_getElem?, List.getElem?_toArray, List.getElem?_cons_succ, List.getElem?_cons_zero, Option.getD_some]
      generalize u1.alloc (.cells #[] 3) = u2 at *
      obtain ⟨v3, u3, hrun, hown, hgr, hnn, hloc⟩ := append_src (P := Try.prog) (w := u2) W.heap.size 23 23 3 i0 _ 1 8 Try.underlying23 hi0 hz0 hs0 hby0 (by simp [Value.cells]) (by decide) (Value.slice (some ⟨u1.heap.size, 0, none⟩) 0 0) (0) [] HOwn.out HNn.out vc cuts.length (cuts.map (Value.int .i64)) (Hc.out.below (HB.out.trans (HBu2.out.mono HB.out.size))) (by simp [Value.oneCell']) (by (have := Hfew.out; simp only [maxLen]; omega)) (by (have := Hfew.out; omega)) HBu2.out.size
      have HBu3 : Hid (Below W.heap.size W u3) := below_grown HBu2.out hgr HBu2.out.size (fun b hb => (HOwn.out.lt b hb).1)
      refine r_append rfl rfl (.tmp 18) (.tmp 19) 23 rfl _ _ v3 u3 rfl rfl hrun ?_
      have HBx2 := Lib.hid (HBx.out.same (w' := u3) (hgr.block _ HBl.out (fun e => HNe.out _ e.symm rfl)))
      clear HBx
      have HBx := HBx2
      clear HBx2
      have HNe2 : Hid (∀ g, v3.ownBlock = some g → g ≠ u0.heap.size) := fun g h1 => by
        rcases hloc with h2 | h2
        · exact HNe.out g (h2 ▸ h1)
        · (rw [h2] at h1; have h3 := HBl.out; simp only [Option.some.injEq] at h1; omega)
      clear HNe
      have HNe := HNe2
      clear HNe2
      have HBl2 : Hid (u0.heap.size < u3.heap.size) := Nat.lt_of_lt_of_le HBl.out hgr.size
      clear HBl
      have HBl := HBl2
      clear HBl2
      have HOw2 := Lib.hid hown
      clear HOwn
      have HOwn := HOw2
      clear HOw2
      clear HNn
      have HNn := Lib.hid hnn
      clear hrun hown hgr hnn hloc HBu2
      refine ⟨_, fun _ h => h, HT.out _ HBu3.out, ?_⟩; simp only [List.getElem_toArray, List.getElem_cons_succ, List.getElem_cons_zero, Act.put, Act.eval, List.setIfInBounds_toArray, List.set_cons_zero, List.set_cons_succ, Array.getD_eq_getD_getElem?, List.getElem?_toArray, List.getElem?_cons_succ, List.getElem?_cons_zero, Option.getD_some]
      have hrow : u3.ownsRow W.heap.size 3 1 v3 cuts.length (cuts.map (Value.int .i64)) := by (have h1 := HOwn.out; simpa using h1)
      clear HOwn
      obtain ⟨ad9, cap9, e9, _⟩ := RdS_of_own hrow
      subst e9
      have HOwn := Lib.hid hrow
      clear hrow
      repeat (first | (refine t_off rfl rfl ?_; simp only [List.getElem_toArray, List.getElem_cons_succ, List.getElem_cons_zero, Act.put, Act.eval, List.setIfInBounds_toArray, List.set_cons_zero, List.set_cons_succ, Array.getD_eq_getD_getElem?, List.getElem?_toArray, List.getElem?_cons_succ, List.getElem?_cons_zero, Option.getD_some]) | (refine t_move rfl _ rfl rfl ?_; simp only [List.getElem_toArray, List.getElem_cons_succ, List.getElem_cons_zero, Act.put, Act.eval, List.setIfInBounds_toArray, List.set_cons_zero, List.set_cons_succ, Array.getD_eq_getD_getElem?, List.getElem?_toArray, List.getElem?_cons_succ, List.getElem?_cons_zero, Option.getD_some]) | (refine t_assign rfl _ rfl rfl ?_; simp only [List.getElem_toArray, List.getElem_cons_succ, List.getElem_cons_zero, Act.put, Act.eval, List.setIfInBounds_toArray, List.set_cons_zero, List.set_cons_succ, Array.getD_eq_getD_getElem?, List.getElem?_toArray, List.getElem?_cons_succ, List.getElem?_cons_zero, Option.getD_some]) | (refine t_val rfl rfl ?_; apply Exists.intro; refine ⟨fun w' hC' => ?_, ?_⟩; (skip; go_simp; (first | done | exact rfl)); simp only [List.getElem_toArray, List.getElem_cons_succ, List.getElem_cons_zero, Act.put, Act.eval, List.setIfInBounds_toArray, List.set_cons_zero, List.set_cons_succ, Array.getD_eq_getD_getElem?, List.getElem?_toArray, List.getElem?_cons_succ, List.getElem?_cons_zero, Option.getD_some]) | (refine p_off rfl rfl ?_; simp only [List.getElem_toArray, List.getElem_cons_succ, List.getElem_cons_zero, Act.put, Act.eval, List.setIfInBounds_toArray, List.set_cons_zero, List.set_cons_succ, Array.getD_eq_getD_getElem?, List.getElem?_toArray, List.getElem?_cons_succ, List.getElem?_cons_zero, Option.getD_some]) | (refine p_val rfl rfl ?_; apply Exists.intro; refine ⟨fun w' => ?_, ?_⟩; (go_simp; (first | done | exact rfl)); simp only [List.getElem_toArray, List.getElem_cons_succ, List.getElem_cons_zero, Act.put, Act.eval, List.setIfInBounds_toArray, List.set_cons_zero, List.set_cons_succ, Array.getD_eq_getD_getElem?, List.getElem?_toArray, List.getElem?_cons_succ, List.getElem?_cons_zero, Option.getD_some]))
      obtain ⟨b0, b1, b2⟩ := HBx.out.cells
      obtain ⟨f0, f1, f2⟩ := HBx.out.free
      refine b_any rfl rfl (fun K hK => ?_)
      go_simp
      refine hK _ _ (fun _ => True) trivial ?_
      clear hK K b0 b1 b2 f0 f1 f2
      try simp only [List.getElem_toArray, List.getElem_cons_succ, List.getElem_cons_zero, Act.put, Act.eval, List.setIfInBounds_toArray, List.set_cons_zero, List.set_cons_succ, Array.getD_eq_getD_getElem?, List.getElem?_toArray, List.getElem?_cons_succ, List.getElem?_cons_zero, Option.getD_some]
      refine t_done ?_
      have hk := put3_kb (Z := fun b => b = u0.heap.size) u3 u0.heap.size (.int .i64 (D.steps + k)) (.bool cr) (.slice ad9 cuts.length cap9) rfl
      have hp := (HBx.out.put (.int .i64 (D.steps + k)) (.bool cr) (.slice ad9 cuts.length cap9)).r
      have ho : (put3 u3 u0.heap.size (.int .i64 (D.steps + k)) (.bool cr) (.slice ad9 cuts.length cap9)).ownsRow W.heap.size 3 1 (.slice ad9 cuts.length cap9) cuts.length (cuts.map (Value.int .i64)) := own_same HOwn.out (fun g hg hl => hk.block g hl (HNe.out g hg))
      refine ⟨rfl, _, ad9, cuts.length, cap9, u0.heap.size, rfl, HBu3.out.trans (hk.below (fun b hb => by (subst hb; exact HBb.out)) HBu3.out.size), HBb.out, hp, rfl, ho⟩
  case cont =>
    rintro _ a2 w2 ⟨rfl, p18, ad20, n20, c20, eb, rfl, hb2, heb, hr2, rfl, hown⟩
    have HB2 := Lib.hid hb2
    have Hr2 := Lib.hid hr2
    have HW2 := Lib.hid hown
    have HBw : Hid (Below w.heap.size w w2) := HB.out.trans (hb2.mono HB.out.size)
    have HC1w := Lib.hid (HC1.out.same (w' := w2) (hb2.block _ HC1.out.lt))
    have HC2w := Lib.hid (HC2.out.same (w' := w2) (hb2.block _ HC2.out.lt))
    have HOneL : Hid (∀ v ∈ flat ev3 L, v.oneCell' = true) := flat_oneL ev3 L (fun q hq => ev3_one q (by
      obtain ⟨ad, c, h1, _⟩ := (HL3.out q hq).cuts.1
      rw [h1]; rfl))
    have Hfew : Hid (D.plan.length ≤ 100000) := Hpl.out
    clear hb2 hr2 hown
    go_upto_region 4 with fail
    refine Code.wp_mono (Q := fun e a' w' => e = .normal ∧ ∃ (p22 v25 v27 : Value) (ad28 : Option Addr) (c28 : Nat), a' = ⟨#[.agg #[.slice (some ⟨bl, ol, none⟩) n cl, .slice ad2 D.op.length c2, .bool D.down, .int .i64 D.steps, .slice ad3 D.plan.length c3], .int .i64 k, .bool cr, vc, .pointer (some ⟨w.heap.size, 0, none⟩), undef, undef, undef, .pointer (some ⟨w.heap.size + 1, 0, none⟩), .pointer (some ⟨eb, 0, none⟩), .int .i64 k, .bool false, undef, .pointer (some ⟨w.heap.size, 3, none⟩), .int .i64 D.steps, .int .i64 k, .int .i64 (D.steps + k), .bool cr, p18, vc, .slice ad20 cuts.length c20, .agg #[.int .i64 (D.steps + k), .bool cr, .slice ad20 cuts.length c20], p22, .pointer (some ⟨w.heap.size, 4, none⟩), .slice ad3 D.plan.length c3, v25, .agg #[.int .i64 (D.steps + k), .bool cr, .slice ad20 cuts.length c20], v27, .slice ad28 (D.plan.length + 1) c28, .pointer (some ⟨w.heap.size, 4, none⟩), undef], []⟩ ∧ ∃ u, w' = u.setCell ⟨w.heap.size, 4, none⟩ (.slice ad28 (D.plan.length + 1) c28) ∧ Below w2.heap.size w2 u ∧ u.ownsRow w2.heap.size 99 3 (.slice ad28 (D.plan.length + 1) c28) (D.plan.length + 1) (flat ev3 (L ++ [(⟨D.steps + k, cr, cuts⟩, .slice ad20 cuts.length c20)]))) ?cont ?reg
    case reg =>
      have HS : Hid (∀ u : World, u.cell? ⟨w.heap.size, 4, none⟩ = some (.slice ad3 D.plan.length c3) ∧ readAt u eb 0 3 = some #[.int .i64 (D.steps + k), .bool cr, .slice ad20 cuts.length c20] → u.cell? ⟨w.heap.size, 4, none⟩ = some (.slice ad3 D.plan.length c3) ∧ u.cell? ⟨eb, 0, none⟩ = some (.int .i64 (D.steps + k)) ∧ u.cell? ⟨eb, 1, none⟩ = some (.bool cr) ∧ u.cell? ⟨eb, 2, none⟩ = some (.slice ad20 cuts.length c20)) := fun u hu => by
        have hc := fun i v hv => readAt_cell hu.2 i v hv
        simp only [Nat.zero_add] at hc
        exact ⟨hu.1, hc 0 _ rfl, hc 1 _ rfl, hc 2 _ rfl⟩
      refine wp_region_tr (.take 1 (.take 2 (.take 4 (.two 0 (.two 3 (.run 5 (.run 6 (.take 7 (.brk 8 .done)))) 5 (.run 3 (.run 6 (.take 7 (.brk 8 .done))))) 5 (.run 0 (.run 3 (.run 6 (.take 7 (.brk 8 .done))))))))) (fun u => u.cell? ⟨w.heap.size, 4, none⟩ = some (.slice ad3 D.plan.length c3) ∧ readAt u eb 0 3 = some #[.int .i64 (D.steps + k), .bool cr, .slice ad20 cuts.length c20]) (by kernel_rfl) (by kernel_rfl) rfl (by kernel_rfl) ⟨HC1w.out.cells.2.2.2.2, Hr2.out⟩ ?_
      repeat (first | (refine t_off rfl rfl ?_; simp only [List.getElem_toArray, List.getElem_cons_succ, List.getElem_cons_zero, Act.put, Act.eval, List.setIfInBounds_toArray, List.set_cons_zero, List.set_cons_succ, Array.getD_eq_getD_getElem?, List.getElem?_toArray, List.getElem?_cons_succ, List.getElem?_cons_zero, Option.getD_some]) | (refine t_move rfl _ rfl rfl ?_; simp only [List.getElem_toArray, List.getElem_cons_succ, List.getElem_cons_zero, Act.put, Act.eval, List.setIfInBounds_toArray, List.set_cons_zero, List.set_cons_succ, Array.getD_eq_getD_getElem?, List.getElem?_toArray, List.getElem?_cons_succ, List.getElem?_cons_zero, Option.getD_some]) | (refine t_assign rfl _ rfl rfl ?_; simp only [List.getElem_toArray, List.getElem_cons_succ, List.getElem_cons_zero, Act.put, Act.eval, List.setIfInBounds_toArray, List.set_cons_zero, List.set_cons_succ, Array.getD_eq_getD_getElem?, List.getElem?_toArray, List.getElem?_cons_succ, List.getElem?_cons_zero, Option.getD_some]) | (refine t_val rfl rfl ?_; apply Exists.intro; refine ⟨fun w' hC' => ?_, ?_⟩; (obtain ⟨b4, e0, e1, e2⟩ := HS.out w' hC'; go_simp; (first | done | exact rfl)); simp only [List.getElem_toArray, List.getElem_cons_succ, List.getElem_cons_zero, Act.put, Act.eval, List.setIfInBounds_toArray, List.set_cons_zero, List.set_cons_succ, Array.getD_eq_getD_getElem?, List.getElem?_toArray, List.getElem?_cons_succ, List.getElem?_cons_zero, Option.getD_some]) | (refine p_off rfl rfl ?_; simp only [List.getElem_toArray, List.getElem_cons_succ, List.getElem_cons_zero, Act.put, Act.eval, List.setIfInBounds_toArray, List.set_cons_zero, List.set_cons_succ, Array.getD_eq_getD_getElem?, List.getElem?_toArray, List.getElem?_cons_succ, List.getElem?_cons_zero, Option.getD_some]) | (refine p_val rfl rfl ?_; apply Exists.intro; refine ⟨fun w' => ?_, ?_⟩; (go_simp; (first | done | exact rfl)); simp only [List.getElem_toArray, List.getElem_cons_succ, List.getElem_cons_zero, Act.put, Act.eval, List.setIfInBounds_toArray, List.set_cons_zero, List.set_cons_succ, Array.getD_eq_getD_getElem?, List.getElem?_toArray, List.getElem?_cons_succ, List.getElem?_cons_zero, Option.getD_some]))
      have HbU : Hid (Below w2.heap.size w2 w2.drew) := (Below.refl _ _).drew
      have HT : Hid (∀ u, Below w2.heap.size w2 u → u.cell? ⟨w.heap.size, 4, none⟩ = some (.slice ad3 D.plan.length c3) ∧ readAt u eb 0 3 = some #[.int .i64 (D.steps + k), .bool cr, .slice ad20 cuts.length c20]) := fun u hu => ⟨(HC1w.out.same (hu.block _ HC1w.out.lt)).cells.2.2.2.2, (readAt_below hu (readAt_lt Hr2.out) 0 3).trans Hr2.out⟩
      generalize w2.drew = u0 at *
      refine t_two ?_ ?_
      · have htr := True.intro
        have hbz := run_buildSlice_zero (P := Try.prog) u0 44 99 i1 Try.underlying44 hi1
        refine r_val rfl rfl ?_; apply Exists.intro; apply Exists.intro; refine ⟨?_, ?_⟩; (go_simp; exact ⟨rfl, rfl⟩)
        clear hbz
        have hy := ba (.cells #[] 99) (Below.refl u0.heap.size u0)
        have HBu1 := Lib.hid (HbU.out.trans (hy.mono HbU.out.size))
        have HBg : Hid (w2.heap.size ≤ u0.heap.size) := HbU.out.size
        have HOwn : Hid ((u0.alloc (.cells #[] 99)).ownsRow w2.heap.size 99 3 (Value.slice (some ⟨u0.heap.size, 0, none⟩) 0 0) 0 []) := World.ownsRow_made (size := 3) u0 #[] 0 HBg.out (by simp [maxLen]) (by simp)
        have HNn : Hid ((Value.slice (some ⟨u0.heap.size, 0, none⟩) 0 0) ≠ .slice none 0 0) := by (intro h; cases h)
        clear hy HBg HbU
        refine ⟨_, fun _ h => h, HT.out _ HBu1.out, ?_⟩; simp only [List.getElem_toArray, List.getElem_cons_succ, List.getElem_cons_zero, Act.put, Act.eval, List.setIfInBounds_toArray, List.set_cons_zero, List.set_cons_succ, Array.getD_eq_getD_getElem?, List.getElem?_toArray, List.getElem?_cons_succ, List.getElem?_cons_zero, Option.getD_some]
        generalize u0.alloc (.cells #[] 99) = u1 at *
        refine t_two ?_ ?_
        · have htr := True.intro
          obtain ⟨v2, u2, hrun, hown, hgr, hnn, hloc⟩ := append_src (P := Try.prog) (w := u1) w2.heap.size 44 44 99 i1 _ 3 40 Try.underlying44 hi1 hz1 hs1 hby1 (by simp [Value.cells]) (by decide) (Value.slice (some ⟨u0.heap.size, 0, none⟩) 0 0) (0) [] HOwn.out HNn.out (.slice ad3 D.plan.length c3) D.plan.length (flat ev3 L) ((HL2.out.below (HBw.out.trans (HBu1.out.mono HBw.out.size))).1) HOneL.out (by (have := Hfew.out; simp only [maxLen]; omega)) (by (have := Hfew.out; omega)) HBu1.out.size
          have HBu2 : Hid (Below w2.heap.size w2 u2) := below_grown HBu1.out hgr HBu1.out.size (fun b hb => (HOwn.out.lt b hb).1)
          refine r_append rfl rfl (.tmp 22) (.tmp 24) 44 rfl _ _ v2 u2 rfl rfl hrun ?_
          have HOw2 := Lib.hid hown
          clear HOwn
          have HOwn := HOw2
          clear HOw2
          clear HNn
          have HNn := Lib.hid hnn
          clear hrun hown hgr hnn hloc HBu1
          refine ⟨_, fun _ h => h, HT.out _ HBu2.out, ?_⟩; simp only [List.getElem_toArray, List.getElem_cons_succ, List.getElem_cons_zero, Act.put, Act.eval, List.setIfInBounds_toArray, List.set_cons_zero, List.set_cons_succ, Array.getD_eq_getD_getElem?, List.getElem?_toArray, List.getElem?_cons_succ, List.getElem?_cons_zero, Option.getD_some]
          have hbo := run_SliceEv1 u2 (D.steps + k) cr ad20 cuts.length c20
          refine r_val rfl rfl ?_; apply Exists.intro; apply Exists.intro; refine ⟨?_, ?_⟩; (go_simp; exact ⟨rfl, rfl⟩)
          clear hbo
          have hy := ba (.cells #[.int .i64 (D.steps + k), .bool cr, .slice ad20 cuts.length c20] 99) (Below.refl u2.heap.size u2)
          have HBu3 := Lib.hid (HBu2.out.trans (hy.mono HBu2.out.size))
          have HBg : Hid (w2.heap.size ≤ u2.heap.size) := HBu2.out.size
          have HNo : Hid (∀ g, v2.ownBlock = some g → g ≠ u2.heap.size) := fun g h1 => by (have h2 := ownsRow_lt HOwn.out g h1; omega)
          have HOw2 := Lib.hid (ownsRow_below HOwn.out hy)
          clear HOwn
          have HOwn := HOw2
          clear HOw2
          have HOne : Hid (RdS (u2.alloc (.cells #[.int .i64 (D.steps + k), .bool cr, .slice ad20 cuts.length c20] 99)) (.slice (some ⟨u2.heap.size, 0, none⟩) 1 1) 1 3 [.int .i64 (D.steps + k), .bool cr, .slice ad20 cuts.length c20]) := ⟨_, 1, rfl, Nat.le_refl _, by simp [maxLen], by simp, fun h => (by cases h), fun _ => ⟨u2.heap.size, 0, rfl, by simp [go_sem]⟩⟩
          have HOl : Hid (u2.heap.size < (u2.alloc (.cells #[.int .i64 (D.steps + k), .bool cr, .slice ad20 cuts.length c20] 99)).heap.size) := by (show _ < _; simp)
          clear hy HBg HBu2
          refine ⟨_, fun _ h => h, HT.out _ HBu3.out, ?_⟩; simp only [List.getElem_toArray, List.getElem_cons_succ, List.getElem_cons_zero, Act.put, Act.eval, List.setIfInBounds_toArray, List.set_cons_zero, List.set_cons_succ, Array.getD_eq_getD_getElem?, List.getElem?_toArray, List.getElem?_cons_succ, List.getElem?_cons_zero, Option.getD_some]
          generalize u2.alloc (.cells #[.int .i64 (D.steps + k), .bool cr, .slice ad20 cuts.length c20] 99) = u3 at *
          obtain ⟨v4, u4, hrun, hown, hgr, hnn, hloc⟩ := append_src (P := Try.prog) (w := u3) w2.heap.size 44 44 99 i1 _ 3 40 Try.underlying44 hi1 hz1 hs1 hby1 (by simp [Value.cells]) (by decide) v2 (0 + D.plan.length) ([] ++ (flat ev3 L)) HOwn.out HNn.out (.slice (some ⟨u2.heap.size, 0, none⟩) 1 1) 1 [.int .i64 (D.steps + k), .bool cr, .slice ad20 cuts.length c20] HOne.out (by simp [Value.oneCell']) (by (have := Hfew.out; simp only [maxLen]; omega)) (by (have := Hfew.out; omega)) HBu3.out.size
          have HBu4 : Hid (Below w2.heap.size w2 u4) := below_grown HBu3.out hgr HBu3.out.size (fun b hb => (HOwn.out.lt b hb).1)
          refine r_append rfl rfl (.tmp 25) (.tmp 27) 44 rfl _ _ v4 u4 rfl rfl hrun ?_
          have HOw2 := Lib.hid hown
          clear HOwn
          have HOwn := HOw2
          clear HOw2
          clear HNn
          have HNn := Lib.hid hnn
          clear hrun hown hgr hnn hloc HBu3
          refine ⟨_, fun _ h => h, HT.out _ HBu4.out, ?_⟩; simp only [List.getElem_toArray, List.getElem_cons_succ, List.getElem_cons_zero, Act.put, Act.eval, List.setIfInBounds_toArray, List.set_cons_zero, List.set_cons_succ, Array.getD_eq_getD_getElem?, List.getElem?_toArray, List.getElem?_cons_succ, List.getElem?_cons_zero, Option.getD_some]
          have hrow : u4.ownsRow w2.heap.size 99 3 v4 (D.plan.length + 1) (flat ev3 (L ++ [(⟨D.steps + k, cr, cuts⟩, .slice ad20 cuts.length c20)])) := by (have h1 := HOwn.out; rw [flat_snoc]; simpa [ev3] using h1)
          clear HOwn
          obtain ⟨ad9, cap9, e9, _⟩ := RdS_of_own hrow
          subst e9
          have HOwn := Lib.hid hrow
          clear hrow
          have HC9 := Lib.hid (HC1w.out.same (w' := u4) (HBu4.out.block _ HC1w.out.lt))
          repeat (first | (refine t_off rfl rfl ?_; simp only [List.getElem_toArray, List.getElem_cons_succ, List.getElem_cons_zero, Act.put, Act.eval, List.setIfInBounds_toArray, List.set_cons_zero, List.set_cons_succ, Array.getD_eq_getD_getElem?, List.getElem?_toArray, List.getElem?_cons_succ, List.getElem?_cons_zero, Option.getD_some]) | (refine t_move rfl _ rfl rfl ?_; simp only [List.getElem_toArray, List.getElem_cons_succ, List.getElem_cons_zero, Act.put, Act.eval, List.setIfInBounds_toArray, List.set_cons_zero, List.set_cons_succ, Array.getD_eq_getD_getElem?, List.getElem?_toArray, List.getElem?_cons_succ, List.getElem?_cons_zero, Option.getD_some]) | (refine t_assign rfl _ rfl rfl ?_; simp only [List.getElem_toArray, List.getElem_cons_succ, List.getElem_cons_zero, Act.put, Act.eval, List.setIfInBounds_toArray, List.set_cons_zero, List.set_cons_succ, Array.getD_eq_getD_getElem?, List.getElem?_toArray, List.getElem?_cons_succ, List.getElem?_cons_zero, Option.getD_some]) | (refine t_val rfl rfl ?_; apply Exists.intro; refine ⟨fun w' hC' => ?_, ?_⟩; (skip; go_simp; (first | done | exact rfl)); simp only [List.getElem_toArray, List.getElem_cons_succ, List.getElem_cons_zero, Act.put, Act.eval, List.setIfInBounds_toArray, List.set_cons_zero, List.set_cons_succ, Array.getD_eq_getD_getElem?, List.getElem?_toArray, List.getElem?_cons_succ, List.getElem?_cons_zero, Option.getD_some]) | (refine p_off rfl rfl ?_; simp only [List.getElem_toArray, List.getElem_cons_succ, List.getElem_cons_zero, Act.put, Act.eval, List.setIfInBounds_toArray, List.set_cons_zero, List.set_cons_succ, Array.getD_eq_getD_getElem?, List.getElem?_toArray, List.getElem?_cons_succ, List.getElem?_cons_zero, Option.getD_some]) | (refine p_val rfl rfl ?_; apply Exists.intro; refine ⟨fun w' => ?_, ?_⟩; (go_simp; (first | done | exact rfl)); simp only [List.getElem_toArray, List.getElem_cons_succ, List.getElem_cons_zero, Act.put, Act.eval, List.setIfInBounds_toArray, List.set_cons_zero, List.set_cons_succ, Array.getD_eq_getD_getElem?, List.getElem?_toArray, List.getElem?_cons_succ, List.getElem?_cons_zero, Option.getD_some]))
          obtain ⟨-, -, -, -, c4⟩ := HC9.out.cells
          obtain ⟨-, -, -, -, f4⟩ := HC9.out.free
          refine b_any rfl rfl (fun K hK => ?_)
          go_simp
          refine hK _ _ (fun _ => True) trivial ?_
          clear hK K c4 f4
          try simp only [List.getElem_toArray, List.getElem_cons_succ, List.getElem_cons_zero, Act.put, Act.eval, List.setIfInBounds_toArray, List.set_cons_zero, List.set_cons_succ, Array.getD_eq_getD_getElem?, List.getElem?_toArray, List.getElem?_cons_succ, List.getElem?_cons_zero, Option.getD_some]
          refine t_done ?_
          exact ⟨rfl, _, _, _, ad9, cap9, rfl, u4, rfl, HBu4.out, HOwn.out⟩
        · have htr := True.intro
          have hbo := run_SliceEv1 u1 (D.steps + k) cr ad20 cuts.length c20
          refine r_val rfl rfl ?_; apply Exists.intro; apply Exists.intro; refine ⟨?_, ?_⟩; (go_simp; exact ⟨rfl, rfl⟩)
          clear hbo
          have hy := ba (.cells #[.int .i64 (D.steps + k), .bool cr, .slice ad20 cuts.length c20] 99) (Below.refl u1.heap.size u1)
          have HBu2 := Lib.hid (HBu1.out.trans (hy.mono HBu1.out.size))
          have HBg : Hid (w2.heap.size ≤ u1.heap.size) := HBu1.out.size
          have HNo : Hid (∀ g, (Value.slice (some ⟨u0.heap.size, 0, none⟩) 0 0).ownBlock = some g → g ≠ u1.heap.size) := fun g h1 => by (have h2 := ownsRow_lt HOwn.out g h1; omega)
          have HOw2 := Lib.hid (ownsRow_below HOwn.out hy)
          clear HOwn
          have HOwn := HOw2
          clear HOw2
          have HOne : Hid (RdS (u1.alloc (.cells #[.int .i64 (D.steps + k), .bool cr, .slice ad20 cuts.length c20] 99)) (.slice (some ⟨u1.heap.size, 0, none⟩) 1 1) 1 3 [.int .i64 (D.steps + k), .bool cr, .slice ad20 cuts.length c20]) := ⟨_, 1, rfl, Nat.le_refl _, by simp [maxLen], by simp, fun h => (by cases h), fun _ => ⟨u1.heap.size, 0, rfl, by simp [go_sem]⟩⟩
          have HOl : Hid (u1.heap.size < (u1.alloc (.cells #[.int .i64 (D.steps + k), .bool cr, .slice ad20 cuts.length c20] 99)).heap.size) := by (show _ < _; simp)
          clear hy HBg HBu1
          refine ⟨_, fun _ h => h, HT.out _ HBu2.out, ?_⟩; simp only [List.getElem_toArray, List.getElem_cons_succ, List.getElem_cons_zero, Act.put, Act.eval, List.setIfInBounds_toArray, List.set_cons_zero, List.set_cons_succ, Array.getD_eq_getD_getElem?, List.getElem?_toArray, List.getElem?_cons_succ, List.getElem?_cons_zero, Option.getD_some]
          generalize u1.alloc (.cells #[.int .i64 (D.steps + k), .bool cr, .slice ad20 cuts.length c20] 99) = u2 at *
          obtain ⟨v3, u3, hrun, hown, hgr, hnn, hloc⟩ := append_src (P := Try.prog) (w := u2) w2.heap.size 44 44 99 i1 _ 3 40 Try.underlying44 hi1 hz1 hs1 hby1 (by simp [Value.cells]) (by decide) (Value.slice (some ⟨u0.heap.size, 0, none⟩) 0 0) (0) [] HOwn.out HNn.out (.slice ad3 D.plan.length c3) D.plan.length (flat ev3 L) ((HL2.out.below (HBw.out.trans (HBu2.out.mono HBw.out.size))).1) HOneL.out (by (have := Hfew.out; simp only [maxLen]; omega)) (by (have := Hfew.out; omega)) HBu2.out.size
          have HBu3 : Hid (Below w2.heap.size w2 u3) := below_grown HBu2.out hgr HBu2.out.size (fun b hb => (HOwn.out.lt b hb).1)
          refine r_append rfl rfl (.tmp 22) (.tmp 24) 44 rfl _ _ v3 u3 rfl rfl hrun ?_
          have HOn2 := Lib.hid (HOne.out.same (w' := u3) (fun g hg hl => hgr.block g hl (fun e => HNo.out g e.symm (by simpa [Value.ownBlock] using hg.symm))))
          clear HOne
          have HOne := HOn2
          clear HOn2
          have HOw2 := Lib.hid hown
          clear HOwn
          have HOwn := HOw2
          clear HOw2
          clear HNn
          have HNn := Lib.hid hnn
          clear hrun hown hgr hnn hloc HBu2
          refine ⟨_, fun _ h => h, HT.out _ HBu3.out, ?_⟩; simp only [List.getElem_toArray, List.getElem_cons_succ, List.getElem_cons_zero, Act.put, Act.eval, List.setIfInBounds_toArray, List.set_cons_zero, List.set_cons_succ, Array.getD_eq_getD_getElem?, List.getElem?_toArray, List.getElem?_cons_succ, List.getElem?_cons_zero, Option.getD_some]
          obtain ⟨v4, u4, hrun, hown, hgr, hnn, hloc⟩ := append_src (P := Try.prog) (w := u3) w2.heap.size 44 44 99 i1 _ 3 40 Try.underlying44 hi1 hz1 hs1 hby1 (by simp [Value.cells]) (by decide) v3 (0 + D.plan.length) ([] ++ (flat ev3 L)) HOwn.out HNn.out (.slice (some ⟨u1.heap.size, 0, none⟩) 1 1) 1 [.int .i64 (D.steps + k), .bool cr, .slice ad20 cuts.length c20] HOne.out (by simp [Value.oneCell']) (by (have := Hfew.out; simp only [maxLen]; omega)) (by (have := Hfew.out; omega)) HBu3.out.size
          have HBu4 : Hid (Below w2.heap.size w2 u4) := below_grown HBu3.out hgr HBu3.out.size (fun b hb => (HOwn.out.lt b hb).1)
          refine r_append rfl rfl (.tmp 25) (.tmp 27) 44 rfl _ _ v4 u4 rfl rfl hrun ?_
          have HOw2 := Lib.hid hown
          clear HOwn
          have HOwn := HOw2
          clear HOw2
          clear HNn
          have HNn := Lib.hid hnn
          clear hrun hown hgr hnn hloc HBu3
          refine ⟨_, fun _ h => h, HT.out _ HBu4.out, ?_⟩; simp only [List.getElem_toArray, List.getElem_cons_succ, List.getElem_cons_zero, Act.put, Act.eval, List.setIfInBounds_toArray, List.set_cons_zero, List.set_cons_succ, Array.getD_eq_getD_getElem?, List.getElem?_toArray, List.getElem?_cons_succ, List.getElem?_cons_zero, Option.getD_some]
          have hrow : u4.ownsRow w2.heap.size 99 3 v4 (D.plan.length + 1) (flat ev3 (L ++ [(⟨D.steps + k, cr, cuts⟩, .slice ad20 cuts.length c20)])) := by (have h1 := HOwn.out; rw [flat_snoc]; simpa [ev3] using h1)
          clear HOwn
          obtain ⟨ad9, cap9, e9, _⟩ := RdS_of_own hrow
          subst e9
          have HOwn := Lib.hid hrow
          clear hrow
          have HC9 := Lib.hid (HC1w.out.same (w' := u4) (HBu4.out.block _ HC1w.out.lt))
          repeat (first | (refine t_off rfl rfl ?_; simp only [List.getElem_toArray, List.getElem_cons_succ, List.getElem_cons_zero, Act.put, Act.eval, List.setIfInBounds_toArray, List.set_cons_zero, List.set_cons_succ, Array.getD_eq_getD_getElem?, List.getElem?_toArray, List.getElem?_cons_succ, List.getElem?_cons_zero, Option.getD_some]) | (refine t_move rfl _ rfl rfl ?_; simp only [List.getElem_toArray, List.getElem_cons_succ, List.getElem_cons_zero, Act.put, Act.eval, List.setIfInBounds_toArray, List.set_cons_zero, List.set_cons_succ, Array.getD_eq_getD_getElem?, List.getElem?_toArray, List.getElem?_cons_succ, List.getElem?_cons_zero, Option.getD_some]) | (refine t_assign rfl _ rfl rfl ?_; simp only [List.getElem_toArray, List.getElem_cons_succ, List.getElem_cons_zero, Act.put, Act.eval, List.setIfInBounds_toArray, List.set_cons_zero, List.set_cons_succ, Array.getD_eq_getD_getElem?, List.getElem?_toArray, List.getElem?_cons_succ, List.getElem?_cons_zero, Option.getD_some]) | (refine t_val rfl rfl ?_; apply Exists.intro; refine ⟨fun w' hC' => ?_, ?_⟩; (skip; go_simp; (first | done | exact rfl)); simp only [List.getElem_toArray, List.getElem_cons_succ, List.getElem_cons_zero, Act.put, Act.eval, List.setIfInBounds_toArray, List.set_cons_zero, List.set_cons_succ, Array.getD_eq_getD_getElem?, List.getElem?_toArray, List.getElem?_cons_succ, List.getElem?_cons_zero, Option.getD_some]) | (refine p_off rfl rfl ?_; simp only [List.getElem_toArray, List.getElem_cons_succ, List.getElem_cons_zero, Act.put, Act.eval, List.setIfInBounds_toArray, List.set_cons_zero, List.set_cons_succ, Array.getD_eq_getD_getElem?, List.getElem?_toArray, List.getElem?_cons_succ, List.getElem?_cons_zero, Option.getD_some]) | (refine p_val rfl rfl ?_; apply Exists.intro; refine ⟨fun w' => ?_, ?_⟩; (go_simp; (first | done | exact rfl)); simp only [List.getElem_toArray, List.getElem_cons_succ, List.getElem_cons_zero, Act.put, Act.eval, List.setIfInBounds_toArray, List.set_cons_zero, List.set_cons_succ, Array.getD_eq_getD_getElem?, List.getElem?_toArray, List.getElem?_cons_succ, List.getElem?_cons_zero, Option.getD_some]))
          obtain ⟨-, -, -, -, c4⟩ := HC9.out.cells
          obtain ⟨-, -, -, -, f4⟩ := HC9.out.free
          refine b_any rfl rfl (fun K hK => ?_)
          go_simp
          refine hK _ _ (fun _ => True) trivial ?_
          clear hK K c4 f4
          try simp only [List.getElem_toArray, List.getElem_cons_succ, List.getElem_cons_zero, Act.put, Act.eval, List.setIfInBounds_toArray, List.set_cons_zero, List.set_cons_succ, Array.getD_eq_getD_getElem?, List.getElem?_toArray, List.getElem?_cons_succ, List.getElem?_cons_zero, Option.getD_some]
          refine t_done ?_
          exact ⟨rfl, _, _, _, ad9, cap9, rfl, u4, rfl, HBu4.out, HOwn.out⟩
      · have htr := True.intro
        have hbo := run_SliceEv1 u0 (D.steps + k) cr ad20 cuts.length c20
        refine r_val rfl rfl ?_; apply Exists.intro; apply Exists.intro; refine ⟨?_, ?_⟩; (go_simp; exact ⟨rfl, rfl⟩)
        clear hbo
        have hy := ba (.cells #[.int .i64 (D.steps + k), .bool cr, .slice ad20 cuts.length c20] 99) (Below.refl u0.heap.size u0)
        have HBu1 := Lib.hid (HbU.out.trans (hy.mono HbU.out.size))
        have HBg : Hid (w2.heap.size ≤ u0.heap.size) := HbU.out.size
        have HOne : Hid (RdS (u0.alloc (.cells #[.int .i64 (D.steps + k), .bool cr, .slice ad20 cuts.length c20] 99)) (.slice (some ⟨u0.heap.size, 0, none⟩) 1 1) 1 3 [.int .i64 (D.steps + k), .bool cr, .slice ad20 cuts.length c20]) := ⟨_, 1, rfl, Nat.le_refl _, by simp [maxLen], by simp, fun h => (by cases h), fun _ => ⟨u0.heap.size, 0, rfl, by simp [go_sem]⟩⟩
        have HOl : Hid (u0.heap.size < (u0.alloc (.cells #[.int .i64 (D.steps + k), .bool cr, .slice ad20 cuts.length c20] 99)).heap.size) := by (show _ < _; simp)
        clear hy HBg HbU
        refine ⟨_, fun _ h => h, HT.out _ HBu1.out, ?_⟩; simp only [List.getElem_toArray, List.getElem_cons_succ, List.getElem_cons_zero, Act.put, Act.eval, List.setIfInBounds_toArray, List.set_cons_zero, List.set_cons_succ, Array.getD_eq_getD_getElem?, List.getElem?_toArray, List.getElem?_cons_succ, List.getElem?_cons_zero, Option.getD_some]
        generalize u0.alloc (.cells #[.int .i64 (D.steps + k), .bool cr, .slice ad20 cuts.length c20] 99) = u1 at *
        have hbz := run_buildSlice_zero (P := Try.prog) u1 44 99 i1 Try.underlying44 hi1
        refine r_val rfl rfl ?_; apply Exists.intro; apply Exists.intro; refine ⟨?_, ?_⟩; (go_simp; exact ⟨rfl, rfl⟩)
        clear hbz
        have HNo : Hid (∀ g, (Value.slice (some ⟨u1.heap.size, 0, none⟩) 0 0).ownBlock = some g → g ≠ u0.heap.size) := fun g h1 => by (simp only [Value.ownBlock, Option.some.injEq] at h1; have h2 := HOl.out; omega)
        have hy := ba (.cells #[] 99) (Below.refl u1.heap.size u1)
        have HBu2 := Lib.hid (HBu1.out.trans (hy.mono HBu1.out.size))
        have HBg : Hid (w2.heap.size ≤ u1.heap.size) := HBu1.out.size
        have HOn2 := Lib.hid (HOne.out.below hy)
        clear HOne
        have HOne := HOn2
        clear HOn2
        have HOl2 : Hid (u0.heap.size < (u1.alloc (.cells #[] 99)).heap.size) := Nat.lt_of_lt_of_le HOl.out hy.size
        clear HOl
        have HOl := HOl2
        clear HOl2
        have HOwn : Hid ((u1.alloc (.cells #[] 99)).ownsRow w2.heap.size 99 3 (Value.slice (some ⟨u1.heap.size, 0, none⟩) 0 0) 0 []) := World.ownsRow_made (size := 3) u1 #[] 0 HBg.out (by simp [maxLen]) (by simp)
        have HNn : Hid ((Value.slice (some ⟨u1.heap.size, 0, none⟩) 0 0) ≠ .slice none 0 0) := by (intro h; cases h)
        clear hy HBg HBu1
        refine ⟨_, fun _ h => h, HT.out _ HBu2.out, ?_⟩; simp only [List.getElem_toArray, List.getElem_cons_succ, List.getElem_cons_zero, Act.put, Act.eval, List.setIfInBounds_toArray, List.set_cons_zero, List.set_cons_succ, Array.getD_eq_getD_getElem?, List.getElem?_toArray, List.getElem?_cons_succ, List.getElem?_cons_zero, Option.getD_some]
        generalize u1.alloc (.cells #[] 99) = u2 at *
        obtain ⟨v3, u3, hrun, hown, hgr, hnn, hloc⟩ := append_src (P := Try.prog) (w := u2) w2.heap.size 44 44 99 i1 _ 3 40 Try.underlying44 hi1 hz1 hs1 hby1 (by simp [Value.cells]) (by decide) (Value.slice (some ⟨u1.heap.size, 0, none⟩) 0 0) (0) [] HOwn.out HNn.out (.slice ad3 D.plan.length c3) D.plan.length (flat ev3 L) ((HL2.out.below (HBw.out.trans (HBu2.out.mono HBw.out.size))).1) HOneL.out (by (have := Hfew.out; simp only [maxLen]; omega)) (by (have := Hfew.out; omega)) HBu2.out.size
        have HBu3 : Hid (Below w2.heap.size w2 u3) := below_grown HBu2.out hgr HBu2.out.size (fun b hb => (HOwn.out.lt b hb).1)
        refine r_append rfl rfl (.tmp 22) (.tmp 24) 44 rfl _ _ v3 u3 rfl rfl hrun ?_
        have HOn2 := Lib.hid (HOne.out.same (w' := u3) (fun g hg hl => hgr.block g hl (fun e => HNo.out g e.symm (by simpa [Value.ownBlock] using hg.symm))))
        clear HOne
        have HOne := HOn2
        clear HOn2
        have HOw2 := Lib.hid hown
        clear HOwn
        have HOwn := HOw2
        clear HOw2
        clear HNn
        have HNn := Lib.hid hnn
        clear hrun hown hgr hnn hloc HBu2
        refine ⟨_, fun _ h => h, HT.out _ HBu3.out, ?_⟩; simp only [List.getElem_toArray, List.getElem_cons_succ, List.getElem_cons_zero, Act.put, Act.eval, List.setIfInBounds_toArray, List.set_cons_zero, List.set_cons_succ, Array.getD_eq_getD_getElem?, List.getElem?_toArray, List.getElem?_cons_succ, List.getElem?_cons_zero, Option.getD_some]
        obtain ⟨v4, u4, hrun, hown, hgr, hnn, hloc⟩ := append_src (P := Try.prog) (w := u3) w2.heap.size 44 44 99 i1 _ 3 40 Try.underlying44 hi1 hz1 hs1 hby1 (by simp [Value.cells]) (by decide) v3 (0 + D.plan.length) ([] ++ (flat ev3 L)) HOwn.out HNn.out (.slice (some ⟨u0.heap.size, 0, none⟩) 1 1) 1 [.int .i64 (D.steps + k), .bool cr, .slice ad20 cuts.length c20] HOne.out (by simp [Value.oneCell']) (by (have := Hfew.out; simp only [maxLen]; omega)) (by (have := Hfew.out; omega)) HBu3.out.size
        have HBu4 : Hid (Below w2.heap.size w2 u4) := below_grown HBu3.out hgr HBu3.out.size (fun b hb => (HOwn.out.lt b hb).1)
        refine r_append rfl rfl (.tmp 25) (.tmp 27) 44 rfl _ _ v4 u4 rfl rfl hrun ?_
        have HOw2 := Lib.hid hown
        clear HOwn
        have HOwn := HOw2
        clear HOw2
        clear HNn
        have HNn := Lib.hid hnn
        clear hrun hown hgr hnn hloc HBu3
        refine ⟨_, fun _ h => h, HT.out _ HBu4.out, ?_⟩; simp only [List.getElem_toArray, List.getElem_cons_succ, List.getElem_cons_zero, Act.put, Act.eval, List.setIfInBounds_toArray, List.set_cons_zero, List.set_cons_succ, Array.getD_eq_getD_getElem?, List.getElem?_toArray, List.getElem?_cons_succ, List.getElem?_cons_zero, Option.getD_some]
        have hrow : u4.ownsRow w2.heap.size 99 3 v4 (D.plan.length + 1) (flat ev3 (L ++ [(⟨D.steps + k, cr, cuts⟩, .slice ad20 cuts.length c20)])) := by (have h1 := HOwn.out; rw [flat_snoc]; simpa [ev3] using h1)
        clear HOwn
        obtain ⟨ad9, cap9, e9, _⟩ := RdS_of_own hrow
        subst e9
        have HOwn := Lib.hid hrow
        clear hrow
        have HC9 := Lib.hid (HC1w.out.same (w' := u4) (HBu4.out.block _ HC1w.out.lt))
        repeat (first | (refine t_off rfl rfl ?_; simp only [List.getElem_toArray, List.getElem_cons_succ, List.getElem_cons_zero, Act.put, Act.eval, List.setIfInBounds_toArray, List.set_cons_zero, List.set_cons_succ, Array.getD_eq_getD_getElem?, List.getElem?_toArray, List.getElem?_cons_succ, List.getElem?_cons_zero, Option.getD_some]) | (refine t_move rfl _ rfl rfl ?_; simp only [List.getElem_toArray, List.getElem_cons_succ, List.getElem_cons_zero, Act.put, Act.eval, List.setIfInBounds_toArray, List.set_cons_zero, List.set_cons_succ, Array.getD_eq_getD_getElem?, List.getElem?_toArray, List.getElem?_cons_succ, List.getElem?_cons_zero, Option.getD_some]) | (refine t_assign rfl _ rfl rfl ?_; simp only [List.getElem_toArray, List.getElem_cons_succ, List.getElem_cons_zero, Act.put, Act.eval, List.setIfInBounds_toArray, List.set_cons_zero, List.set_cons_succ, Array.getD_eq_getD_getElem?, List.getElem?_toArray, List.getElem?_cons_succ, List.getElem?_cons_zero, Option.getD_some]) | (refine t_val rfl rfl ?_; apply Exists.intro; refine ⟨fun w' hC' => ?_, ?_⟩; (skip; go_simp; (first | done | exact rfl)); simp only [List.getElem_toArray, List.getElem_cons_succ, List.getElem_cons_zero, Act.put, Act.eval, List.setIfInBounds_toArray, List.set_cons_zero, List.set_cons_succ, Array.getD_eq_getD_getElem?, List.getElem?_toArray, List.getElem?_cons_succ, List.getElem?_cons_zero, Option.getD_some]) | (refine p_off rfl rfl ?_; simp only [List.getElem_toArray, List.getElem_cons_succ, List.getElem_cons_zero, Act.put, Act.eval, List.setIfInBounds_toArray, List.set_cons_zero, List.set_cons_succ, Array.getD_eq_getD_getElem?, List.getElem?_toArray, List.getElem?_cons_succ, List.getElem?_cons_zero, Option.getD_some]) | (refine p_val rfl rfl ?_; apply Exists.intro; refine ⟨fun w' => ?_, ?_⟩; (go_simp; (first | done | exact rfl)); simp only [List.getElem_toArray, List.getElem_cons_succ, List.getElem_cons_zero, Act.put, Act.eval, List.setIfInBounds_toArray, List.set_cons_zero, List.set_cons_succ, Array.getD_eq_getD_getElem?, List.getElem?_toArray, List.getElem?_cons_succ, List.getElem?_cons_zero, Option.getD_some]))
        obtain ⟨-, -, -, -, c4⟩ := HC9.out.cells
        obtain ⟨-, -, -, -, f4⟩ := HC9.out.free
        refine b_any rfl rfl (fun K hK => ?_)
        go_simp
        refine hK _ _ (fun _ => True) trivial ?_
        clear hK K c4 f4
        try simp only [List.getElem_toArray, List.getElem_cons_succ, List.getElem_cons_zero, Act.put, Act.eval, List.setIfInBounds_toArray, List.set_cons_zero, List.set_cons_succ, Array.getD_eq_getD_getElem?, List.getElem?_toArray, List.getElem?_cons_succ, List.getElem?_cons_zero, Option.getD_some]
        refine t_done ?_
        exact ⟨rfl, _, _, _, ad9, cap9, rfl, u4, rfl, HBu4.out, HOwn.out⟩
    case cont =>
      rintro _ a3 w3 ⟨rfl, p22, v25, v27, ad28, c28, rfl, u3, rfl, hb3, hown3⟩
      have hc1 : C5 u3 w.heap.size (.slice (some ⟨bl, ol, none⟩) n cl) (.slice ad2 D.op.length c2) (.bool D.down) (.int .i64 D.steps) (.slice ad3 D.plan.length c3) := HC1w.out.same (hb3.block _ HC1w.out.lt)
      have hc2 : C5 u3 (w.heap.size + 1) (.slice none 0 0) (.slice none 0 0) (.bool false) (.int .i64 0) (.slice none 0 0) := HC2w.out.same (hb3.block _ HC2w.out.lt)
      have hk4 : Kb (fun b => b = w.heap.size ∨ b = w.heap.size + 1) w2 (u3.setCell ⟨w.heap.size, 4, none⟩ (.slice ad28 (D.plan.length + 1) c28)) := (Kb.of_below hb3).setC _ _ (.inl rfl)
      have hk4' : Kb (fun b => b = w.heap.size ∨ b = w.heap.size + 1) u3 (u3.setCell ⟨w.heap.size, 4, none⟩ (.slice ad28 (D.plan.length + 1) c28)) := (Kb.refl _ _).setC _ _ (.inl rfl)
      have HK4 := Lib.hid hk4
      have HK4' := Lib.hid hk4'
      have HC14 := Lib.hid (hc1.set4 (.slice ad28 (D.plan.length + 1) c28))
      have HC24 := Lib.hid (hc2.kb (Z := fun b => b = w.heap.size) ((Kb.refl _ u3).setC ⟨w.heap.size, 4, none⟩ (.slice ad28 (D.plan.length + 1) c28) rfl) (by omega))
      have HB3 := Lib.hid hb3
      have HW3 := Lib.hid hown3
      clear hb3 hown3 hc1 hc2 hk4 hk4'
      generalize u3.setCell ⟨w.heap.size, 4, none⟩ (.slice ad28 (D.plan.length + 1) c28) = w4 at *
      obtain ⟨b0, b1, b2, b3, b4⟩ := HC14.out.cells
      obtain ⟨g0, g1, g2, g3, g4⟩ := HC24.out.cells
      obtain ⟨f0, f1, f2, f3, f4⟩ := HC24.out.free
      go_wp2
      have hk5 := put5_kb (Z := fun b => b = w.heap.size ∨ b = w.heap.size + 1) w4 (w.heap.size + 1) (.slice (some ⟨bl, ol, none⟩) n cl) (.slice ad2 D.op.length c2) (.bool D.down) (.int .i64 D.steps) (.slice ad28 (D.plan.length + 1) c28) (.inr rfl)
      unfold put5 at hk5
      have hz : ∀ i, i = w.heap.size ∨ i = w.heap.size + 1 → i < W.heap.size := fun i hi => by (have := HsW.out; omega)
      have hk25 := HK4.out.trans hk5 (fun i hi => .inl hi)
      have hk35 := HK4'.out.trans hk5 (fun i hi => .inl hi)
      have hb5 : Below w.heap.size w _ := HBw.out.trans (hk25.below (fun i hi => by omega) HBw.out.size)
      refine bodyPost_ret (v := .agg #[.slice (some ⟨bl, ol, none⟩) n cl, .slice ad2 D.op.length c2, .bool D.down, .int .i64 D.steps, .slice ad28 (D.plan.length + 1) c28]) (by simp [results, Try.results40, go_sem, g0, g1, g2, g3, g4]) rfl ⟨⟨_, rfl, ?_⟩, hb5⟩
      rw [HM.out]
      refine ⟨_, _, _, rfl, HR.out.st.below hb5, HR.out.op.below hb5, ?_⟩
      have hsz : w.heap.size ≤ W.heap.size := by have := HsW.out; omega
      refine ⟨L ++ [(⟨D.steps + k, cr, cuts⟩, .slice ad20 cuts.length c20)], by simp [hL1], ?_, fun q hq => ?_⟩
      · have e : (D.plan ++ [(⟨D.steps + k, cr, cuts⟩ : Evt)]).length = D.plan.length + 1 := by simp
        rw [e]
        refine RO.of_own (base := w2.heap.size) (own_same HW3.out (fun g hg hl => hk35.block g hl (fun hx => ?_))) (fun b hb => ?_)
        · have h1 := (HW3.out.lt g hg).1
          have h2 := HB2.out.size
          have h3 := hz g hx
          omega
        · have h1 := HX.out b hb
          have h2 := HB2.out.size
          omega
      · rcases List.mem_append.1 hq with hq | hq
        · exact ⟨(HL3.out q hq).cuts.below hb5, (HL3.out q hq).few⟩
        · obtain rfl : q = (⟨D.steps + k, cr, cuts⟩, .slice ad20 cuts.length c20) := by simpa using hq
          refine ⟨RO.of_own (base := W.heap.size) (own_same HW2.out (fun g hg hl => hk25.block g hl (fun hx => ?_))) (fun b hb => ?_), hcl⟩
          · have h1 := (HW2.out.lt g hg).1
            have h3 := hz g hx
            omega
          · have h1 := HX.out b hb
            omega
theorem rdplan_any (w : World) (X : Nat → Prop) (n m : Nat) (D : DM) (a b c vc : Value) (k : Int) (cr : Bool) (cuts : List Int) (hR : RAt w X n D a b c) (hX : ∀ g, X g → g < w.heap.size) (hD : OkD D n m) (hm : m ≤ 100000) (hpl : D.plan.length ≤ 100000) (hk2 : k ≤ 1048576) (hcl : cuts.length ≤ 100000) (hc : RdS w vc cuts.length 1 (cuts.map (Value.int .i64))) :
    Calls Try.prog 40 #[.agg (rV D a b c), .int .i64 k, .bool cr, vc] w fun e w' => (∃ v, e = .returned v ∧ RNext w' X n (planD D k cr cuts) v) ∧ Below w.heap.size w w' := by
  by_cases hk : k < 1
  · exact rdplan_no w X n D a b c vc k cr cuts hR hk
  · exact rdplan_yes w X n m D a b c vc k cr cuts hR hX hD hm hpl (by omega) hk2 hcl hc
end Go.Proofs.Ytjedlcfeobhjnaa
