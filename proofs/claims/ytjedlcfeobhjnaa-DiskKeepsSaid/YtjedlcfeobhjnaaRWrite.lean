/- What Write of the reference's disk computes. Conditions: the numbers are small. -/
import Derived.Test.YtjedlcfeobhjnaaRStep
import Derived.Deep.Cut
set_option linter.unusedSimpArgs false
set_option linter.unusedVariables false
namespace Go.Proofs.Ytjedlcfeobhjnaa
open Go.RowKit Go.ChangeMaps

/-- Five cells of a block, and that they may be written. -/
structure C5 (w : World) (b : Nat) (x0 x1 x2 x3 x4 : Value) : Prop where
  r : readAt w b 0 5 = some #[x0, x1, x2, x3, x4]
  k : canAt w b 0 5 = true
section
variable {w : World} {b : Nat} {x0 x1 x2 x3 x4 : Value}
theorem C5.cells (h : C5 w b x0 x1 x2 x3 x4) : w.cell? ⟨b, 0, none⟩ = some x0 ∧ w.cell? ⟨b, 1, none⟩ = some x1 ∧ w.cell? ⟨b, 2, none⟩ = some x2 ∧ w.cell? ⟨b, 3, none⟩ = some x3 ∧ w.cell? ⟨b, 4, none⟩ = some x4 := by
  have hc := fun i v hv => readAt_cell h.r i v hv
  simp only [Nat.zero_add] at hc
  exact ⟨hc 0 _ rfl, hc 1 _ rfl, hc 2 _ rfl, hc 3 _ rfl, hc 4 _ rfl⟩
theorem C5.free (h : C5 w b x0 x1 x2 x3 x4) : w.frozen? ⟨b, 0, none⟩ = false ∧ w.frozen? ⟨b, 1, none⟩ = false ∧ w.frozen? ⟨b, 2, none⟩ = false ∧ w.frozen? ⟨b, 3, none⟩ = false ∧ w.frozen? ⟨b, 4, none⟩ = false := by
  have hc := fun i => canAt_cell h.k i
  simp only [Nat.zero_add] at hc
  exact ⟨hc 0, hc 1, hc 2, hc 3, hc 4⟩
theorem C5.lt (h : C5 w b x0 x1 x2 x3 x4) : b < w.heap.size := readAt_lt h.r
theorem C5.same {w' : World} (h : C5 w b x0 x1 x2 x3 x4) (hs : w'.heap[b]? = w.heap[b]?) : C5 w' b x0 x1 x2 x3 x4 := ⟨by rw [← h.r]; simp [readAt, hs], by rw [← h.k]; simp [canAt, hs]⟩
theorem C5.below {w' : World} (h : C5 w b x0 x1 x2 x3 x4) (hb : Below w.heap.size w w') : C5 w' b x0 x1 x2 x3 x4 := h.same (hb.block b h.lt)
theorem C5.kb {w' : World} {Z : Nat → Prop} (h : C5 w b x0 x1 x2 x3 x4) (hk : Kb Z w w') (hz : ¬ Z b) : C5 w' b x0 x1 x2 x3 x4 := h.same (hk.block b h.lt hz)
theorem C5.made (w : World) (t : TypeId) (x0 x1 x2 x3 x4 : Value) : C5 (w.alloc (.cells #[x0, x1, x2, x3, x4] t)) w.heap.size x0 x1 x2 x3 x4 :=
  ⟨by rw [readAt_alloc_at _ _ _ _ _ _ _ rfl (by simp)]; rfl, by rw [canAt_alloc_at _ _ _ _ _ _ rfl (by simp)]⟩
/-- One cell is written. -/
theorem C5.set0 (h : C5 w b x0 x1 x2 x3 x4) (y : Value) : C5 (w.setCell ⟨b, 0, none⟩ y) b y x1 x2 x3 x4 := by
  rw [setCell_setAt (canAt_sub h.k 0 1 (by omega))]
  exact ⟨by rw [readAt_setAt_over w b 0 5 _ h.r h.k 0 _ (by omega) (by simp)]; rfl, by rw [canAt_setAt _ _ _ _ _ _ _ (canAt_sub h.k 0 1 (by omega))]; exact h.k⟩
theorem C5.set1 (h : C5 w b x0 x1 x2 x3 x4) (y : Value) : C5 (w.setCell ⟨b, 1, none⟩ y) b x0 y x2 x3 x4 := by
  rw [setCell_setAt (canAt_sub h.k 1 1 (by omega))]
  exact ⟨by rw [readAt_setAt_over w b 0 5 _ h.r h.k 1 _ (by omega) (by simp)]; rfl, by rw [canAt_setAt _ _ _ _ _ _ _ (canAt_sub h.k 1 1 (by omega))]; exact h.k⟩
theorem C5.set2 (h : C5 w b x0 x1 x2 x3 x4) (y : Value) : C5 (w.setCell ⟨b, 2, none⟩ y) b x0 x1 y x3 x4 := by
  rw [setCell_setAt (canAt_sub h.k 2 1 (by omega))]
  exact ⟨by rw [readAt_setAt_over w b 0 5 _ h.r h.k 2 _ (by omega) (by simp)]; rfl, by rw [canAt_setAt _ _ _ _ _ _ _ (canAt_sub h.k 2 1 (by omega))]; exact h.k⟩
theorem C5.set3 (h : C5 w b x0 x1 x2 x3 x4) (y : Value) : C5 (w.setCell ⟨b, 3, none⟩ y) b x0 x1 x2 y x4 := by
  rw [setCell_setAt (canAt_sub h.k 3 1 (by omega))]
  exact ⟨by rw [readAt_setAt_over w b 0 5 _ h.r h.k 3 _ (by omega) (by simp)]; rfl, by rw [canAt_setAt _ _ _ _ _ _ _ (canAt_sub h.k 3 1 (by omega))]; exact h.k⟩
theorem C5.set4 (h : C5 w b x0 x1 x2 x3 x4) (y : Value) : C5 (w.setCell ⟨b, 4, none⟩ y) b x0 x1 x2 x3 y := by
  rw [setCell_setAt (canAt_sub h.k 4 1 (by omega))]
  exact ⟨by rw [readAt_setAt_over w b 0 5 _ h.r h.k 4 _ (by omega) (by simp)]; rfl, by rw [canAt_setAt _ _ _ _ _ _ _ (canAt_sub h.k 4 1 (by omega))]; exact h.k⟩
/-- All five are written, as a store of a struct does it. -/
def put5 (w : World) (b : Nat) (y0 y1 y2 y3 y4 : Value) : World := ((((w.setCell ⟨b, 0, none⟩ y0).setCell ⟨b, 1, none⟩ y1).setCell ⟨b, 2, none⟩ y2).setCell ⟨b, 3, none⟩ y3).setCell ⟨b, 4, none⟩ y4
theorem C5.put (h : C5 w b x0 x1 x2 x3 x4) (y0 y1 y2 y3 y4 : Value) : C5 (put5 w b y0 y1 y2 y3 y4) b y0 y1 y2 y3 y4 := ((((h.set0 y0).set1 y1).set2 y2).set3 y3).set4 y4
theorem put5_kb {Z : Nat → Prop} (w : World) (b : Nat) (y0 y1 y2 y3 y4 : Value) (hz : Z b) : Kb Z w (put5 w b y0 y1 y2 y3 y4) :=
  (((((Kb.refl Z w).setC ⟨b, 0, none⟩ y0 hz).setC ⟨b, 1, none⟩ y1 hz).setC ⟨b, 2, none⟩ y2 hz).setC ⟨b, 3, none⟩ y3 hz).setC ⟨b, 4, none⟩ y4 hz
end


theorem hasD_false (D : DM) (n : Nat) (k : Int) (hl : D.st.length = n) (h : hasD D k = false) : decide (0 ≤ k) = false ∨ (decide (0 ≤ k) = true ∧ decide (k < (n : Int)) = false) := by
  unfold hasD at h
  rw [hl] at h
  cases h0 : decide (0 ≤ k) with
  | false => exact .inl rfl
  | true => rw [h0] at h; exact .inr ⟨rfl, by simpa using h⟩
theorem hasD_true (D : DM) (n : Nat) (k : Int) (hl : D.st.length = n) (h : hasD D k = true) : 0 ≤ k ∧ k < (n : Int) := by
  simpa [hasD, hl] using h

/-- X and all that is new. -/
def XI (X : Nat → Prop) (s : Nat) (b : Nat) : Prop := X b ∨ s ≤ b
theorem rnext_put {w w5 : World} {X Z : Nat → Prop} {n : Nat} {D' : DM} {a b c : Value} (hz : Z (w.heap.size + 1 + 1)) (hxz : ∀ b, X b → Z b) (hR : RAt w5 Z n D' a b c) (hb : Below w.heap.size w w5) (y0 y1 y2 y3 y4 : Value) :
    RAt (put5 w5 (w.heap.size + 1 + 1) y0 y1 y2 y3 y4) X n D' a b c ∧ Below w.heap.size w (put5 w5 (w.heap.size + 1 + 1) y0 y1 y2 y3 y4) :=
  ⟨hR.kb (put5_kb w5 _ y0 y1 y2 y3 y4 hz) (fun b h => .inl (hxz b h)), hb.trans ((put5_kb (Z := fun b => b = w.heap.size + 1 + 1) w5 _ y0 y1 y2 y3 y4 rfl).below (fun b h => by subst h; omega) hb.size)⟩
theorem XI.loc {X : Nat → Prop} {s q : Nat} {m : Nat} : ∀ b, Loc X s q b → XI X s b ∨ m ≤ b := fun b h => .inl (h.imp id (fun h => h.1))
theorem RStepOut.kb {w w' : World} {X X' : Nat → Prop} {D : DM} {cr : Bool} {v : Value} (h : RStepOut w X D cr v) (hk : Kb X w w') (hX : ∀ b, X' b → X b ∨ w.heap.size ≤ b) : RStepOut w' X' D cr v := by
  rcases h with h | ⟨cs, h1, h2, h3, h4⟩
  · exact .inl h
  · exact .inr ⟨cs, h1, h2, h3.kb hk hX, h4⟩
set_option maxRecDepth 100000 in
set_option maxHeartbeats 6400000 in
theorem rdwrite_no (w : World) (X : Nat → Prop) (n m : Nat) (D : DM) (a b c : Value) (k : Int) (x : Sec) (hR : RAt w X n D a b c) (hX : ∀ g, X g → g < w.heap.size) (hD : OkD D n m) (hm : m + 2 ≤ 100000) (hn : n ≤ 5000) (hpl : D.plan.length ≤ 100000)
    (hno : D.down = true ∨ (D.down = false ∧ hasD D k = false)) :
    Calls Try.prog 38 #[.agg (rV D a b c), .int .i64 k, .agg (av x)] w fun e w' => (∃ v, e = .returned (.tuple #[v, .int .i64 (writeD D k x).2]) ∧ RNext w' X n (writeD D k x).1 v) ∧ Below w.heap.size w w' := by
  obtain ⟨bl, ol, cl, ad2, ad3, c2, c3, rfl, rfl, rfl⟩ := hR.open_
  unfold rV
  have HR := Lib.hid hR
  have HX := Lib.hid hX
  have HD := Lib.hid hD
  have Hpl := Lib.hid hpl
  clear hR hX hD hpl
  rcases hno with hdn | ⟨hdn, hh⟩
  · have HM : Hid (writeD D k x = (D, 12)) := by unfold Hid writeD; rw [if_pos hdn]
    rw [hdn]
    go_enter Try.func38, Try.ntmps38
    go_wp2
    have hB : Below w.heap.size w (((w.alloc (.cells #[.slice (some ⟨bl, ol, none⟩) n cl, .slice ad2 D.op.length c2, .bool true, .int .i64 D.steps, .slice ad3 D.plan.length c3] 46)).alloc (.cells (av x) 35)).alloc (.cells #[.slice (some ⟨bl, ol, none⟩) n cl, .slice ad2 D.op.length c2, .bool true, .int .i64 D.steps, .slice ad3 D.plan.length c3] 46)) := ba _ (ba _ (ba _ (Below.refl _ _)))
    refine bodyPost_ret (v := .tuple #[.agg #[.slice (some ⟨bl, ol, none⟩) n cl, .slice ad2 D.op.length c2, .bool true, .int .i64 D.steps, .slice ad3 D.plan.length c3], .int .i64 12]) (by simp [results, Try.results38, go_sem]) rfl ⟨⟨_, by rw [HM.out], ?_⟩, hB⟩
    rw [HM.out]
    exact ⟨_, _, _, by unfold rV; rw [hdn], HR.out.below hB⟩
  · rw [hdn]
    have Hdn := Lib.hid hdn
    have hd7 := hasD_false D n k HD.out.len hh
    have Hd7 := Lib.hid hd7
    have Hh := Lib.hid hh
    clear hdn hd7 hh
    go_enter Try.func38, Try.ntmps38
    go_wp2_with fail
    obtain ⟨W, hW⟩ : ∃ W, ((w.alloc (.cells #[.slice (some ⟨bl, ol, none⟩) n cl, .slice ad2 D.op.length c2, .bool false, .int .i64 D.steps, .slice ad3 D.plan.length c3] 46)).alloc (.cells (av x) 35)).alloc (.cells #[.slice none 0 0, .slice none 0 0, .bool false, .int .i64 0, .slice none 0 0] 46) = W := ⟨_, rfl⟩
    have hB : Below w.heap.size w W := by rw [← hW]; exact ba _ (ba _ (ba _ (Below.refl _ _)))
    have hC1 : C5 W w.heap.size (.slice (some ⟨bl, ol, none⟩) n cl) (.slice ad2 D.op.length c2) (.bool false) (.int .i64 D.steps) (.slice ad3 D.plan.length c3) := by
      rw [← hW]; exact ((C5.made w _ _ _ _ _ _).below (ba _ (Below.refl _ _))).below (ba _ (Below.refl _ _))
    have hC2 : C5 W (w.heap.size + 1 + 1) (.slice none 0 0) (.slice none 0 0) (.bool false) (.int .i64 0) (.slice none 0 0) := by
      rw [← hW]; have h1 := C5.made ((w.alloc (.cells #[.slice (some ⟨bl, ol, none⟩) n cl, .slice ad2 D.op.length c2, .bool false, .int .i64 D.steps, .slice ad3 D.plan.length c3] 46)).alloc (.cells (av x) 35)) 46 (.slice none 0 0) (.slice none 0 0) (.bool false) (.int .i64 0) (.slice none 0 0); simpa using h1
    have hsW : W.heap.size = w.heap.size + 3 := by rw [← hW]; simp
    have hRL : RAt W (XI X w.heap.size) n D _ _ _ := HR.out.kb (Kb.of_below hB) (fun b hb => hb)
    have hst := rstep_any W (XI X w.heap.size) n m D _ _ _ hRL HD.out (by omega) Hpl.out
    unfold rV at hst
    rw [show (tickD D).down = false from Hdn.out, show (tickD D).steps = D.steps + 1 from rfl, Hdn.out] at hst
    rw [hW]
    clear hW
    refine hst.mono ?_
    rintro _ w2 ⟨⟨cr, cv, rfl, hout⟩, hb2⟩
    have HB2 := Lib.hid (bt hB hb2)
    have HRL := Lib.hid (hRL.below hb2)
    have HsL : Hid (w.heap.size + 3 ≤ w2.heap.size) := by have := hb2.size; show _ ≤ _; omega
    have HC1 := Lib.hid (hC1.below hb2)
    have HC2 := Lib.hid (hC2.below hb2)
    have Hout := Lib.hid hout
    obtain ⟨b0, b1, b2, b3, b4⟩ := HC1.out.cells
    obtain ⟨f0, f1, f2, f3, f4⟩ := HC1.out.free
    clear hst hB hC1 hC2 hb2 hout hRL hsW
    go_upto_region 4 with fail
    have h31 : C5 (put5 w2 w.heap.size (.slice (some ⟨bl, ol, none⟩) n cl) (.slice ad2 D.op.length c2) (.bool false) (.int .i64 (D.steps + 1)) (.slice ad3 D.plan.length c3)) w.heap.size (.slice (some ⟨bl, ol, none⟩) n cl) (.slice ad2 D.op.length c2) (.bool false) (.int .i64 (D.steps + 1)) (.slice ad3 D.plan.length c3) := HC1.out.put (.slice (some ⟨bl, ol, none⟩) n cl) (.slice ad2 D.op.length c2) (.bool false) (.int .i64 (D.steps + 1)) (.slice ad3 D.plan.length c3)
    have hk3 : Kb (fun b => b = w.heap.size) w2 (put5 w2 w.heap.size (.slice (some ⟨bl, ol, none⟩) n cl) (.slice ad2 D.op.length c2) (.bool false) (.int .i64 (D.steps + 1)) (.slice ad3 D.plan.length c3)) := put5_kb w2 w.heap.size (.slice (some ⟨bl, ol, none⟩) n cl) (.slice ad2 D.op.length c2) (.bool false) (.int .i64 (D.steps + 1)) (.slice ad3 D.plan.length c3) rfl
    have h32 : C5 (put5 w2 w.heap.size (.slice (some ⟨bl, ol, none⟩) n cl) (.slice ad2 D.op.length c2) (.bool false) (.int .i64 (D.steps + 1)) (.slice ad3 D.plan.length c3)) (w.heap.size + 1 + 1) (.slice none 0 0) (.slice none 0 0) (.bool false) (.int .i64 0) (.slice none 0 0) := HC2.out.kb hk3 (by omega)
    have hb3 : Below w.heap.size w (put5 w2 w.heap.size (.slice (some ⟨bl, ol, none⟩) n cl) (.slice ad2 D.op.length c2) (.bool false) (.int .i64 (D.steps + 1)) (.slice ad3 D.plan.length c3)) := HB2.out.trans (hk3.below (fun b hb => by subst hb; exact Nat.le_refl _) HB2.out.size)
    have hs3 : w2.heap.size ≤ (put5 w2 w.heap.size (.slice (some ⟨bl, ol, none⟩) n cl) (.slice ad2 D.op.length c2) (.bool false) (.int .i64 (D.steps + 1)) (.slice ad3 D.plan.length c3)).heap.size := hk3.size
    unfold put5 at h31 hk3 h32 hb3 hs3
    generalize (((((w2.setCell ⟨w.heap.size, 0, none⟩ (.slice (some ⟨bl, ol, none⟩) n cl)).setCell ⟨w.heap.size, 1, none⟩ (.slice ad2 D.op.length c2)).setCell ⟨w.heap.size, 2, none⟩ (.bool false)).setCell ⟨w.heap.size, 3, none⟩ (.int .i64 (D.steps + 1))).setCell ⟨w.heap.size, 4, none⟩ (.slice ad3 D.plan.length c3)) = w3 at *
    have H31 := Lib.hid h31
    have H32 := Lib.hid h32
    have HB3 := Lib.hid hb3
    have hkL : Kb (XI X w.heap.size) w2 w3 := ⟨hk3.os, hk3.tape, hk3.output, hk3.size, fun k h1 h2 => hk3.block k h1 (fun e => h2 (.inr (by subst e; exact Nat.le_refl _)))⟩
    have Hout3 : Hid (RStepOut w3 (XI X w.heap.size) D cr cv) := Hout.out.kb hkL (fun b h => .inl h)
    have HRL3 := Lib.hid (HRL.out.kb (X' := XI X w.heap.size) hkL (fun b h => .inl h))
    have HsL3 : Hid (w.heap.size + 3 ≤ w3.heap.size) := Nat.le_trans HsL.out hs3
    clear hkL HRL HsL
    clear h31 hk3 h32 hb3 hs3 b0 b1 b2 b3 b4 f0 f1 f2 f3 f4 HC1 HC2 HB2 Hout
    obtain ⟨b0, b1, b2, b3, b4⟩ := H31.out.cells
    rcases Hd7.out with d7 | ⟨d7, d8⟩
    all_goals
      go_upto_region 6 with fail
      have hb4 := ba (.cells #[Value.slice (some ⟨bl, ol, none⟩) n cl, .slice ad2 D.op.length c2, .bool false, .int .i64 (D.steps + 1), .slice ad3 D.plan.length c3] 46) (Below.refl w3.heap.size w3)
      have H41 := Lib.hid (H31.out.below hb4)
      have H42 := Lib.hid (H32.out.below hb4)
      have H43 := Lib.hid (C5.made w3 46 (.slice (some ⟨bl, ol, none⟩) n cl) (.slice ad2 D.op.length c2) (.bool false) (.int .i64 (D.steps + 1)) (.slice ad3 D.plan.length c3))
      have HB4 := Lib.hid (bt HB3.out hb4)
      have HO4 := Lib.hid (Hout3.out.kb (X' := XI X w.heap.size) (Kb.of_below hb4) (fun b h => .inl h))
      have HR4 := Lib.hid (HRL3.out.below hb4)
      have Hs4 : Hid (w.heap.size + 3 ≤ (w3.alloc (.cells #[Value.slice (some ⟨bl, ol, none⟩) n cl, .slice ad2 D.op.length c2, .bool false, .int .i64 (D.steps + 1), .slice ad3 D.plan.length c3] 46)).heap.size) := Nat.le_trans HsL3.out hb4.size
      clear hb4 b0 b1 b2 b3 b4
      generalize w3.alloc (.cells #[Value.slice (some ⟨bl, ol, none⟩) n cl, .slice ad2 D.op.length c2, .bool false, .int .i64 (D.steps + 1), .slice ad3 D.plan.length c3] 46) = w4 at *
      generalize w3.heap.size = N3 at *
      obtain ⟨b0, b1, b2, b3, b4⟩ := H41.out.cells
      obtain ⟨g0, g1, g2, g3, g4⟩ := H42.out.cells
      obtain ⟨f0, f1, f2, f3, f4⟩ := H42.out.free
      obtain ⟨e0, e1, e2, e3, e4⟩ := H43.out.cells
      rcases HO4.out with ⟨h1, rfl, rfl⟩ | ⟨cs, h1, rfl, h3, h5⟩
      · cases hF : evF D.plan (D.steps + 1) with
        | true =>
          have HM : Hid (writeD D k x = (tickD D, 11)) := by unfold Hid writeD; rw [if_neg (by rw [Hdn.out]; decide), h1]; simp only; rw [if_pos hF]
          clear h1 hF
          go_wp2
          obtain ⟨hr5, hb5⟩ := rnext_put (D' := tickD D) (X := X) (Z := XI X w.heap.size) (.inr (by omega)) (fun b h => .inl h) ⟨HR4.out.st, HR4.out.op, HR4.out.pl⟩ HB4.out (.slice (some ⟨bl, ol, none⟩) n cl) (.slice ad2 D.op.length c2) (.bool false) (.int .i64 (D.steps + 1)) (.slice ad3 D.plan.length c3)
          unfold put5 at hr5 hb5
          refine bodyPost_ret (v := .tuple #[.agg #[.slice (some ⟨bl, ol, none⟩) n cl, .slice ad2 D.op.length c2, .bool false, .int .i64 (D.steps + 1), .slice ad3 D.plan.length c3], .int .i64 11]) (by simp [results, Try.results38, go_sem, g0, g1, g2, g3, g4]) rfl ⟨⟨_, by rw [HM.out], ?_⟩, hb5⟩
          rw [HM.out]
          exact ⟨_, _, _, by (unfold rV; rw [show (tickD D).down = false from Hdn.out]; rfl), hr5⟩
        | false =>
          have HM : Hid (writeD D k x = (tickD D, 15)) := by unfold Hid writeD; rw [if_neg (by rw [Hdn.out]; decide), h1]; simp only; rw [if_neg (by rw [hF]; decide), if_neg (by rw [Hh.out]; decide)]
          clear h1 hF
          go_wp2
          obtain ⟨hr5, hb5⟩ := rnext_put (D' := tickD D) (X := X) (Z := XI X w.heap.size) (.inr (by omega)) (fun b h => .inl h) ⟨HR4.out.st, HR4.out.op, HR4.out.pl⟩ HB4.out (.slice (some ⟨bl, ol, none⟩) n cl) (.slice ad2 D.op.length c2) (.bool false) (.int .i64 (D.steps + 1)) (.slice ad3 D.plan.length c3)
          unfold put5 at hr5 hb5
          refine bodyPost_ret (v := .tuple #[.agg #[.slice (some ⟨bl, ol, none⟩) n cl, .slice ad2 D.op.length c2, .bool false, .int .i64 (D.steps + 1), .slice ad3 D.plan.length c3], .int .i64 15]) (by simp [results, Try.results38, go_sem, g0, g1, g2, g3, g4]) rfl ⟨⟨_, by rw [HM.out], ?_⟩, hb5⟩
          rw [HM.out]
          exact ⟨_, _, _, by (unfold rV; rw [show (tickD D).down = false from Hdn.out]; rfl), hr5⟩
      · have HM : Hid (writeD D k x = (crashD (tickD D) cs, 12)) := by
          unfold Hid writeD; rw [if_neg (by rw [Hdn.out]; decide), h1]; simp only
          rw [show addD (tickD D) k x = tickD D by unfold addD; rw [if_neg (by rw [hasD_tick, Hh.out]; decide)]]
        have H3 := Lib.hid h3
        clear h1 h3
        go_wp2_with fail
        have hRc := HR4.out.kb (X' := Loc X w.heap.size 3) (Kb.refl _ _) XI.loc
        have hcall := rdcrash_any w4 (Loc X w.heap.size 3) n (m + 1) (tickD D) _ _ _ cv cs ⟨hRc.st, hRc.op, hRc.pl⟩ (fun g hg => Nat.lt_of_lt_of_le (Loc.lt HX.out g hg) Hs4.out) HD.out.tick (by omega) hn H3.out.1
        unfold rV at hcall
        rw [show (tickD D).down = false from Hdn.out, show (tickD D).steps = D.steps + 1 from rfl] at hcall
        refine hcall.mono ?_
        rintro _ w5 ⟨⟨v5, rfl, a5, b5, c5, rfl, hR5⟩, hb5⟩
        obtain ⟨bl5, ol5, cl5, ad25, ad35, c25, c35, rfl, rfl, rfl⟩ := hR5.open_
        have H52 := Lib.hid (H42.out.below hb5)
        have HB5 := Lib.hid (bt HB4.out hb5)
        have HR5 := Lib.hid hR5
        have hz5 := (H42.out.below hb5).lt
        unfold rV
        clear hcall hRc hb5 hR5 b0 b1 b2 b3 b4 g0 g1 g2 g3 g4 f0 f1 f2 f3 f4 e0 e1 e2 e3 e4
        obtain ⟨g0, g1, g2, g3, g4⟩ := H52.out.cells
        obtain ⟨f0, f1, f2, f3, f4⟩ := H52.out.free
        go_wp2
        obtain ⟨hr6, hb6⟩ := rnext_put (D' := crashD (tickD D) cs) (X := X) (Z := Loc X w.heap.size 3) (.inr ⟨by omega, by omega⟩) (fun b h => .inl h) HR5.out HB5.out (.slice (some ⟨bl5, ol5, none⟩) n cl5) (.slice ad25 (crashD (tickD D) cs).op.length c25) (.bool (crashD (tickD D) cs).down) (.int .i64 (crashD (tickD D) cs).steps) (.slice ad35 (crashD (tickD D) cs).plan.length c35)
        unfold put5 at hr6 hb6
        refine bodyPost_ret (v := .tuple #[.agg #[.slice (some ⟨bl5, ol5, none⟩) n cl5, .slice ad25 (crashD (tickD D) cs).op.length c25, .bool (crashD (tickD D) cs).down, .int .i64 (crashD (tickD D) cs).steps, .slice ad35 (crashD (tickD D) cs).plan.length c35], .int .i64 12]) (by simp [results, Try.results38, go_sem, g0, g1, g2, g3, g4]) rfl ⟨⟨_, by rw [HM.out], ?_⟩, hb6⟩
        rw [HM.out]
        exact ⟨_, _, _, rfl, hr6⟩
end Go.Proofs.Ytjedlcfeobhjnaa
