/- What Read of the reference's disk computes. Conditions: the numbers are small. -/
import Derived.Test.YtjedlcfeobhjnaaRSync
set_option linter.unusedSimpArgs false
set_option linter.unusedVariables false
namespace Go.Proofs.Ytjedlcfeobhjnaa
open Go.RowKit Go.ChangeMaps

theorem Kb.rdAt {Z : Nat → Prop} {a b : World} (h : Kb Z a b) (g o m : Nat) (hlt : g < a.heap.size) (hz : ¬ Z g) : readAt b g o m = readAt a g o m := by simp [readAt, h.block g hlt hz]
theorem Kb.cnAt {Z : Nat → Prop} {a b : World} (h : Kb Z a b) (g o m : Nat) (hlt : g < a.heap.size) (hz : ¬ Z g) : canAt b g o m = canAt a g o m := by simp [canAt, h.block g hlt hz]
def GetRel (W : World) (S : Nat) (x : Sec) (wr : World) : Prop := Kb (fun b => b = S) W wr ∧ readAt wr S 0 64 = some (av x) ∧ canAt wr S 0 64 = true
theorem opGet_take (l : List (Int × Sec)) (i : Nat) (h : i < l.length) (k : Int) (s : Sec) : opGet (l.take (i + 1)) k s = if (l[i]).1 = k then (l[i]).2 else opGet (l.take i) k s := by
  rw [take_snoc' l i h, opGet_snoc]
set_option maxRecDepth 100000 in
set_option maxHeartbeats 3200000 in
theorem rdread_no (w : World) (X : Nat → Prop) (n : Nat) (D : DM) (a b c : Value) (k : Int) (hR : RAt w X n D a b c) (hl : D.st.length = n) (hn : n ≤ 5000) (hno : D.down = true ∨ (D.down = false ∧ hasD D k = false)) :
    Calls Try.prog 36 #[.agg (rV D a b c), .int .i64 k] w fun e w' => e = .returned (.tuple #[.agg (av (readD D k).1), .int .i64 (readD D k).2]) ∧ Below w.heap.size w w' := by
  obtain ⟨bl, ol, cl, ad2, ad3, c2, c3, rfl, rfl, rfl⟩ := hR.open_
  unfold rV
  obtain ⟨W0, hW0⟩ : ∃ W0, w.alloc (.cells #[.slice (some ⟨bl, ol, none⟩) n cl, .slice ad2 D.op.length c2, .bool D.down, .int .i64 D.steps, .slice ad3 D.plan.length c3] 46) = W0 := ⟨_, rfl⟩
  have hs0 : W0.heap.size = w.heap.size + 1 := by rw [← hW0]; simp
  have hC0 : C5 W0 w.heap.size (.slice (some ⟨bl, ol, none⟩) n cl) (.slice ad2 D.op.length c2) (.bool D.down) (.int .i64 D.steps) (.slice ad3 D.plan.length c3) := by rw [← hW0]; exact C5.made w _ _ _ _ _ _
  have hb0 : Below w.heap.size w W0 := by rw [← hW0]; exact ba _ (Below.refl _ _)
  obtain ⟨W, hW⟩ : ∃ W, W0.alloc (.cells (av zsec) 35) = W := ⟨_, rfl⟩
  have hb : Below w.heap.size w W := by rw [← hW]; exact ba _ hb0
  have hk : canAt W (w.heap.size + 1) 0 64 = true := by rw [← hW, ← hs0]; simp [go_sem]
  have hC := hC0.below (w' := W) (by rw [← hW]; exact ba _ (Below.refl _ _))
  obtain ⟨b0, b1, b2, b3, b4⟩ := hC.cells
  have Hb := Lib.hid hb
  have Hk := Lib.hid hk
  have Hl := Lib.hid hl
  clear hR hC0 hC hb0 hb b1 b3 b4 hl
  rcases hno with hdn | ⟨hdn, hh⟩
  · have HM : Hid (readD D k = (zsec, 12)) := by unfold Hid readD; rw [if_pos hdn]
    rw [hdn] at b2 hW0
    rw [hdn]
    clear hdn
    go_enter Try.func36, Try.ntmps36
    go_wp2
    rw [HM.out]
    refine bodyPost_ret (results_sec_tmp rfl _ _ (w.heap.size + 1) 0 (av zsec) _ rfl rfl ?_) rfl ⟨rfl, setAt_below Hb.out (by omega) _ _⟩
    exact readAt_setAt_same _ _ _ _ _ (by simp) Hk.out
  · have HM : Hid (readD D k = (zsec, 15)) := by unfold Hid readD; rw [if_neg (by rw [hdn]; decide), if_pos hh]
    rw [hdn] at b2 hW0
    rw [hdn]
    clear hdn
    rcases hasD_false D n k Hl.out hh with d7 | ⟨d7, d8⟩
    · have d9 : decide (k < 0) = true := by simp at d7; simpa using d7
      have d10 : k < 0 := by simpa using d9
      clear d7 hh
      go_enter Try.func36, Try.ntmps36
      go_wp2
      rw [HM.out]
      refine bodyPost_ret (results_sec_tmp rfl _ _ (w.heap.size + 1) 0 (av zsec) _ rfl rfl ?_) rfl ⟨rfl, setAt_below Hb.out (by omega) _ _⟩
      exact readAt_setAt_same _ _ _ _ _ (by simp) Hk.out
    · have d9 : decide (k < 0) = false := by simp at d7; simpa using d7
      have d10 : (n : Int) ≤ k := by simpa using d8
      have d11 : 0 ≤ k := by simpa using d7
      clear hh d7 d8
      go_enter Try.func36, Try.ntmps36
      go_wp2
      rw [HM.out]
      refine bodyPost_ret (results_sec_tmp rfl _ _ (w.heap.size + 1) 0 (av zsec) _ rfl rfl ?_) rfl ⟨rfl, setAt_below Hb.out (by omega) _ _⟩
      exact readAt_setAt_same _ _ _ _ _ (by simp) Hk.out
set_option maxRecDepth 100000 in
set_option maxHeartbeats 3200000 in
theorem rdread_yes (w : World) (X : Nat → Prop) (n m j : Nat) (D : DM) (a b c : Value) (hR : RAt w X n D a b c) (hD : OkD D n m) (hm : m ≤ 100000) (hn : n ≤ 5000) (hdn : D.down = false) (hjn : j < n) :
    Calls Try.prog 36 #[.agg (rV D a b c), .int .i64 (j : Int)] w fun e w' => e = .returned (.tuple #[.agg (av (opGet D.op j (D.st.getD j zsec))), .int .i64 0]) ∧ Below w.heap.size w w' := by
  obtain ⟨bl, ol, cl, ad2, ad3, c2, c3, rfl, rfl, rfl⟩ := hR.open_
  unfold rV
  rw [hdn]
  obtain ⟨W0, hW0⟩ : ∃ W0, w.alloc (.cells #[.slice (some ⟨bl, ol, none⟩) n cl, .slice ad2 D.op.length c2, .bool false, .int .i64 D.steps, .slice ad3 D.plan.length c3] 46) = W0 := ⟨_, rfl⟩
  have hs0 : W0.heap.size = w.heap.size + 1 := by rw [← hW0]; simp
  have hC0 : C5 W0 w.heap.size (.slice (some ⟨bl, ol, none⟩) n cl) (.slice ad2 D.op.length c2) (.bool false) (.int .i64 D.steps) (.slice ad3 D.plan.length c3) := by rw [← hW0]; exact C5.made w _ _ _ _ _ _
  have hb0 : Below w.heap.size w W0 := by rw [← hW0]; exact ba _ (Below.refl _ _)
  obtain ⟨W, hW⟩ : ∃ W, W0.alloc (.cells (av zsec) 35) = W := ⟨_, rfl⟩
  have hs1 : W.heap.size = w.heap.size + 2 := by rw [← hW]; simp [hs0]
  have hb : Below w.heap.size w W := by rw [← hW]; exact ba _ hb0
  have hk : canAt W (w.heap.size + 1) 0 64 = true := by rw [← hW, ← hs0]; simp [go_sem]
  have hC := hC0.below (w' := W) (by rw [← hW]; exact ba _ (Below.refl _ _))
  have hsrc : readAt W bl ol (n * 64) = some (flat av D.st).toArray := by
    obtain ⟨b, o, c, h1, _, _, h2, _⟩ := hR.st
    cases h1; exact (readAt_below hb (readAt_lt h2) _ _).trans h2
  have hrd : readAt W bl (ol + j * 64) 64 = some (av (D.st.getD j zsec)) := by
    have h1 := readAt_sub hsrc (ol + j * 64) 64 (by omega) (by omega)
    rw [show ol + j * 64 - ol = j * 64 by omega] at h1
    have hjl : j < D.st.length := by rw [hD.len]; exact hjn
    rw [h1, flat_get av 64 size_av D.st j hjl, List.getD_eq_getElem?_getD, List.getElem?_eq_getElem hjl]; rfl
  obtain ⟨b0, b1, b2, b3, b4⟩ := hC.cells
  have Hb := Lib.hid hb
  have Hk := Lib.hid hk
  have HC := Lib.hid hC
  have HD := Lib.hid hD
  have HR := Lib.hid hR
  clear hR hC0 hC hb0 hb b3 b4 hD hsrc
  rw [List.getD_eq_getElem?_getD] at hrd ⊢
  generalize D.st[j]?.getD zsec = s0 at *
  have hj0 : (0 : Int) ≤ (j : Int) := by omega
  have hj1 : (j : Int) < (n : Int) := by omega
  have d7 : decide ((j : Int) < 0) = false := by simp
  have d8 : decide ((n : Int) ≤ (j : Int)) = false := by simp; omega
  have hlen : D.op.length ≤ 100000 := Nat.le_trans HD.out.few hm
  go_enter Try.func36, Try.ntmps36
  go_upto_region 6 with fail
  obtain ⟨W2, hW2⟩ : ∃ W2, W.alloc (.cells (av s0) 35) = W2 := ⟨_, rfl⟩
  have hbW : Below W.heap.size W W2 := by rw [← hW2]; exact ba _ (Below.refl _ _)
  have HB2 := Lib.hid (bt Hb.out hbW)
  have HC2 := Lib.hid (HC.out.below hbW)
  have HK2 : Hid (canAt W2 (w.heap.size + 1) 0 64 = true) := (canAt_below hbW (by omega) 0 64).trans Hk.out
  have HG0 : Hid (GetRel W2 (w.heap.size + 2) s0 W2) := ⟨Kb.refl _ _, by rw [← hW2, ← hs1]; simp [go_sem, readAt_alloc_at], by rw [← hW2, ← hs1]; simp [go_sem]⟩
  have HS2 : Hid (W2.heap.size = w.heap.size + 3) := by show _ = _; rw [← hW2]; simp [hs1]
  have HR2 := Lib.hid HR.out.op
  rw [hW2]
  clear hW2 hbW b0 b1 b2 hrd Hb Hk HC HR hW hs0 hs1 hW0 d7 d8 hj1
  go_wp2_with fail
  go_loopw [7] (fun i wr => ∃ k : Nat, k ≤ D.op.length ∧ i = .int .i64 k ∧ GetRel W2 (w.heap.size + 2) (opGet (D.op.take k) j s0) wr) (fun i _ => D.op.length - (intOf i).toNat)
  case atStart => exact ⟨0, Nat.zero_le _, rfl, HG0.out⟩
  case round =>
    obtain ⟨k, hk, rfl, hG⟩ := hrel
    have HG := Lib.hid hG
    have HC3 := Lib.hid (HC2.out.kb hG.1 (by omega))
    have HK3 : Hid (canAt wr (w.heap.size + 1) 0 64 = true) := (hG.1.cnAt _ _ _ (by (have := HS2.out; omega)) (by omega)).trans HK2.out
    have b1 := HC3.out.cells.2.1
    have hr0 := hG.2.1
    have hk0' := hG.2.2
    have hk1' := HK3.out
    clear hG
    by_cases hlt : k < D.op.length
    · obtain ⟨q, hq⟩ : ∃ q, D.op[k]'hlt = q := ⟨_, rfl⟩
      obtain ⟨g, o, cap, hv, hc1, hc2, hrd0⟩ := HR2.out.1.at k hlt
      simp only [Value.slice.injEq, true_and] at hv
      obtain ⟨rfl, rfl⟩ := hv
      rw [flat_get wp2 65 size_wp2 D.op k hlt, hq] at hrd0
      have hgl := readAt_lt hrd0
      have hrd3 : readAt wr g (o + k * 65) 65 = some (wp2 q) := (HG.out.1.rdAt g _ _ (by (have := HS2.out; omega)) (by omega)).trans ((readAt_below HB2.out hgl _ _).trans hrd0)
      have e0 : wr.cell? ⟨g, o + k * 65, none⟩ = some (.int .i64 q.1) := by (have h1 := readAt_cell hrd3 0 (.int .i64 q.1) (wv_at _ _); rwa [Nat.add_zero] at h1)
      have e1 : readAt wr g (o + k * 65 + 1) 64 = some (av q.2) := by
        have h1 := readAt_sub hrd3 (o + k * 65 + 1) 64 (by omega) (by omega)
        rw [show o + k * 65 + 1 - (o + k * 65) = 1 by omega] at h1
        rw [h1]
        show some ((wv q.1 q.2).extract 1 65) = _
        rw [wv_data]
      have hst : opGet (D.op.take (k + 1)) j s0 = if q.1 = (j : Int) then q.2 else opGet (D.op.take k) j s0 := by rw [opGet_take _ _ hlt, hq]
      have Hst := Lib.hid hst
      have hk0 : (0 : Int) ≤ (k : Int) := by omega
      have hk1 : (k : Int) < (D.op.length : Int) := by omega
      clear hst hrd0 hrd3 hc1 hc2 hq hr0
      by_cases hqj : q.1 = (j : Int)
      · have hbe : (q.1 == (j : Int)) = true := by simpa using hqj
        have HN : Hid (GetRel W2 (w.heap.size + 2) (opGet (D.op.take (k + 1)) j s0) (setAt wr (w.heap.size + 2) 0 (av q.2))) := by
          refine ⟨?_, ?_, ?_⟩
          · exact HG.out.1.trans (Y := fun b => b = w.heap.size + 2) ((Ob.setAt wr (w.heap.size + 2) 0 (av q.2)).kb rfl) (fun i hi => .inl hi)
          · rw [Hst.out, if_pos hqj]; exact readAt_setAt_same _ _ _ _ _ (by simp) hk0'
          · rw [canAt_setAt _ _ _ _ _ _ _ (by simpa using hk0')]; exact hk0'
        clear hk1'
        go_wp2
        go_roundw
        case rel => exact ⟨k + 1, by omega, by go_num, HN.out⟩
        case measure => simp [intOf]; omega
      · have hbe : (q.1 == (j : Int)) = false := by simpa using hqj
        have HN : Hid (GetRel W2 (w.heap.size + 2) (opGet (D.op.take (k + 1)) j s0) wr) := by
          show GetRel _ _ _ _
          rw [Hst.out, if_neg hqj]; exact HG.out
        clear hk1' hk0'
        go_wp2
        go_roundw
        case rel => exact ⟨k + 1, by omega, by go_num, HN.out⟩
        case measure => simp [intOf]; omega
    · obtain rfl : k = D.op.length := by omega
      have hb3 : Below w.heap.size w wr := HB2.out.trans (HG.out.1.below (fun b hb => by omega) HB2.out.size)
      have HB3 := Lib.hid hb3
      clear hb3 hk0'
      go_wp2
      refine bodyPost_ret (results_sec_tmp rfl _ _ (w.heap.size + 1) 0 (av (opGet D.op j s0)) _ rfl rfl ?_) rfl ⟨rfl, setAt_below HB3.out (by omega) _ _⟩
      exact readAt_setAt_same _ _ _ _ _ (by simp) HK3.out
theorem rdread_any (w : World) (X : Nat → Prop) (n m : Nat) (D : DM) (a b c : Value) (k : Int) (hR : RAt w X n D a b c) (hD : OkD D n m) (hm : m ≤ 100000) (hn : n ≤ 5000) :
    Calls Try.prog 36 #[.agg (rV D a b c), .int .i64 k] w fun e w' => e = .returned (.tuple #[.agg (av (readD D k).1), .int .i64 (readD D k).2]) ∧ Below w.heap.size w w' := by
  cases hdn : D.down with
  | true => exact rdread_no w X n D a b c k hR hD.len hn (.inl hdn)
  | false =>
    cases hh : hasD D k with
    | false => exact rdread_no w X n D a b c k hR hD.len hn (.inr ⟨hdn, hh⟩)
    | true =>
      obtain ⟨h0, h1⟩ := hasD_true D n k hD.len hh
      obtain ⟨j, rfl⟩ := Int.eq_ofNat_of_zero_le h0
      have e : readD D (j : Int) = (opGet D.op j (D.st.getD j zsec), 0) := by unfold readD; rw [if_neg (by rw [hdn]; decide), if_neg (by rw [hh]; decide)]; rfl
      rw [e]
      exact rdread_yes w X n m j D a b c hR hD hm hn hdn (by omega)
end Go.Proofs.Ytjedlcfeobhjnaa
