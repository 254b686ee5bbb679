/- What Read of a disk computes. Conditions: the receiver is a disk; the numbers are small. -/
import Derived.Test.YtjedlcfeobhjnaaDisk6
set_option linter.unusedSimpArgs false
set_option linter.unusedVariables false
namespace Go.Proofs.Ytjedlcfeobhjnaa
open Go.RowKit Go.ChangeMaps

section
variable {base n : Nat} {p : DP} {D : DM}
theorem DAt.lookL {w : World} (h : DAt w base p n D) (k : Int) (h64 : I64 k) :
    (Instr.lookup 59 (.map (some p.bl)) (.int .i64 k) true).run Try.prog w = .ok (.tuple #[(lastM D.op k).getD (.int .i64 0), .bool (lastM D.op k).isSome]) w :=
  h.la.look h64 Try.underlying59 (zero_int w) true

set_option maxRecDepth 100000 in
set_option maxHeartbeats 3200000 in
theorem dread_no (w : World) (k : Int) (h : DAt w base p n D) (hl : D.st.length = n) (hn : n ≤ 5000) (hno : D.down = true ∨ (D.down = false ∧ hasD D k = false)) :
    Calls Try.prog 28 #[.pointer (some ⟨p.B, 0, none⟩), .int .i64 k] w fun e w' => e = .returned (.tuple #[.agg (av (readD D k).1), errV (readD D k).2 k]) ∧ Below w.heap.size w w' := by
  obtain ⟨W, hW⟩ : ∃ W, w.alloc (.cells (av zsec) 35) = W := ⟨_, rfl⟩
  have hb : Below w.heap.size w W := by rw [← hW]; exact ba _ (Below.refl w.heap.size w)
  have hk : canAt W w.heap.size 0 64 = true := by rw [← hW]; simp [go_sem]
  have hA := h.below hb
  obtain ⟨-, -, -, c3, -⟩ := hA.cells
  have HA := Lib.hid hA
  have Hb := Lib.hid hb
  have Hk := Lib.hid hk
  clear h hb hA
  rcases hno with hdn | ⟨hdn, hh⟩
  · have HM : Hid (readD D k = (zsec, 12)) := by unfold Hid readD; rw [if_pos hdn]
    rw [hdn] at c3
    clear hdn
    go_enter Try.func28, Try.ntmps28
    go_wp2
    rw [HM.out]
    refine bodyPost_ret (results_sec_tmp rfl _ _ w.heap.size 0 (av zsec) _ rfl rfl ?_) rfl ⟨rfl, setAt_below Hb.out (Nat.le_refl _) _ _⟩
    exact readAt_setAt_same _ _ _ _ _ (by simp) Hk.out
  · have HM : Hid (readD D k = (zsec, 15)) := by unfold Hid readD; rw [if_neg (by rw [hdn]; decide), if_pos hh]
    rw [hdn] at c3
    clear hdn
    go_enter Try.func28, Try.ntmps28
    go_wp2_with fail
    clear hW c3 hk
    refine (has_any W k HA.out hl hn).mono ?_
    rw [hh]
    rintro _ w2 ⟨rfl, rfl⟩
    go_wp2_with fail
    refine (fnew_any 15 k _).mono ?_
    rintro _ w3 ⟨rfl, rfl⟩
    have hk := Hk.out
    go_wp2
    rw [HM.out]
    refine bodyPost_ret (results_sec_tmp rfl _ _ w.heap.size 0 (av zsec) _ rfl rfl ?_) rfl ⟨rfl, setAt_below Hb.out (Nat.le_refl _) _ _⟩
    exact readAt_setAt_same _ _ _ _ _ (by simp) Hk.out

set_option maxRecDepth 100000 in
set_option maxHeartbeats 3200000 in
theorem dread_yes (w : World) (j m : Nat) (h : DAt w base p n D) (hD : OkD D n m) (hm : m ≤ 100000) (hn : n ≤ 5000) (hdn : D.down = false) (hh : hasD D (j : Int) = true) :
    Calls Try.prog 28 #[.pointer (some ⟨p.B, 0, none⟩), .int .i64 (j : Int)] w fun e w' => e = .returned (.tuple #[.agg (av (readD D j).1), errV (readD D j).2 j]) ∧ Below w.heap.size w w' := by
  obtain ⟨W, hW⟩ : ∃ W, w.alloc (.cells (av zsec) 35) = W := ⟨_, rfl⟩
  have hb : Below w.heap.size w W := by rw [← hW]; exact ba _ (Below.refl w.heap.size w)
  have hk : canAt W w.heap.size 0 64 = true := by rw [← hW]; simp [go_sem]
  have hA := h.below hb
  obtain ⟨c0, c1, c2, c3, -⟩ := hA.cells
  have hjn : j < n := by
    simp only [hasD, Bool.and_eq_true, decide_eq_true_eq, hD.len] at hh
    omega
  have h64 : I64 (j : Int) := by unfold I64; omega
  have hlk := hA.lookL (j : Int) h64
  have HA := Lib.hid hA
  have Hb := Lib.hid hb
  have Hk := Lib.hid hk
  have HD := Lib.hid hD
  have Hc0 := Lib.hid c0
  have Hc1 := Lib.hid c1
  have Hc2 := Lib.hid c2
  have Hlk := Lib.hid hlk
  have HM : Hid (readD D j = (opGet D.op j (D.st.getD j zsec), 0)) := by unfold Hid readD; rw [if_neg (by rw [hdn]; decide), if_neg (by rw [hh]; decide)]; rfl
  rw [hdn] at c3
  clear h hb hA hD c0 c1 c2 hlk hdn
  go_enter Try.func28, Try.ntmps28
  go_wp2_with fail
  clear hW c3 hk
  refine (has_any W j HA.out HD.out.len hn).mono ?_
  rw [hh]
  rintro _ w2 ⟨rfl, rfl⟩
  clear hh
  rcases last_get D.op (j : Int) (D.st.getD j zsec) with ⟨e1, e2⟩ | ⟨i, q, e1, e2, e3, e4⟩
  · have hlk := Hlk.out
    rw [show lastM D.op (j : Int) = none by unfold lastM; rw [e1]; rfl] at hlk
    simp only [Option.getD_none, Option.isSome_none] at hlk
    rw [e2] at HM
    clear e1 e2
    have hrd : readAt W p.gs (j * 64) 64 = some (av (D.st.getD j zsec)) := by
      have h1 := readAt_sub HA.out.sr (j * 64) 64 (by omega) (by omega)
      rw [Nat.sub_zero] at h1
      have hjl : j < D.st.length := by rw [HD.out.len]; exact hjn
      rw [h1, flat_get av 64 size_av D.st j hjl, List.getD_eq_getElem?_getD, List.getElem?_eq_getElem hjl]; rfl
    have c0 := Hc0.out
    have c2 := Hc2.out
    have hk := Hk.out
    go_wp2_with fail
    rw [HM.out]
    refine bodyPost_ret (results_sec_tmp rfl _ _ w.heap.size 0 (av (D.st.getD j zsec)) _ rfl rfl ?_) rfl ⟨rfl, setAt_below Hb.out (Nat.le_refl _) _ _⟩
    exact readAt_setAt_same _ _ _ _ _ (by simp) Hk.out
  · have hlk := Hlk.out
    rw [show lastM D.op (j : Int) = some (.int .i64 (i : Nat)) by unfold lastM; rw [e1]; rfl] at hlk
    simp only [Option.getD_some, Option.isSome_some] at hlk
    rw [e4] at HM
    obtain ⟨hil, hiq⟩ := List.getElem?_eq_some_iff.1 e2
    obtain ⟨g, o, cap, hv, hc1, hc2, hrd0⟩ := (RdS_of_own HA.out.op).at i hil
    have hlen : D.op.length ≤ 100000 := Nat.le_trans HD.out.few hm
    rw [flat_get wp2 65 size_wp2 D.op i hil, hiq] at hrd0
    have hrd : readAt W g (o + i * 65 + 1) 64 = some (av q.2) := by
      have h1 := readAt_sub hrd0 (o + i * 65 + 1) 64 (by omega) (by omega)
      rw [show o + i * 65 + 1 - (o + i * 65) = 1 by omega] at h1
      rw [h1]
      show some ((wv q.1 q.2).extract 1 65) = _
      rw [wv_data]
    have hi0 : (0 : Int) ≤ (i : Int) := by omega
    have hi1 : (i : Int) < (D.op.length : Int) := by omega
    have c1 := Hc1.out
    rw [hv] at c1
    have c2 := Hc2.out
    have hk := Hk.out
    clear e1 e2 e3 e4 hiq hrd0 hv hc1 hc2
    go_wp2_with fail
    rw [HM.out]
    refine bodyPost_ret (results_sec_tmp rfl _ _ w.heap.size 0 (av q.2) _ rfl rfl ?_) rfl ⟨rfl, setAt_below Hb.out (Nat.le_refl _) _ _⟩
    exact readAt_setAt_same _ _ _ _ _ (by simp) Hk.out
theorem dread_any (w : World) (k : Int) (m : Nat) (h : DAt w base p n D) (hD : OkD D n m) (hm : m ≤ 100000) (hn : n ≤ 5000) :
    Calls Try.prog 28 #[.pointer (some ⟨p.B, 0, none⟩), .int .i64 k] w fun e w' => e = .returned (.tuple #[.agg (av (readD D k).1), errV (readD D k).2 k]) ∧ Below w.heap.size w w' := by
  cases hdn : D.down with
  | true => exact dread_no w k h hD.len hn (.inl hdn)
  | false =>
    cases hh : hasD D k with
    | false => exact dread_no w k h hD.len hn (.inr ⟨hdn, hh⟩)
    | true =>
      have h0 : 0 ≤ k := by
        simp only [hasD, Bool.and_eq_true, decide_eq_true_eq] at hh
        exact hh.1
      obtain ⟨j, rfl⟩ := Int.eq_ofNat_of_zero_le h0
      exact dread_yes w j m h hD hm hn hdn hh
end
end Go.Proofs.Ytjedlcfeobhjnaa
