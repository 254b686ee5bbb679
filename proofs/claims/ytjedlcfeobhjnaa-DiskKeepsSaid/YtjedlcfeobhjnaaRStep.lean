/- What step of the reference's disk computes. Conditions: the numbers are small. -/
import Derived.Test.YtjedlcfeobhjnaaRRep
set_option linter.unusedSimpArgs false
set_option linter.unusedVariables false
namespace Go.Proofs.Ytjedlcfeobhjnaa
open Go.RowKit Go.ChangeMaps

theorem take_snoc' {α : Type} (l : List α) (k : Nat) (hk : k < l.length) : l.take (k + 1) = l.take k ++ [l[k]] := by
  rw [List.take_succ_eq_append_getElem hk]
/-- The cuts so far. -/
def CutRel (L : List (Evt × Value)) (l : List Evt) (s : Int) (k : Nat) (cr : Bool) (v : Value) : Prop :=
  (evC (l.take k) s = none ∧ cr = false ∧ v = .slice none 0 0) ∨ ∃ q, q ∈ L ∧ evC (l.take k) s = some q.1.cuts ∧ cr = true ∧ v = q.2
def RStepOut (w' : World) (X : Nat → Prop) (D : DM) (cr : Bool) (v : Value) : Prop :=
  (evC D.plan (D.steps + 1) = none ∧ cr = false ∧ v = .slice none 0 0) ∨ ∃ cs, evC D.plan (D.steps + 1) = some cs ∧ cr = true ∧ RO w' X v cs.length 1 (cutI cs) ∧ cs.length ≤ 100000

theorem RStepOut.below {w w' : World} {X : Nat → Prop} {D : DM} {cr : Bool} {v : Value} (h : RStepOut w X D cr v) (hb : Below w.heap.size w w') : RStepOut w' X D cr v := by
  rcases h with h | ⟨cs, h1, h2, h3, h4⟩
  · exact .inl h
  · exact .inr ⟨cs, h1, h2, h3.below hb, h4⟩
set_option maxRecDepth 100000 in
set_option maxHeartbeats 3200000 in
theorem rstep_any (w : World) (X : Nat → Prop) (n m : Nat) (D : DM) (a b c : Value) (hR : RAt w X n D a b c) (hD : OkD D n m) (hm : m ≤ 100000) (hpl : D.plan.length ≤ 100000) :
    Calls Try.prog 47 #[.agg (rV D a b c)] w fun e w' => (∃ cr v, e = .returned (.tuple #[.agg (rV (tickD D) a b c), .bool (evF D.plan (D.steps + 1)), .bool cr, v]) ∧ RStepOut w' X D cr v) ∧ Below w.heap.size w w' := by
  obtain ⟨bl, ol, cl, ad2, ad3, c2, c3, rfl, rfl, rfl⟩ := hR.open_
  unfold rV
  obtain ⟨L, hL, hpr, hev⟩ := hR.pl
  have hLl : L.length = D.plan.length := by rw [← hL, List.length_map]
  have HR := Lib.hid hR
  have HL := Lib.hid hL
  have HLl := Lib.hid hLl
  have Hpr := Lib.hid hpr
  have Hev := Lib.hid hev
  have Hpl := Lib.hid hpl
  have s0 := hD.s0
  have s1 := hD.s1
  have hwr : IntKind.i64.wrap (D.steps + 1) = D.steps + 1 := by rw [IntKind.wrap_i64]; omega
  clear hR hL hLl hpr hev hD hpl
  go_enter Try.func47, Try.ntmps47
  go_wp2_with fail
  obtain ⟨W, hW⟩ : ∃ W, (w.alloc (.cells #[.slice (some ⟨bl, ol, none⟩) n cl, .slice ad2 D.op.length c2, .bool D.down, .int .i64 (D.steps + 1), .slice ad3 D.plan.length c3] 46)).alloc (.cells #[.slice none 0 0, .slice none 0 0, .bool false, .int .i64 0, .slice none 0 0] 46) = W := ⟨_, rfl⟩
  have HrB : Hid (readAt W w.heap.size 0 5 = some #[.slice (some ⟨bl, ol, none⟩) n cl, .slice ad2 D.op.length c2, .bool D.down, .int .i64 (D.steps + 1), .slice ad3 D.plan.length c3]) := by
    show _ = _
    rw [← hW, readAt_alloc_past _ _ _ _ _ (by simp), readAt_alloc_at _ _ _ _ _ _ _ rfl (by simp)]; rfl
  have HrC : Hid (readAt W (w.heap.size + 1) 0 5 = some #[.slice none 0 0, .slice none 0 0, .bool false, .int .i64 0, .slice none 0 0]) := by
    show _ = _
    rw [← hW, readAt_alloc_at _ _ _ _ _ _ _ (by simp) (by simp)]; rfl
  have HkC : Hid (canAt W (w.heap.size + 1) 0 5 = true) := by
    show _ = _
    rw [← hW, canAt_alloc_at _ _ _ _ _ _ (by simp) (by simp)]
  have HBW : Hid (Below w.heap.size w W) := by
    show Below _ _ _
    rw [← hW]; exact ba _ (ba _ (Below.refl _ _))
  rw [hW]
  clear hW hwr
  go_loopw [6, 7, 8, 9] (fun f cr cu i wr => ∃ k : Nat, k ≤ D.plan.length ∧ i = .int .i64 k ∧ f = .bool (evF (D.plan.take k) (D.steps + 1)) ∧ (∃ c, cr = .bool c ∧ CutRel L D.plan (D.steps + 1) k c cu) ∧ Below W.heap.size W wr) (fun _ _ _ i _ => D.plan.length - (intOf i).toNat)
  case atStart => exact ⟨0, Nat.zero_le _, rfl, rfl, ⟨false, rfl, .inl ⟨rfl, rfl, rfl⟩⟩, Below.refl _ _⟩
  case round =>
    obtain ⟨k, hk, rfl, rfl, ⟨cr, rfl, hcr⟩, hb⟩ := hrel
    have Hcr := Lib.hid hcr
    have Hb := Lib.hid hb
    have HrB2 := Lib.hid ((readAt_below hb (readAt_lt HrB.out) 0 5).trans HrB.out)
    have hpl := Hpl.out
    clear hcr hb
    by_cases hlt : k < D.plan.length
    · have hlL : k < L.length := by rw [HLl.out]; exact hlt
      obtain ⟨q, hq⟩ : ∃ q, L[k]'hlL = q := ⟨_, rfl⟩
      have hpk : D.plan[k]'hlt = q.1 := by
        have h1 : D.plan[k]? = some (L[k]'hlL).1 := by rw [← HL.out, List.getElem?_map, List.getElem?_eq_getElem hlL]; rfl
        rw [List.getElem?_eq_getElem hlt] at h1
        rw [Option.some.inj h1, hq]
      obtain ⟨pb, po, cp, hv, hc1, hc2, hrd⟩ := Hpr.out.1.at k hlt
      simp only [Value.slice.injEq, true_and] at hv
      obtain ⟨rfl, rfl⟩ := hv
      rw [flat_get ev3 3 size_ev3 L k hlL, hq] at hrd
      have hBw : Below w.heap.size w wr := HBW.out.trans (Hb.out.mono HBW.out.size)
      have hrd2 := (readAt_below hBw (readAt_lt hrd) (po + k * 3) 3).trans hrd
      have e0 : wr.cell? ⟨pb, po + k * 3, none⟩ = some (.int .i64 q.1.step) := by have h1 := readAt_cell hrd2 0 _ rfl; rwa [Nat.add_zero] at h1
      have e1 : wr.cell? ⟨pb, po + k * 3 + 1, none⟩ = some (.bool q.1.crash) := readAt_cell hrd2 1 _ rfl
      have e2 : wr.cell? ⟨pb, po + k * 3 + 2, none⟩ = some q.2 := readAt_cell hrd2 2 _ rfl
      have hqL : q ∈ L := by rw [← hq]; exact List.getElem_mem hlL
      have hf1 : evF (D.plan.take (k + 1)) (D.steps + 1) = (evF (D.plan.take k) (D.steps + 1) || (decide (q.1.step = D.steps + 1) && !q.1.crash)) := by rw [take_snoc' _ _ hlt, hpk, evF_snoc]
      have hg1 : evC (D.plan.take (k + 1)) (D.steps + 1) = if q.1.step = D.steps + 1 ∧ q.1.crash = true then some q.1.cuts else evC (D.plan.take k) (D.steps + 1) := by rw [take_snoc' _ _ hlt, hpk, evC_snoc]
      have Hf1 := Lib.hid hf1
      have Hg1 := Lib.hid hg1
      have HqL := Lib.hid hqL
      have c3' : wr.cell? ⟨w.heap.size, 3, none⟩ = some (.int .i64 (D.steps + 1)) := by have h1 := readAt_cell HrB2.out 3 _ rfl; rwa [Nat.zero_add] at h1
      have c4' : wr.cell? ⟨w.heap.size, 4, none⟩ = some (.slice (some ⟨pb, po, none⟩) D.plan.length c3) := by have h1 := readAt_cell HrB2.out 4 _ rfl; rwa [Nat.zero_add] at h1
      have hk0 : (0 : Int) ≤ (k : Int) := by omega
      have hk1 : (k : Int) < (D.plan.length : Int) := by omega
      clear hf1 hg1 hqL hrd hrd2 hBw hc1 hc2 hq hpk HrB2
      by_cases hst : q.1.step = D.steps + 1
      · have hbe : (q.1.step == D.steps + 1) = true := by simpa using hst
        cases hcrq : q.1.crash with
        | true =>
          rw [hcrq] at e1
          have Hc2 : Hid (CutRel L D.plan (D.steps + 1) (k + 1) true q.2) := .inr ⟨q, HqL.out, by rw [Hg1.out, if_pos ⟨hst, hcrq⟩], rfl, rfl⟩
          have Hf2 : Hid (evF (D.plan.take (k + 1)) (D.steps + 1) = evF (D.plan.take k) (D.steps + 1)) := by show _ = _; rw [Hf1.out, hcrq]; simp
          clear hst hcrq
          go_wp2_with fail
          refine wp_region_tr (.take 0 (.take 1 (.take 2 (.take 3 (.take 4 (.take 5 (.take 6 (.take 7 (.take 8 (.take 9 (.take 10 (.take 11 (.take 12 (.take 13 (.take 14 (.take 15 (.take 16 .done))))))))))))))))) (fun u => u = wr.drew) (by kernel_rfl) (by kernel_rfl) rfl (by kernel_rfl) rfl ?_
          have f0 : wr.drew.cell? ⟨pb, po + k * 3, none⟩ = some (.int .i64 q.1.step) := e0
          have f1 : wr.drew.cell? ⟨pb, po + k * 3 + 1, none⟩ = some (.bool true) := e1
          have f2 : wr.drew.cell? ⟨pb, po + k * 3 + 2, none⟩ = some q.2 := e2
          have f3 : wr.drew.cell? ⟨w.heap.size, 3, none⟩ = some (.int .i64 (D.steps + 1)) := c3'
          have f4 : wr.drew.cell? ⟨w.heap.size, 4, none⟩ = some (.slice (some ⟨pb, po, none⟩) D.plan.length c3) := c4'
          have HB3 : Hid (Below W.heap.size W wr.drew) := Hb.out.drew
          clear e0 e1 e2 c3' c4' Hb
          generalize wr.drew = w3 at *
          have e0 := f0
          have e1 := f1
          have e2 := f2
          have c3' := f3
          have c4' := f4
          clear f0 f1 f2 f3 f4
          repeat (first | (refine t_off rfl rfl ?_; simp only [List.getElem_toArray, List.getElem_cons_succ, List.getElem_cons_zero, Act.put, Act.eval, List.setIfInBounds_toArray, List.set_cons_zero, List.set_cons_succ, Array.getD_eq_getD_getElem?, List.getElem?_toArray, List.getElem?_cons_succ, List.getElem?_cons_zero, Option.getD_some]) | (refine t_move rfl _ rfl rfl ?_; simp only [List.getElem_toArray, List.getElem_cons_succ, List.getElem_cons_zero, Act.put, Act.eval, List.setIfInBounds_toArray, List.set_cons_zero, List.set_cons_succ, Array.getD_eq_getD_getElem?, List.getElem?_toArray, List.getElem?_cons_succ, List.getElem?_cons_zero, Option.getD_some]) | (refine t_assign rfl _ rfl rfl ?_; simp only [List.getElem_toArray, List.getElem_cons_succ, List.getElem_cons_zero, Act.put, Act.eval, List.setIfInBounds_toArray, List.set_cons_zero, List.set_cons_succ, Array.getD_eq_getD_getElem?, List.getElem?_toArray, List.getElem?_cons_succ, List.getElem?_cons_zero, Option.getD_some]) | (refine t_val rfl rfl ?_; apply Exists.intro; refine ⟨fun w' hC' => ?_, ?_⟩; (subst hC'; go_simp; (first | done | exact rfl)); simp only [List.getElem_toArray, List.getElem_cons_succ, List.getElem_cons_zero, Act.put, Act.eval, List.setIfInBounds_toArray, List.set_cons_zero, List.set_cons_succ, Array.getD_eq_getD_getElem?, List.getElem?_toArray, List.getElem?_cons_succ, List.getElem?_cons_zero, Option.getD_some]) | (refine p_off rfl rfl ?_; simp only [List.getElem_toArray, List.getElem_cons_succ, List.getElem_cons_zero, Act.put, Act.eval, List.setIfInBounds_toArray, List.set_cons_zero, List.set_cons_succ, Array.getD_eq_getD_getElem?, List.getElem?_toArray, List.getElem?_cons_succ, List.getElem?_cons_zero, Option.getD_some]) | (refine p_val rfl rfl ?_; apply Exists.intro; refine ⟨fun w' => ?_, ?_⟩; (go_simp; (first | done | exact rfl)); simp only [List.getElem_toArray, List.getElem_cons_succ, List.getElem_cons_zero, Act.put, Act.eval, List.setIfInBounds_toArray, List.set_cons_zero, List.set_cons_succ, Array.getD_eq_getD_getElem?, List.getElem?_toArray, List.getElem?_cons_succ, List.getElem?_cons_zero, Option.getD_some]))
          refine t_done ?_
          go_wp2_with fail
          clear e0 e1 e2 c3' c4'
          go_roundw
          case rel => exact ⟨k + 1, by omega, by go_num, by rw [Hf2.out], ⟨true, rfl, Hc2.out⟩, HB3.out⟩
          case measure => simp [intOf]; omega
        | false =>
          rw [hcrq] at e1
          have Hc2 : Hid (CutRel L D.plan (D.steps + 1) (k + 1) cr u8) := by
            have h1 : evC (D.plan.take (k + 1)) (D.steps + 1) = evC (D.plan.take k) (D.steps + 1) := by rw [Hg1.out, if_neg (by rw [hcrq]; simp)]
            rcases Hcr.out with ⟨h2, h3⟩ | ⟨q', h2, h3, h4⟩
            · exact .inl ⟨h1.trans h2, h3⟩
            · exact .inr ⟨q', h2, h1.trans h3, h4⟩
          have Hf2 : Hid (evF (D.plan.take (k + 1)) (D.steps + 1) = true) := by show _ = _; rw [Hf1.out, hcrq, decide_eq_true hst]; simp
          clear hst hcrq
          go_wp2_with fail
          refine wp_region_tr (.take 0 (.take 1 (.take 2 (.take 3 (.take 4 (.take 5 (.take 6 (.take 7 (.take 8 (.take 9 (.take 10 (.take 11 (.take 12 (.take 13 (.take 14 (.take 15 (.take 16 .done))))))))))))))))) (fun u => u = wr.drew) (by kernel_rfl) (by kernel_rfl) rfl (by kernel_rfl) rfl ?_
          have f0 : wr.drew.cell? ⟨pb, po + k * 3, none⟩ = some (.int .i64 q.1.step) := e0
          have f1 : wr.drew.cell? ⟨pb, po + k * 3 + 1, none⟩ = some (.bool false) := e1
          have f2 : wr.drew.cell? ⟨pb, po + k * 3 + 2, none⟩ = some q.2 := e2
          have f3 : wr.drew.cell? ⟨w.heap.size, 3, none⟩ = some (.int .i64 (D.steps + 1)) := c3'
          have f4 : wr.drew.cell? ⟨w.heap.size, 4, none⟩ = some (.slice (some ⟨pb, po, none⟩) D.plan.length c3) := c4'
          have HB3 : Hid (Below W.heap.size W wr.drew) := Hb.out.drew
          clear e0 e1 e2 c3' c4' Hb
          generalize wr.drew = w3 at *
          have e0 := f0
          have e1 := f1
          have e2 := f2
          have c3' := f3
          have c4' := f4
          clear f0 f1 f2 f3 f4
          repeat (first | (refine t_off rfl rfl ?_; simp only [List.getElem_toArray, List.getElem_cons_succ, List.getElem_cons_zero, Act.put, Act.eval, List.setIfInBounds_toArray, List.set_cons_zero, List.set_cons_succ, Array.getD_eq_getD_getElem?, List.getElem?_toArray, List.getElem?_cons_succ, List.getElem?_cons_zero, Option.getD_some]) | (refine t_move rfl _ rfl rfl ?_; simp only [List.getElem_toArray, List.getElem_cons_succ, List.getElem_cons_zero, Act.put, Act.eval, List.setIfInBounds_toArray, List.set_cons_zero, List.set_cons_succ, Array.getD_eq_getD_getElem?, List.getElem?_toArray, List.getElem?_cons_succ, List.getElem?_cons_zero, Option.getD_some]) | (refine t_assign rfl _ rfl rfl ?_; simp only [List.getElem_toArray, List.getElem_cons_succ, List.getElem_cons_zero, Act.put, Act.eval, List.setIfInBounds_toArray, List.set_cons_zero, List.set_cons_succ, Array.getD_eq_getD_getElem?, List.getElem?_toArray, List.getElem?_cons_succ, List.getElem?_cons_zero, Option.getD_some]) | (refine t_val rfl rfl ?_; apply Exists.intro; refine ⟨fun w' hC' => ?_, ?_⟩; (subst hC'; go_simp; (first | done | exact rfl)); simp only [List.getElem_toArray, List.getElem_cons_succ, List.getElem_cons_zero, Act.put, Act.eval, List.setIfInBounds_toArray, List.set_cons_zero, List.set_cons_succ, Array.getD_eq_getD_getElem?, List.getElem?_toArray, List.getElem?_cons_succ, List.getElem?_cons_zero, Option.getD_some]) | (refine p_off rfl rfl ?_; simp only [List.getElem_toArray, List.getElem_cons_succ, List.getElem_cons_zero, Act.put, Act.eval, List.setIfInBounds_toArray, List.set_cons_zero, List.set_cons_succ, Array.getD_eq_getD_getElem?, List.getElem?_toArray, List.getElem?_cons_succ, List.getElem?_cons_zero, Option.getD_some]) | (refine p_val rfl rfl ?_; apply Exists.intro; refine ⟨fun w' => ?_, ?_⟩; (go_simp; (first | done | exact rfl)); simp only [List.getElem_toArray, List.getElem_cons_succ, List.getElem_cons_zero, Act.put, Act.eval, List.setIfInBounds_toArray, List.set_cons_zero, List.set_cons_succ, Array.getD_eq_getD_getElem?, List.getElem?_toArray, List.getElem?_cons_succ, List.getElem?_cons_zero, Option.getD_some]))
          refine t_done ?_
          go_wp2_with fail
          refine wp_region_tr (.take 0 (.take 1 (.take 2 (.take 3 (.take 4 (.take 5 (.take 6 (.take 7 (.take 8 .done))))))))) (fun u => u = w3.drew) (by kernel_rfl) (by kernel_rfl) rfl (by kernel_rfl) rfl ?_
          have f0 : w3.drew.cell? ⟨pb, po + k * 3, none⟩ = some (.int .i64 q.1.step) := e0
          have f1 : w3.drew.cell? ⟨pb, po + k * 3 + 1, none⟩ = some (.bool false) := e1
          have f2 : w3.drew.cell? ⟨pb, po + k * 3 + 2, none⟩ = some q.2 := e2
          have f3 : w3.drew.cell? ⟨w.heap.size, 3, none⟩ = some (.int .i64 (D.steps + 1)) := c3'
          have f4 : w3.drew.cell? ⟨w.heap.size, 4, none⟩ = some (.slice (some ⟨pb, po, none⟩) D.plan.length c3) := c4'
          have HB4 : Hid (Below W.heap.size W w3.drew) := HB3.out.drew
          clear e0 e1 e2 c3' c4' HB3
          generalize w3.drew = w4 at *
          have e0 := f0
          have e1 := f1
          have e2 := f2
          have c3' := f3
          have c4' := f4
          clear f0 f1 f2 f3 f4
          repeat (first | (refine t_off rfl rfl ?_; simp only [List.getElem_toArray, List.getElem_cons_succ, List.getElem_cons_zero, Act.put, Act.eval, List.setIfInBounds_toArray, List.set_cons_zero, List.set_cons_succ, Array.getD_eq_getD_getElem?, List.getElem?_toArray, List.getElem?_cons_succ, List.getElem?_cons_zero, Option.getD_some]) | (refine t_move rfl _ rfl rfl ?_; simp only [List.getElem_toArray, List.getElem_cons_succ, List.getElem_cons_zero, Act.put, Act.eval, List.setIfInBounds_toArray, List.set_cons_zero, List.set_cons_succ, Array.getD_eq_getD_getElem?, List.getElem?_toArray, List.getElem?_cons_succ, List.getElem?_cons_zero, Option.getD_some]) | (refine t_assign rfl _ rfl rfl ?_; simp only [List.getElem_toArray, List.getElem_cons_succ, List.getElem_cons_zero, Act.put, Act.eval, List.setIfInBounds_toArray, List.set_cons_zero, List.set_cons_succ, Array.getD_eq_getD_getElem?, List.getElem?_toArray, List.getElem?_cons_succ, List.getElem?_cons_zero, Option.getD_some]) | (refine t_val rfl rfl ?_; apply Exists.intro; refine ⟨fun w' hC' => ?_, ?_⟩; (subst hC'; go_simp; (first | done | exact rfl)); simp only [List.getElem_toArray, List.getElem_cons_succ, List.getElem_cons_zero, Act.put, Act.eval, List.setIfInBounds_toArray, List.set_cons_zero, List.set_cons_succ, Array.getD_eq_getD_getElem?, List.getElem?_toArray, List.getElem?_cons_succ, List.getElem?_cons_zero, Option.getD_some]) | (refine p_off rfl rfl ?_; simp only [List.getElem_toArray, List.getElem_cons_succ, List.getElem_cons_zero, Act.put, Act.eval, List.setIfInBounds_toArray, List.set_cons_zero, List.set_cons_succ, Array.getD_eq_getD_getElem?, List.getElem?_toArray, List.getElem?_cons_succ, List.getElem?_cons_zero, Option.getD_some]) | (refine p_val rfl rfl ?_; apply Exists.intro; refine ⟨fun w' => ?_, ?_⟩; (go_simp; (first | done | exact rfl)); simp only [List.getElem_toArray, List.getElem_cons_succ, List.getElem_cons_zero, Act.put, Act.eval, List.setIfInBounds_toArray, List.set_cons_zero, List.set_cons_succ, Array.getD_eq_getD_getElem?, List.getElem?_toArray, List.getElem?_cons_succ, List.getElem?_cons_zero, Option.getD_some]))
          refine t_done ?_
          go_wp2_with fail
          clear e0 e1 e2 c3' c4'
          go_roundw
          case rel => exact ⟨k + 1, by omega, by go_num, by rw [Hf2.out], ⟨cr, rfl, Hc2.out⟩, HB4.out⟩
          case measure => simp [intOf]; omega
      · have hbe : (q.1.step == D.steps + 1) = false := by simpa using hst
        have Hc2 : Hid (CutRel L D.plan (D.steps + 1) (k + 1) cr u8) := by
          have h1 : evC (D.plan.take (k + 1)) (D.steps + 1) = evC (D.plan.take k) (D.steps + 1) := by rw [Hg1.out, if_neg (fun h => hst h.1)]
          rcases Hcr.out with ⟨h2, h3⟩ | ⟨q', h2, h3, h4⟩
          · exact .inl ⟨h1.trans h2, h3⟩
          · exact .inr ⟨q', h2, h1.trans h3, h4⟩
        have Hf2 : Hid (evF (D.plan.take (k + 1)) (D.steps + 1) = evF (D.plan.take k) (D.steps + 1)) := by show _ = _; rw [Hf1.out, decide_eq_false hst]; simp
        clear hst
        go_wp2_with fail
        refine wp_region_tr (.take 0 (.take 1 (.take 2 (.take 3 (.take 4 (.take 5 (.take 6 (.take 7 (.take 8 (.take 9 (.take 10 (.take 11 (.take 12 (.take 13 (.take 14 (.take 15 (.take 16 .done))))))))))))))))) (fun u => u = wr.drew) (by kernel_rfl) (by kernel_rfl) rfl (by kernel_rfl) rfl ?_
        have f0 : wr.drew.cell? ⟨pb, po + k * 3, none⟩ = some (.int .i64 q.1.step) := e0
        have f1 : wr.drew.cell? ⟨pb, po + k * 3 + 1, none⟩ = some (.bool q.1.crash) := e1
        have f2 : wr.drew.cell? ⟨pb, po + k * 3 + 2, none⟩ = some q.2 := e2
        have f3 : wr.drew.cell? ⟨w.heap.size, 3, none⟩ = some (.int .i64 (D.steps + 1)) := c3'
        have f4 : wr.drew.cell? ⟨w.heap.size, 4, none⟩ = some (.slice (some ⟨pb, po, none⟩) D.plan.length c3) := c4'
        have HB3 : Hid (Below W.heap.size W wr.drew) := Hb.out.drew
        clear e0 e1 e2 c3' c4' Hb
        generalize wr.drew = w3 at *
        have e0 := f0
        have e1 := f1
        have e2 := f2
        have c3' := f3
        have c4' := f4
        clear f0 f1 f2 f3 f4
        repeat (first | (refine t_off rfl rfl ?_; simp only [List.getElem_toArray, List.getElem_cons_succ, List.getElem_cons_zero, Act.put, Act.eval, List.setIfInBounds_toArray, List.set_cons_zero, List.set_cons_succ, Array.getD_eq_getD_getElem?, List.getElem?_toArray, List.getElem?_cons_succ, List.getElem?_cons_zero, Option.getD_some]) | (refine t_move rfl _ rfl rfl ?_; simp only [List.getElem_toArray, List.getElem_cons_succ, List.getElem_cons_zero, Act.put, Act.eval, List.setIfInBounds_toArray, List.set_cons_zero, List.set_cons_succ, Array.getD_eq_getD_getElem?, List.getElem?_toArray, List.getElem?_cons_succ, List.getElem?_cons_zero, Option.getD_some]) | (refine t_assign rfl _ rfl rfl ?_; simp only [List.getElem_toArray, List.getElem_cons_succ, List.getElem_cons_zero, Act.put, Act.eval, List.setIfInBounds_toArray, List.set_cons_zero, List.set_cons_succ, Array.getD_eq_getD_getElem?, List.getElem?_toArray, List.getElem?_cons_succ, List.getElem?_cons_zero, Option.getD_some]) | (refine t_val rfl rfl ?_; apply Exists.intro; refine ⟨fun w' hC' => ?_, ?_⟩; (subst hC'; go_simp; (first | done | exact rfl)); simp only [List.getElem_toArray, List.getElem_cons_succ, List.getElem_cons_zero, Act.put, Act.eval, List.setIfInBounds_toArray, List.set_cons_zero, List.set_cons_succ, Array.getD_eq_getD_getElem?, List.getElem?_toArray, List.getElem?_cons_succ, List.getElem?_cons_zero, Option.getD_some]) | (refine p_off rfl rfl ?_; simp only [List.getElem_toArray, List.getElem_cons_succ, List.getElem_cons_zero, Act.put, Act.eval, List.setIfInBounds_toArray, List.set_cons_zero, List.set_cons_succ, Array.getD_eq_getD_getElem?, List.getElem?_toArray, List.getElem?_cons_succ, List.getElem?_cons_zero, Option.getD_some]) | (refine p_val rfl rfl ?_; apply Exists.intro; refine ⟨fun w' => ?_, ?_⟩; (go_simp; (first | done | exact rfl)); simp only [List.getElem_toArray, List.getElem_cons_succ, List.getElem_cons_zero, Act.put, Act.eval, List.setIfInBounds_toArray, List.set_cons_zero, List.set_cons_succ, Array.getD_eq_getD_getElem?, List.getElem?_toArray, List.getElem?_cons_succ, List.getElem?_cons_zero, Option.getD_some]))
        refine t_done ?_
        go_wp2_with fail
        refine wp_region_tr (.take 0 (.take 1 (.take 2 (.take 3 (.take 4 (.take 5 (.take 6 (.take 7 (.take 8 .done))))))))) (fun u => u = w3.drew) (by kernel_rfl) (by kernel_rfl) rfl (by kernel_rfl) rfl ?_
        have f0 : w3.drew.cell? ⟨pb, po + k * 3, none⟩ = some (.int .i64 q.1.step) := e0
        have f1 : w3.drew.cell? ⟨pb, po + k * 3 + 1, none⟩ = some (.bool q.1.crash) := e1
        have f2 : w3.drew.cell? ⟨pb, po + k * 3 + 2, none⟩ = some q.2 := e2
        have f3 : w3.drew.cell? ⟨w.heap.size, 3, none⟩ = some (.int .i64 (D.steps + 1)) := c3'
        have f4 : w3.drew.cell? ⟨w.heap.size, 4, none⟩ = some (.slice (some ⟨pb, po, none⟩) D.plan.length c3) := c4'
        have HB4 : Hid (Below W.heap.size W w3.drew) := HB3.out.drew
        clear e0 e1 e2 c3' c4' HB3
        generalize w3.drew = w4 at *
        have e0 := f0
        have e1 := f1
        have e2 := f2
        have c3' := f3
        have c4' := f4
        clear f0 f1 f2 f3 f4
        repeat (first | (refine t_off rfl rfl ?_; simp only [List.getElem_toArray, List.getElem_cons_succ, List.getElem_cons_zero, Act.put, Act.eval, List.setIfInBounds_toArray, List.set_cons_zero, List.set_cons_succ, Array.getD_eq_getD_getElem?, List.getElem?_toArray, List.getElem?_cons_succ, List.getElem?_cons_zero, Option.getD_some]) | (refine t_move rfl _ rfl rfl ?_; simp only [List.getElem_toArray, List.getElem_cons_succ, List.getElem_cons_zero, Act.put, Act.eval, List.setIfInBounds_toArray, List.set_cons_zero, List.set_cons_succ, Array.getD_eq_getD_getElem?, List.getElem?_toArray, List.getElem?_cons_succ, List.getElem?_cons_zero, Option.getD_some]) | (refine t_assign rfl _ rfl rfl ?_; simp only [List.getElem_toArray, List.getElem_cons_succ, List.getElem_cons_zero, Act.put, Act.eval, List.setIfInBounds_toArray, List.set_cons_zero, List.set_cons_succ, Array.getD_eq_getD_getElem?, List.getElem?_toArray, List.getElem?_cons_succ, List.getElem?_cons_zero, Option.getD_some]) | (refine t_val rfl rfl ?_; apply Exists.intro; refine ⟨fun w' hC' => ?_, ?_⟩; (subst hC'; go_simp; (first | done | exact rfl)); simp only [List.getElem_toArray, List.getElem_cons_succ, List.getElem_cons_zero, Act.put, Act.eval, List.setIfInBounds_toArray, List.set_cons_zero, List.set_cons_succ, Array.getD_eq_getD_getElem?, List.getElem?_toArray, List.getElem?_cons_succ, List.getElem?_cons_zero, Option.getD_some]) | (refine p_off rfl rfl ?_; simp only [List.getElem_toArray, List.getElem_cons_succ, List.getElem_cons_zero, Act.put, Act.eval, List.setIfInBounds_toArray, List.set_cons_zero, List.set_cons_succ, Array.getD_eq_getD_getElem?, List.getElem?_toArray, List.getElem?_cons_succ, List.getElem?_cons_zero, Option.getD_some]) | (refine p_val rfl rfl ?_; apply Exists.intro; refine ⟨fun w' => ?_, ?_⟩; (go_simp; (first | done | exact rfl)); simp only [List.getElem_toArray, List.getElem_cons_succ, List.getElem_cons_zero, Act.put, Act.eval, List.setIfInBounds_toArray, List.set_cons_zero, List.set_cons_succ, Array.getD_eq_getD_getElem?, List.getElem?_toArray, List.getElem?_cons_succ, List.getElem?_cons_zero, Option.getD_some]))
        refine t_done ?_
        go_wp2_with fail
        clear e0 e1 e2 c3' c4'
        go_roundw
        case rel => exact ⟨k + 1, by omega, by go_num, by rw [Hf2.out], ⟨cr, rfl, Hc2.out⟩, HB4.out⟩
        case measure => simp [intOf]; omega
    · obtain rfl : k = D.plan.length := by omega
      have e1 : D.plan.take D.plan.length = D.plan := List.take_length
      have Hbw : Hid (Below w.heap.size w wr) := HBW.out.trans (Hb.out.mono HBW.out.size)
      have HC : Hid (RStepOut w X D cr u8) := by
        have h0 := Hcr.out
        unfold CutRel at h0
        rw [e1] at h0
        rcases h0 with ⟨h2, h3, h4⟩ | ⟨q', h2, h3, h4, h5⟩
        · exact .inl ⟨h2, h3, h4⟩
        · have hq := Hev.out q' h2
          exact .inr ⟨q'.1.cuts, h3, h4, by rw [h5]; exact hq.cuts, hq.few⟩
      rw [e1]
      have hcB : ∀ i v, #[Value.slice (some ⟨bl, ol, none⟩) n cl, .slice ad2 D.op.length c2, .bool D.down, .int .i64 (D.steps + 1), .slice ad3 D.plan.length c3][i]? = some v → wr.cell? ⟨w.heap.size, i, none⟩ = some v := fun i v hv => by have h1 := readAt_cell HrB2.out i v hv; rwa [Nat.zero_add] at h1
      have hrC := (readAt_below Hb.out (readAt_lt HrC.out) 0 5).trans HrC.out
      have hkC := (canAt_below Hb.out (readAt_lt HrC.out) 0 5).trans HkC.out
      have hcC : ∀ i v, #[Value.slice none 0 0, .slice none 0 0, .bool false, .int .i64 0, .slice none 0 0][i]? = some v → wr.cell? ⟨w.heap.size + 1, i, none⟩ = some v := fun i v hv => by have h1 := readAt_cell hrC i v hv; rwa [Nat.zero_add] at h1
      have hfC : ∀ i, wr.frozen? ⟨w.heap.size + 1, i, none⟩ = false := fun i => by have h1 := canAt_cell hkC i; rwa [Nat.zero_add] at h1
      have b0 := hcB 0 _ rfl
      have b1 := hcB 1 _ rfl
      have b2 := hcB 2 _ rfl
      have b3 := hcB 3 _ rfl
      have b4 := hcB 4 _ rfl
      have d0 := hcC 0 _ rfl
      have d1 := hcC 1 _ rfl
      have d2 := hcC 2 _ rfl
      have d3 := hcC 3 _ rfl
      have d4 := hcC 4 _ rfl
      have f0 := hfC 0
      have f1 := hfC 1
      have f2 := hfC 2
      have f3 := hfC 3
      have f4 := hfC 4
      clear hcB hcC hfC hrC hkC e1
      go_wp2
      have l1 : Loc X w.heap.size 2 (w.heap.size + 1) := .inr ⟨by omega, by omega⟩
      refine bodyPost_ret (v := .tuple #[.agg (rV (tickD D) (.slice (some ⟨bl, ol, none⟩) n cl) (.slice ad2 D.op.length c2) (.slice ad3 D.plan.length c3)), .bool (evF D.plan (D.steps + 1)), .bool cr, u8]) (by simp [results, Try.results47, go_sem, b0, b1, b2, b3, b4, d0, d1, d2, d3, d4, rV, tickD]) rfl ⟨⟨cr, u8, rfl, HC.out.below ?_⟩, ?_⟩
      all_goals exact (((((Hbw.out.setCell (p := ⟨w.heap.size + 1, 0, none⟩) (Nat.le_succ _) _).setCell (p := ⟨w.heap.size + 1, 1, none⟩) (Nat.le_succ _) _).setCell (p := ⟨w.heap.size + 1, 2, none⟩) (Nat.le_succ _) _).setCell (p := ⟨w.heap.size + 1, 3, none⟩) (Nat.le_succ _) _).setCell (p := ⟨w.heap.size + 1, 4, none⟩) (Nat.le_succ _) _)
end Go.Proofs.Ytjedlcfeobhjnaa
