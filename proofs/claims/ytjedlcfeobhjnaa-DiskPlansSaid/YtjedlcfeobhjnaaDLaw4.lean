/- The law DiskPlans returns true. Conditions: the arguments read as operations. -/
import Derived.Test.YtjedlcfeobhjnaaPlay
import Derived.Test.YtjedlcfeobhjnaaState
import Derived.Test.YtjedlcfeobhjnaaRNew
set_option linter.unusedSimpArgs false
set_option linter.unusedVariables false
namespace Go.Proofs.Ytjedlcfeobhjnaa
open Go.RowKit Go.ChangeMaps

theorem DAt.forget {w : World} {base n : Nat} {p : DP} {D : DM} (h : DAt w base p n D) (l : List Evt) (hf : ∀ k, D.steps < k → evF D.plan k = evF l k) (hc : ∀ k, D.steps < k → evC D.plan k = evC l k) : DAt w base p n { D with plan := l } := by
  obtain ⟨M, hM, h1, h2⟩ := h.fa
  obtain ⟨M', hM', h3⟩ := h.cr
  refine ⟨h.ok, h.r, h.k, h.sr, h.sk, h.sc, h.op, h.la, ⟨M, hM, fun k hk => (h1 k hk).trans (hf k hk), h2⟩, ⟨M', hM', fun k hk => ?_⟩, h.lt⟩
  have := h3 k hk
  unfold CutOk at this ⊢
  rw [hc k hk] at this
  exact this
/-- A disk without a plan, one step planned to fail. -/
def failD (D : DM) : DM := { D with plan := [⟨D.steps + 1, false, []⟩] }
theorem plan_failD (D : DM) (h : D.plan = []) : planD D 1 false [] = failD D := by unfold planD failD; rw [if_neg (by omega), h]; rfl
theorem write_failD (D : DM) (k : Int) (x : Sec) (hd : D.down = false) : writeD (failD D) k x = (tickD (failD D), 11) := by
  unfold writeD
  rw [if_neg (by show ¬ D.down = true; rw [hd]; decide)]
  have h1 : evC (failD D).plan ((failD D).steps + 1) = none := by simp [failD, evC]
  have h2 : evF (failD D).plan ((failD D).steps + 1) = true := by simp [failD, evF]
  rw [h1]; simp only; rw [if_pos h2]
theorem sync_failD (D : DM) (hd : D.down = false) : syncD (failD D) = (tickD (failD D), 11) := by
  unfold syncD
  rw [if_neg (by show ¬ D.down = true; rw [hd]; decide)]
  have h1 : evC (failD D).plan ((failD D).steps + 1) = none := by simp [failD, evC]
  have h2 : evF (failD D).plan ((failD D).steps + 1) = true := by simp [failD, evF]
  rw [h1]; simp only; rw [if_pos h2]
theorem write_down (D : DM) (k : Int) (x : Sec) (hd : D.down = true) : writeD D k x = (D, 12) := by unfold writeD; rw [if_pos hd]
theorem sync_down (D : DM) (hd : D.down = true) : syncD D = (D, 12) := by unfold syncD; rw [if_pos hd]
theorem plan_nil_play (D : DM) (q : OpM) (h : D.plan = []) (h3 : q.kind ≠ 3) (h4 : q.kind ≠ 4) : (playD D q).plan = [] := by
  have ha : ∀ (D : DM) k x, (writeD D k x).1.plan = D.plan := by
    intro D k x; unfold writeD; split; · rfl
    split
    · simp [crashD]
    · split; · rfl
      split <;> simp
  have hs : ∀ (D : DM), (syncD D).1.plan = D.plan := by
    intro D; unfold syncD; split; · rfl
    split
    · simp [crashD]
    · split <;> simp [flushD]
  unfold playD
  rw [if_neg h3, if_neg h4]
  repeat' split
  all_goals first | exact h | (rw [ha]; exact h) | (rw [hs]; exact h)
theorem DAt.failed {w : World} {base n : Nat} {p : DP} {D : DM} (h : DAt w base p n (tickD (failD D))) (hp : D.plan = []) : DAt w base p n (tickD D) := by
  have h1 := h.forget [] (fun k hk => ?_) (fun k hk => ?_)
  · have e : ({ tickD (failD D) with plan := [] } : DM) = tickD D := by
      obtain ⟨st, op, down, steps, plan⟩ := D
      simp only at hp; subst hp; rfl
    rw [e] at h1; exact h1
  · have h2 : D.steps + 1 < k := hk
    have : ¬ (D.steps + 1 = k) := by omega
    simp [tickD, failD, evF, this]
  · have h2 : D.steps + 1 < k := hk
    have : ¬ (D.steps + 1 = k) := by omega
    simp [tickD, failD, evC, this]
def Loop5 (w0 wr : World) (PB bob bw m : Nat) (O : Array Value) : Prop := ∃ p D a b c, p.B = PB ∧ LP w0 wr p bw 6 D a b c m ∧ D.plan = [] ∧ readAt wr bob 0 4 = some O ∧ ¬ p.has bob ∧ bob ≠ bw

theorem run_SliceOp1 (w : World) (a b c : Int) (ad : Option Addr) (l cp : Nat) : (Instr.buildSlice 22 1 #[(0, .agg #[.int .i64 a, .int .i64 b, .int .u8 c, .slice ad l cp])]).run Try.prog w = .ok (.slice (some ⟨w.heap.size, 0, none⟩) 1 1) (w.alloc (.cells #[.int .i64 a, .int .i64 b, .int .u8 c, .slice ad l cp] 30)) := by
  obtain ⟨i, hi, hz, hs, hb⟩ := info_parts (show (Try.prog.info? 30).map (fun i => (i.zero, i.size, i.bytes)) = some (some (.agg #[.int .i64 0, .int .i64 0, .int .u8 0, .slice none 0 0]), 4, 48) by kernel_rfl)
  exact run_buildSlice_one w _ _ i _ (.agg #[.int .i64 a, .int .i64 b, .int .u8 c, .slice ad l cp]) Try.underlying22 hi hz (by simp [hs, Value.cells]) (by simp [Value.cells]) (by simp [Value.cells]) (by simp [Value.cells])

set_option maxRecDepth 100000 in
set_option maxHeartbeats 6400000 in
theorem law_dpl_1 (v : Value) (L : List (OpM × Value)) (at_ : Int) (byte : UInt8) (cuts : List Int) (ado : Option Addr) (co : Nat) (w : World) (hL : OpsR w v L) (hf : fewB L = true)
    (hz : OpOk w (⟨1, at_, byte, cuts⟩, .slice ado cuts.length co)) (hfz : fewB [((⟨1, at_, byte, cuts⟩ : OpM), Value.slice ado cuts.length co)] = true) :
    Calls Try.prog 7 #[v, .agg #[.int .i64 1, .int .i64 at_, .int .u8 (byte.toNat : Int), .slice ado cuts.length co]] w fun e w' => e = .returned (.bool true) ∧ Below w.heap.size w w' := by
  have hfew : L.length ≤ 100 := by
    unfold fewB at hf
    simp only [Bool.and_eq_true, decide_eq_true_eq] at hf
    exact hf.2
  obtain ⟨adl, cl, rfl, _⟩ := hL.r
  have HL := Lib.hid hL
  have Hfew := Lib.hid hfew
  have HF := Lib.hid hf
  have Hz := Lib.hid hz
  have HFz := Lib.hid hfz
  have HLlt : Hid (∀ g, (Value.slice adl L.length cl).ownBlock = some g → 0 < L.length → g < w.heap.size) := fun g hg h0 => HL.out.r.lt h0 g hg
  clear hL hfew hz hfz
  go_enter Try.func7, Try.ntmps7
  go_wp2_with fail
  have HB0 : Hid (Below w.heap.size w (w.alloc (.cells #[.int .i64 1, .int .i64 at_, .int .u8 (byte.toNat : Int), .slice ado cuts.length co] 30))) := ba _ (Below.refl _ _)
  have HO0 : Hid (readAt (w.alloc (.cells #[.int .i64 1, .int .i64 at_, .int .u8 (byte.toNat : Int), .slice ado cuts.length co] 30)) w.heap.size 0 4 = some #[.int .i64 1, .int .i64 at_, .int .u8 (byte.toNat : Int), .slice ado cuts.length co]) := by unfold Hid; rw [readAt_alloc_at _ _ _ _ _ _ _ rfl (by simp)]; rfl
  generalize w.alloc (.cells #[.int .i64 1, .int .i64 at_, .int .u8 (byte.toNat : Int), .slice ado cuts.length co] 30) = w0 at *
  refine (dawake_any w0).mono ?_
  rintro _ w1 ⟨rfl, hb1⟩
  have HO1 := Lib.hid ((readAt_below hb1 (readAt_lt HO0.out) 0 4).trans HO0.out)
  have HB1 : Hid (Below w.heap.size w w1) := HB0.out.trans (hb1.mono HB0.out.size)
  clear hb1 HO0 HB0
  go_wp2_with fail
  have hc := few_any _ L w1 (HL.out.below HB1.out)
  rw [hf] at hc
  refine hc.mono ?_
  rintro _ w2 ⟨rfl, rfl⟩
  clear hc hf
  have hcO := fun i v hv => readAt_cell HO1.out i v hv
  simp only [Nat.zero_add] at hcO
  have o0 := hcO 0 (.int .i64 1) rfl
  have o1 := hcO 1 (.int .i64 at_) rfl
  have o2 := hcO 2 (.int .u8 (byte.toNat : Int)) rfl
  have o3 := hcO 3 (.slice ado cuts.length co) rfl
  clear hcO
  have hbo := run_SliceOp1 w1 1 at_ (byte.toNat : Int) ado cuts.length co
  go_wp2_with fail
  clear o0 o1 o2 o3 hbo
  have hbA := ba (.cells #[.int .i64 1, .int .i64 at_, .int .u8 (byte.toNat : Int), .slice ado cuts.length co] 30) (Below.refl w1.heap.size w1)
  have hlz : OpsR (w1.alloc (.cells #[.int .i64 1, .int .i64 at_, .int .u8 (byte.toNat : Int), .slice ado cuts.length co] 30)) (.slice (some ⟨w1.heap.size, 0, none⟩) 1 1) [(⟨1, at_, byte, cuts⟩, .slice ado cuts.length co)] :=
    ⟨⟨_, 1, rfl, Nat.le_refl _, by simp [maxLen], by simp [flat, oc], fun h => (by cases h), fun _ => ⟨w1.heap.size, 0, rfl, by (rw [readAt_alloc_at _ _ _ _ _ _ _ rfl (by simp)]; rfl)⟩⟩, fun q hq => by
      obtain rfl : q = (⟨1, at_, byte, cuts⟩, .slice ado cuts.length co) := by simpa using hq
      exact ⟨Hz.out.k, Hz.out.a, (Hz.out.c.below HB1.out).below hbA, Hz.out.i⟩⟩
  have HO2 : Hid (readAt (w1.alloc (.cells #[.int .i64 1, .int .i64 at_, .int .u8 (byte.toNat : Int), .slice ado cuts.length co] 30)) w.heap.size 0 4 = some #[.int .i64 1, .int .i64 at_, .int .u8 (byte.toNat : Int), .slice ado cuts.length co]) := (readAt_below hbA (readAt_lt HO1.out) 0 4).trans HO1.out
  have HB2 : Hid (Below w.heap.size w (w1.alloc (.cells #[.int .i64 1, .int .i64 at_, .int .u8 (byte.toNat : Int), .slice ado cuts.length co] 30))) := HB1.out.trans (hbA.mono HB1.out.size)
  have hc := few_any _ _ _ hlz
  rw [HFz.out] at hc
  refine hc.mono ?_
  rintro _ w2 ⟨rfl, rfl⟩
  clear hc hbA hlz HO1 HB1
  generalize w1.alloc (.cells #[.int .i64 1, .int .i64 at_, .int .u8 (byte.toNat : Int), .slice ado cuts.length co] 30) = w2 at *
  have hcO := fun i v hv => readAt_cell HO2.out i v hv
  simp only [Nat.zero_add] at hcO
  have o0 := hcO 0 (.int .i64 1) rfl
  have o1 := hcO 1 (.int .i64 at_) rfl
  have o2 := hcO 2 (.int .u8 (byte.toNat : Int)) rfl
  have o3 := hcO 3 (.slice ado cuts.length co) rfl
  clear hcO
  go_wp2_with fail
  clear o0 o1 o2 o3
  refine (new_any w2 6 (by omega)).mono ?_
  rintro _ w3 ⟨⟨p, rfl, hA⟩, hb3⟩
  have HA3 : Hid (DAt w3 w2.heap.size p 6 (newD 6)) := hA
  have HO3 := Lib.hid ((readAt_below hb3 (readAt_lt HO2.out) 0 4).trans HO2.out)
  have HB3 : Hid (Below w.heap.size w w3) := HB2.out.trans (hb3.mono HB2.out.size)
  have HA3b : Hid (DAt w3 w.heap.size p 6 (newD 6)) := HA3.out.base HB2.out.size
  have HbobP : Hid (¬ p.has w.heap.size) := fun hx => by
    have h1 := HA3.out.ok.lo _ hx
    have h2 := readAt_lt HO2.out
    omega
  clear hA hb3 HA3 HO2 HB2
  go_wp2_with fail
  refine (rdnew_any w3 p.has HA3b.out.has_lt 6 (by omega)).mono ?_
  rintro _ w4 ⟨⟨v, rfl, a, b, c, rfl, hR⟩, hb4⟩
  obtain ⟨bl, ol, cl1, ad2, ad3, c2, c3, rfl, rfl, rfl⟩ := hR.open_
  have HA4 : Hid (DAt w4 w.heap.size p (6 : Int).toNat (newD 6)) := HA3b.out.below hb4
  have HO4 := Lib.hid ((readAt_below hb4 (readAt_lt HO3.out) 0 4).trans HO3.out)
  have HR4 := Lib.hid hR
  have HB4 : Hid (Below w.heap.size w w4) := HB3.out.trans (hb4.mono HB3.out.size)
  clear hR hb4 HA3b HB3 HO3
  unfold rV
  go_wp2_with fail
  have hl0 := LP.start HA4.out HR4.out HB4.out (by omega)
  have hb5 := ba (.cells #[.slice (some ⟨bl, ol, none⟩) (6 : Int).toNat cl1, .slice ad2 (newD 6).op.length c2, .bool (newD 6).down, .int .i64 (newD 6).steps, .slice ad3 (newD 6).plan.length c3] 46) (Below.refl w4.heap.size w4)
  have HLP0 : Hid (Loop5 w _ p.B w.heap.size w4.heap.size 0 #[.int .i64 1, .int .i64 at_, .int .u8 (byte.toNat : Int), .slice ado cuts.length co]) := ⟨p, _, _, _, _, rfl, hl0, rfl, (readAt_below hb5 (readAt_lt HO4.out) 0 4).trans HO4.out, HbobP.out, fun e => by have := readAt_lt HO4.out; omega⟩
  clear hl0 hb5 HA4 HR4 HB4 HO4 HbobP
  generalize p.B = PB at *
  generalize w4.heap.size = bw at *
  have HN : Hid (6 ≤ 5000) := by (show _ ≤ _; omega)
  go_loopw [7] (fun i wr => ∃ j : Nat, j ≤ L.length ∧ i = .int .i64 j ∧ Loop5 w wr PB w.heap.size bw (2 * j) #[.int .i64 1, .int .i64 at_, .int .u8 (byte.toNat : Int), .slice ado cuts.length co]) (fun i _ => L.length - (intOf i).toNat)
  case atStart => exact ⟨0, Nat.zero_le _, rfl, HLP0.out⟩
  case round =>
    obtain ⟨j, hj, rfl, p, D, a, b, c, rfl, hlp, hpn, hro, hbo, hbb⟩ := hrel
    have HLP := Lib.hid hlp
    have Hpn := Lib.hid hpn
    have Hro := Lib.hid hro
    have Hbo := Lib.hid hbo
    have Hbb := Lib.hid hbb
    have hfew := Hfew.out
    clear hlp HLP0 hpn hro hbo hbb
    by_cases hlt : j < L.length
    · by_cases hs34 : (L[j]'hlt).1.kind = 3 ∨ (L[j]'hlt).1.kind = 4
      · have hLr := HL.out.below HLP.out.both.bel
        obtain ⟨bo, oo, co, ad2o, cap2o, hv, _, _, hr, _⟩ := hLr.cell j hlt
        simp only [Value.slice.injEq, true_and] at hv
        obtain ⟨rfl, rfl⟩ := hv
        have q0 : wr.cell? ⟨bo, oo + j * 4, none⟩ = some (.int .i64 (L[j]'hlt).1.kind) := by (have h1 := readAt_cell hr 0 _ rfl; rwa [Nat.add_zero] at h1)
        have hk0 : (0 : Int) ≤ (j : Int) := by omega
        have hk1 : (j : Int) < (L.length : Int) := by omega
        have Hrel : Hid (Loop5 w wr p.B w.heap.size bw (2 * (j + 1)) #[.int .i64 1, .int .i64 at_, .int .u8 (byte.toNat : Int), .slice ado cuts.length co]) := ⟨p, D, _, _, _, rfl, HLP.out.more (by omega), Hpn.out, Hro.out, Hbo.out, Hbb.out⟩
        clear hr hLr HLP Hpn Hro Hbo Hbb
        generalize (L[j]'hlt).1.kind = kd at *
        rcases hs34 with rfl | rfl
        · go_wp2
          go_round
          case rel => exact ⟨j + 1, by omega, by go_num, Hrel.out⟩
          case measure => simp [intOf]; omega
        · go_wp2
          go_round
          case rel => exact ⟨j + 1, by omega, by go_num, Hrel.out⟩
          case measure => simp [intOf]; omega
      · have Hs34 := Lib.hid hs34
        clear hs34
        obtain ⟨z, hz⟩ : ∃ z, L[j]'hlt = z := ⟨_, rfl⟩
        have hLr := HL.out.below HLP.out.both.bel
        have Hzok : Hid (OpOk w z) := HL.out.o _ (hz ▸ List.getElem_mem hlt)
        have HzF : Hid (okO z.1 = true) := few_at HF.out (hz ▸ List.getElem_mem hlt)
        obtain ⟨bo, oo, co, ad2o, cap2o, hv, _, _, hr, _⟩ := hLr.cell j hlt
        simp only [Value.slice.injEq, true_and] at hv
        obtain ⟨rfl, rfl⟩ := hv
        rw [hz] at hr
        have HrO := Lib.hid hr
        have hk0 : (0 : Int) ≤ (j : Int) := by omega
        have hk1 : (j : Int) < (L.length : Int) := by omega
        obtain ⟨bl, ol, cl1, ad2, ad3, c2, c3, rfl, rfl, rfl⟩ := HLP.out.both.r.open_
        have HS : Hid (∀ u : World, (readAt u bw 0 5 = some #[.slice (some ⟨bl, ol, none⟩) 6 cl1, .slice ad2 D.op.length c2, .bool D.down, .int .i64 D.steps, .slice ad3 D.plan.length c3] ∧ readAt u bo (oo + j * 4) 4 = some (oc z)) → u.cell? ⟨bw, 0, none⟩ = some (.slice (some ⟨bl, ol, none⟩) 6 cl1) ∧ u.cell? ⟨bw, 1, none⟩ = some (.slice ad2 D.op.length c2) ∧ u.cell? ⟨bw, 2, none⟩ = some (.bool D.down) ∧ u.cell? ⟨bw, 3, none⟩ = some (.int .i64 D.steps) ∧ u.cell? ⟨bw, 4, none⟩ = some (.slice ad3 D.plan.length c3) ∧
            u.cell? ⟨bo, oo + j * 4, none⟩ = some (.int .i64 z.1.kind) ∧ u.cell? ⟨bo, oo + j * 4 + 1, none⟩ = some (.int .i64 z.1.at_) ∧ u.cell? ⟨bo, oo + j * 4 + 2, none⟩ = some (.int .u8 (z.1.byte.toNat : Int)) ∧ u.cell? ⟨bo, oo + j * 4 + 3, none⟩ = some z.2) := fun u hu => by
          have hc := fun i v hv => readAt_cell hu.1 i v hv
          have hd := fun i v hv => readAt_cell hu.2 i v hv
          simp only [Nat.zero_add] at hc
          exact ⟨hc 0 _ rfl, hc 1 _ rfl, hc 2 _ rfl, hc 3 _ rfl, hc 4 _ rfl, hd 0 _ rfl, hd 1 _ rfl, hd 2 _ rfl, hd 3 _ rfl⟩
        have hz0 := hz
        clear hr hLr hz
        have H3 : Hid (¬ z.1.kind = 3) := fun h => Hs34.out (.inl (by rw [hz0]; exact h))
        have H4 : Hid (¬ z.1.kind = 4) := fun h => Hs34.out (.inr (by rw [hz0]; exact h))
        have d3 : (z.1.kind == 3) = false := by have := H3.out; simpa using this
        have d4 : (z.1.kind == 4) = false := by have := H4.out; simpa using this
        have q0 : wr.cell? ⟨bo, oo + j * 4, none⟩ = some (.int .i64 z.1.kind) := by (have h1 := readAt_cell HrO.out 0 _ rfl; rwa [Nat.add_zero] at h1)
        clear hz0
        try clear hz0
        go_upto_region 11 with fail
        clear q0 d3 d4
        refine wp_region_tr (.take 0 (.take 1 (.take 2 (.take 3 (.take 4 (.take 5 (.run 6 (.take 7 (.take 8 (.pure 9 (.brk 10 .done))))))))))) (fun u => readAt u bw 0 5 = some #[.slice (some ⟨bl, ol, none⟩) 6 cl1, .slice ad2 D.op.length c2, .bool D.down, .int .i64 D.steps, .slice ad3 D.plan.length c3] ∧ readAt u bo (oo + j * 4) 4 = some (oc z)) (by kernel_rfl) (by kernel_rfl) rfl (by kernel_rfl) ⟨HLP.out.box.r, HrO.out⟩ ?_
        have hb := (Below.refl wr.heap.size wr).drew
        have HLP1 := Lib.hid (HLP.out.below hb)
        have HrO1 := Lib.hid ((readAt_below hb (readAt_lt HrO.out) _ _).trans HrO.out)
        have Hbd := Lib.hid hb
        clear hb HLP HrO
        generalize wr.drew = wd at *
        repeat (first | (refine t_off rfl rfl ?_; simp only [List.getElem_toArray, List.getElem_cons_succ, List.getElem_cons_zero, Act.put, Act.eval, List.setIfInBounds_toArray, List.set_cons_zero, List.set_cons_succ, Array.getD_eq_getD_getElem?, List.getElem?_toArray, List.getElem?_cons_succ, List.getElem?_cons_zero, Option.getD_some]) | (refine t_move rfl _ rfl rfl ?_; simp only [List.getElem_toArray, List.getElem_cons_succ, List.getElem_cons_zero, Act.put, Act.eval, List.setIfInBounds_toArray, List.set_cons_zero, List.set_cons_succ, Array.getD_eq_getD_getElem?, List.getElem?_toArray, List.getElem?_cons_succ, List.getElem?_cons_zero, Option.getD_some]) | (refine t_assign rfl _ rfl rfl ?_; simp only [List.getElem_toArray, List.getElem_cons_succ, List.getElem_cons_zero, Act.put, Act.eval, List.setIfInBounds_toArray, List.set_cons_zero, List.set_cons_succ, Array.getD_eq_getD_getElem?, List.getElem?_toArray, List.getElem?_cons_succ, List.getElem?_cons_zero, Option.getD_some]) | (refine t_val rfl rfl ?_; apply Exists.intro; refine ⟨fun w' hC' => ?_, ?_⟩; (obtain ⟨b0, b1, b2, b3, b4, q0, q1, q2, q3⟩ := HS.out w' hC'; go_simp; (first | done | exact rfl)); simp only [List.getElem_toArray, List.getElem_cons_succ, List.getElem_cons_zero, Act.put, Act.eval, List.setIfInBounds_toArray, List.set_cons_zero, List.set_cons_succ, Array.getD_eq_getD_getElem?, List.getElem?_toArray, List.getElem?_cons_succ, List.getElem?_cons_zero, Option.getD_some]) | (refine p_off rfl rfl ?_; simp only [List.getElem_toArray, List.getElem_cons_succ, List.getElem_cons_zero, Act.put, Act.eval, List.setIfInBounds_toArray, List.set_cons_zero, List.set_cons_succ, Array.getD_eq_getD_getElem?, List.getElem?_toArray, List.getElem?_cons_succ, List.getElem?_cons_zero, Option.getD_some]) | (refine p_val rfl rfl ?_; apply Exists.intro; refine ⟨fun w' => ?_, ?_⟩; (go_simp; (first | done | exact rfl)); simp only [List.getElem_toArray, List.getElem_cons_succ, List.getElem_cons_zero, Act.put, Act.eval, List.setIfInBounds_toArray, List.set_cons_zero, List.set_cons_succ, Array.getD_eq_getD_getElem?, List.getElem?_toArray, List.getElem?_cons_succ, List.getElem?_cons_zero, Option.getD_some]))
        refine r_call rfl rfl ?_; apply Exists.intro; apply Exists.intro; refine ⟨?_, ?_⟩; (go_simp; exact ⟨rfl, rfl⟩)
        refine (play_any (fun x => x = bw) w wd p 6 (2 * j) D _ _ _ z HLP1.out.both HLP1.out.ok (by omega) HN.out (by have := HLP1.out.pl; omega) Hzok.out HzF.out).mono ?_
        rintro _ u1 hN
        obtain ⟨p2, bl2, ol2, cl2, ad22, c22, ad32, c32, rfl, hB2, hK2, hh2, hbox, hLP⟩ := HLP1.out.played hN
        have hrO : readAt u1 bo (oo + j * 4) 4 = some (oc z) := (rd_same (hK2.block _ (readAt_lt HrO1.out) (fun hx => by have h1 := HLP1.out.both.d.ok.lo _ hx; have h2 := HLlt.out; have h3 : bo < w.heap.size := h2 _ rfl (by omega); omega)) _ _).trans HrO1.out
        obtain ⟨D2, hD2⟩ : ∃ D2, playD D z.1 = D2 := ⟨_, rfl⟩
        rw [hD2] at hLP
        simp only [hD2]
        refine ⟨_, rfl, _, fun _ h => h, ⟨hbox.r, hrO⟩, ?_⟩; simp only [List.getElem_toArray, List.getElem_cons_succ, List.getElem_cons_zero, Act.put, Act.eval, List.setIfInBounds_toArray, List.set_cons_zero, List.set_cons_succ, Array.getD_eq_getD_getElem?, List.getElem?_toArray, List.getElem?_cons_succ, List.getElem?_cons_zero, Option.getD_some]
        clear hrO
        have HD2 := Lib.hid hD2
        have HB2p := Lib.hid hB2
        have HK2 := Lib.hid hK2
        have Hh2 := Lib.hid hh2
        have Hbox := Lib.hid hbox
        have HLP2 := Lib.hid hLP
        clear hN hD2 hB2 hK2 hh2 hbox hLP
        repeat (first | (refine t_off rfl rfl ?_; simp only [List.getElem_toArray, List.getElem_cons_succ, List.getElem_cons_zero, Act.put, Act.eval, List.setIfInBounds_toArray, List.set_cons_zero, List.set_cons_succ, Array.getD_eq_getD_getElem?, List.getElem?_toArray, List.getElem?_cons_succ, List.getElem?_cons_zero, Option.getD_some]) | (refine t_move rfl _ rfl rfl ?_; simp only [List.getElem_toArray, List.getElem_cons_succ, List.getElem_cons_zero, Act.put, Act.eval, List.setIfInBounds_toArray, List.set_cons_zero, List.set_cons_succ, Array.getD_eq_getD_getElem?, List.getElem?_toArray, List.getElem?_cons_succ, List.getElem?_cons_zero, Option.getD_some]) | (refine t_assign rfl _ rfl rfl ?_; simp only [List.getElem_toArray, List.getElem_cons_succ, List.getElem_cons_zero, Act.put, Act.eval, List.setIfInBounds_toArray, List.set_cons_zero, List.set_cons_succ, Array.getD_eq_getD_getElem?, List.getElem?_toArray, List.getElem?_cons_succ, List.getElem?_cons_zero, Option.getD_some]) | (refine t_val rfl rfl ?_; apply Exists.intro; refine ⟨fun w' hC' => ?_, ?_⟩; (obtain ⟨b0, b1, b2, b3, b4, q0, q1, q2, q3⟩ := HS.out w' hC'; go_simp; (first | done | exact rfl)); simp only [List.getElem_toArray, List.getElem_cons_succ, List.getElem_cons_zero, Act.put, Act.eval, List.setIfInBounds_toArray, List.set_cons_zero, List.set_cons_succ, Array.getD_eq_getD_getElem?, List.getElem?_toArray, List.getElem?_cons_succ, List.getElem?_cons_zero, Option.getD_some]) | (refine p_off rfl rfl ?_; simp only [List.getElem_toArray, List.getElem_cons_succ, List.getElem_cons_zero, Act.put, Act.eval, List.setIfInBounds_toArray, List.set_cons_zero, List.set_cons_succ, Array.getD_eq_getD_getElem?, List.getElem?_toArray, List.getElem?_cons_succ, List.getElem?_cons_zero, Option.getD_some]) | (refine p_val rfl rfl ?_; apply Exists.intro; refine ⟨fun w' => ?_, ?_⟩; (go_simp; (first | done | exact rfl)); simp only [List.getElem_toArray, List.getElem_cons_succ, List.getElem_cons_zero, Act.put, Act.eval, List.setIfInBounds_toArray, List.set_cons_zero, List.set_cons_succ, Array.getD_eq_getD_getElem?, List.getElem?_toArray, List.getElem?_cons_succ, List.getElem?_cons_zero, Option.getD_some]))
        obtain ⟨e0, e1, e2, e3, e4⟩ := Hbox.out.free
        obtain ⟨b0, b1, b2, b3, b4⟩ := Hbox.out.cells
        refine b_any rfl rfl (fun K hK => ?_)
        go_simp
        refine hK _ _ (fun _ => True) trivial ?_
        clear hK K e0 e1 e2 e3 e4 b0 b1 b2 b3 b4
        try simp only [List.getElem_toArray, List.getElem_cons_succ, List.getElem_cons_zero, Act.put, Act.eval, List.setIfInBounds_toArray, List.set_cons_zero, List.set_cons_succ, Array.getD_eq_getD_getElem?, List.getElem?_toArray, List.getElem?_cons_succ, List.getElem?_cons_zero, Option.getD_some]
        repeat (first | (refine t_off rfl rfl ?_; simp only [List.getElem_toArray, List.getElem_cons_succ, List.getElem_cons_zero, Act.put, Act.eval, List.setIfInBounds_toArray, List.set_cons_zero, List.set_cons_succ, Array.getD_eq_getD_getElem?, List.getElem?_toArray, List.getElem?_cons_succ, List.getElem?_cons_zero, Option.getD_some]) | (refine t_move rfl _ rfl rfl ?_; simp only [List.getElem_toArray, List.getElem_cons_succ, List.getElem_cons_zero, Act.put, Act.eval, List.setIfInBounds_toArray, List.set_cons_zero, List.set_cons_succ, Array.getD_eq_getD_getElem?, List.getElem?_toArray, List.getElem?_cons_succ, List.getElem?_cons_zero, Option.getD_some]) | (refine t_assign rfl _ rfl rfl ?_; simp only [List.getElem_toArray, List.getElem_cons_succ, List.getElem_cons_zero, Act.put, Act.eval, List.setIfInBounds_toArray, List.set_cons_zero, List.set_cons_succ, Array.getD_eq_getD_getElem?, List.getElem?_toArray, List.getElem?_cons_succ, List.getElem?_cons_zero, Option.getD_some]) | (refine t_val rfl rfl ?_; apply Exists.intro; refine ⟨fun w' hC' => ?_, ?_⟩; (skip; go_simp; (first | done | exact rfl)); simp only [List.getElem_toArray, List.getElem_cons_succ, List.getElem_cons_zero, Act.put, Act.eval, List.setIfInBounds_toArray, List.set_cons_zero, List.set_cons_succ, Array.getD_eq_getD_getElem?, List.getElem?_toArray, List.getElem?_cons_succ, List.getElem?_cons_zero, Option.getD_some]) | (refine p_off rfl rfl ?_; simp only [List.getElem_toArray, List.getElem_cons_succ, List.getElem_cons_zero, Act.put, Act.eval, List.setIfInBounds_toArray, List.set_cons_zero, List.set_cons_succ, Array.getD_eq_getD_getElem?, List.getElem?_toArray, List.getElem?_cons_succ, List.getElem?_cons_zero, Option.getD_some]) | (refine p_val rfl rfl ?_; apply Exists.intro; refine ⟨fun w' => ?_, ?_⟩; (go_simp; (first | done | exact rfl)); simp only [List.getElem_toArray, List.getElem_cons_succ, List.getElem_cons_zero, Act.put, Act.eval, List.setIfInBounds_toArray, List.set_cons_zero, List.set_cons_succ, Array.getD_eq_getD_getElem?, List.getElem?_toArray, List.getElem?_cons_succ, List.getElem?_cons_zero, Option.getD_some]))
        refine t_done ?_
        have hkP := put5_kb (Z := fun x => x = bw) u1 bw (.slice (some ⟨bl2, ol2, none⟩) 6 cl2) (.slice ad22 D2.op.length c22) (.bool D2.down) (.int .i64 D2.steps) (.slice ad32 D2.plan.length c32) rfl
        have hLP := HLP2.out
        clear HLP2
        unfold put5 at hkP hLP
        have HkP := Lib.hid hkP
        have HLP := Lib.hid hLP
        clear hkP hLP HLP1 Hbox
        generalize ((((u1.setCell ⟨bw, 0, none⟩ (.slice (some ⟨bl2, ol2, none⟩) 6 cl2)).setCell ⟨bw, 1, none⟩ (.slice ad22 D2.op.length c22)).setCell ⟨bw, 2, none⟩ (.bool D2.down)).setCell ⟨bw, 3, none⟩ (.int .i64 D2.steps)).setCell ⟨bw, 4, none⟩ (.slice ad32 D2.plan.length c32) = wp at *
        clear HS HzF Hzok HrO1
        have Hro1 := Lib.hid ((readAt_below Hbd.out (readAt_lt Hro.out) 0 4).trans Hro.out)
        have Hro2 := Lib.hid ((rd_same (HK2.out.block _ (readAt_lt Hro1.out) Hbo.out) 0 4).trans Hro1.out)
        have Hro3 := Lib.hid ((rd_same (HkP.out.block _ (readAt_lt Hro2.out) Hbb.out) 0 4).trans Hro2.out)
        have Hbo3 : Hid (¬ p2.has w.heap.size) := fun hx => by
          rcases Hh2.out _ hx with h1 | h1
          · exact Hbo.out h1
          · have := readAt_lt Hro1.out; omega
        have Hpn3 : Hid (D2.plan = []) := by (show _ = _; rw [← HD2.out]; exact plan_nil_play D z.1 Hpn.out H3.out H4.out)
        clear Hro Hro1 Hro2 Hbo Hpn H3 H4
        go_wp2
        go_round
        case rel => exact ⟨j + 1, by omega, by go_num, p2, D2, _, _, _, HB2p.out, HLP.out, Hpn3.out, Hro3.out, Hbo3.out, Hbb.out⟩
        case measure => simp [intOf]; omega
    · obtain rfl : j = L.length := by omega
      go_wp2_with fail
      have hcall := dfail_any wr 1 (2 * L.length) [] HLP.out.both.d HLP.out.ok (by omega) (by omega)
      rw [plan_failD D Hpn.out] at hcall
      refine hcall.mono ?_
      rintro _ u1 ⟨rfl, p3, hB3, hA3, hK3, hh3⟩
      obtain ⟨bl, ol, cl1, ad2, ad3, c2, c3, rfl, rfl, rfl⟩ := HLP.out.both.r.open_
      have HA := Lib.hid hA3
      have HB3 := Lib.hid hB3
      have HR : Hid (RAt u1 (fun x => p3.has x ∨ x = bw) 6 D (.slice (some ⟨bl, ol, none⟩) 6 cl1) (.slice ad2 D.op.length c2) (.slice ad3 D.plan.length c3)) := HLP.out.both.r.kb ⟨hK3.os, hK3.tape, hK3.output, hK3.size, fun x h1 h2 => hK3.block x h1 (fun e => h2 (.inl e))⟩ (fun x hx => by
        rcases hx with hx | hx
        · rcases hh3 x hx with h1 | h1
          · exact .inl (.inl h1)
          · exact .inr h1
        · exact .inl (.inr hx))
      have HC := Lib.hid (HLP.out.box.kb hK3 HLP.out.bp)
      have HO := Lib.hid ((rd_same (hK3.block _ (readAt_lt Hro.out) Hbo.out) 0 4).trans Hro.out)
      have HbwP : Hid (¬ p3.has bw) := fun hx => by
        rcases hh3 _ hx with h1 | h1
        · exact HLP.out.bp h1
        · have := HLP.out.box.lt; omega
      have HBel : Hid (Below w.heap.size w u1) := HLP.out.both.bel.trans (hK3.below HLP.out.both.d.ok.lo HLP.out.both.bel.size)
      have HOk := Lib.hid HLP.out.ok
      have Hlow : Hid (w.heap.size ≤ bw) := HLP.out.bb
      clear hcall hB3 hA3 hK3 hh3 HLP Hro Hbo Hbb
      go_wp2_with fail
      have hcall := steps_any u1 HA.out
      rw [HB3.out, show (failD D).steps = D.steps from rfl] at hcall
      refine hcall.mono ?_
      rintro _ _ ⟨rfl, rfl⟩
      clear hcall
      have hcO := fun i v hv => readAt_cell HO.out i v hv
      simp only [Nat.zero_add] at hcO
      have o0 := hcO 0 (.int .i64 1) rfl
      have o1 := hcO 1 (.int .i64 at_) rfl
      have o2 := hcO 2 (.int .u8 (byte.toNat : Int)) rfl
      have Ho1 := Lib.hid o1
      have Ho2 := Lib.hid o2
      clear hcO
      have s0 := HOk.out.s0
      have s1 := HOk.out.s1
      have hwr : IntKind.i64.wrap (D.steps + 1) = D.steps + 1 := by rw [IntKind.wrap_i64]; omega
      cases hdn : D.down with
      | true =>
        have HC1 : Hid (C5 u1 bw (.slice (some ⟨bl, ol, none⟩) 6 cl1) (.slice ad2 D.op.length c2) (.bool true) (.int .i64 D.steps) (.slice ad3 D.plan.length c3)) := by (show C5 _ _ _ _ _ _ _; rw [← hdn]; exact HC.out)
        have Hdn := Lib.hid hdn
        clear hdn HC
        go_upto_region 16 with fail
        refine wp_region_tr (.take 0 (.take 1 (.take 2 (.take 3 (.take 4 (.run 5 (.brk 6 (.take 7 .done)))))))) (fun u => u.cell? ⟨w.heap.size, 1, none⟩ = some (.int .i64 at_) ∧ u.cell? ⟨w.heap.size, 2, none⟩ = some (.int .u8 (byte.toNat : Int))) (by kernel_rfl) (by kernel_rfl) rfl (by kernel_rfl) ⟨Ho1.out, Ho2.out⟩ ?_
        clear o0 o1 o2
        repeat (first | (refine t_off rfl rfl ?_; simp only [List.getElem_toArray, List.getElem_cons_succ, List.getElem_cons_zero, Act.put, Act.eval, List.setIfInBounds_toArray, List.set_cons_zero, List.set_cons_succ, Array.getD_eq_getD_getElem?, List.getElem?_toArray, List.getElem?_cons_succ, List.getElem?_cons_zero, Option.getD_some]) | (refine t_move rfl _ rfl rfl ?_; simp only [List.getElem_toArray, List.getElem_cons_succ, List.getElem_cons_zero, Act.put, Act.eval, List.setIfInBounds_toArray, List.set_cons_zero, List.set_cons_succ, Array.getD_eq_getD_getElem?, List.getElem?_toArray, List.getElem?_cons_succ, List.getElem?_cons_zero, Option.getD_some]) | (refine t_assign rfl _ rfl rfl ?_; simp only [List.getElem_toArray, List.getElem_cons_succ, List.getElem_cons_zero, Act.put, Act.eval, List.setIfInBounds_toArray, List.set_cons_zero, List.set_cons_succ, Array.getD_eq_getD_getElem?, List.getElem?_toArray, List.getElem?_cons_succ, List.getElem?_cons_zero, Option.getD_some]) | (refine t_val rfl rfl ?_; apply Exists.intro; refine ⟨fun w' hC' => ?_, ?_⟩; (obtain ⟨o1, o2⟩ := hC'; go_simp; (first | done | exact rfl)); simp only [List.getElem_toArray, List.getElem_cons_succ, List.getElem_cons_zero, Act.put, Act.eval, List.setIfInBounds_toArray, List.set_cons_zero, List.set_cons_succ, Array.getD_eq_getD_getElem?, List.getElem?_toArray, List.getElem?_cons_succ, List.getElem?_cons_zero, Option.getD_some]) | (refine p_off rfl rfl ?_; simp only [List.getElem_toArray, List.getElem_cons_succ, List.getElem_cons_zero, Act.put, Act.eval, List.setIfInBounds_toArray, List.set_cons_zero, List.set_cons_succ, Array.getD_eq_getD_getElem?, List.getElem?_toArray, List.getElem?_cons_succ, List.getElem?_cons_zero, Option.getD_some]) | (refine p_val rfl rfl ?_; apply Exists.intro; refine ⟨fun w' => ?_, ?_⟩; (go_simp; (first | done | exact rfl)); simp only [List.getElem_toArray, List.getElem_cons_succ, List.getElem_cons_zero, Act.put, Act.eval, List.setIfInBounds_toArray, List.set_cons_zero, List.set_cons_succ, Array.getD_eq_getD_getElem?, List.getElem?_toArray, List.getElem?_cons_succ, List.getElem?_cons_zero, Option.getD_some]))
        refine r_call rfl rfl ?_; apply Exists.intro; apply Exists.intro; refine ⟨?_, ?_⟩; (go_simp; exact ⟨rfl, rfl⟩)
        refine (fill_u8 byte _).mono ?_
        rintro _ u2 ⟨rfl, hb2⟩
        have hb := bt (Below.refl u1.heap.size u1).drew hb2
        have HA2 := Lib.hid (HA.out.below hb)
        have HR2 := Lib.hid (HR.out.below hb)
        have HC2 := Lib.hid (HC1.out.below hb)
        have HO2 := Lib.hid ((readAt_below hb (readAt_lt HO.out) 0 4).trans HO.out)
        have HBel2 : Hid (Below w.heap.size w u2) := HBel.out.trans (hb.mono HBel.out.size)
        have hcO := fun i v hv => readAt_cell HO2.out i v hv
        simp only [Nat.zero_add] at hcO
        have Hp1 := Lib.hid (hcO 1 (.int .i64 at_) rfl)
        have Hp2 := Lib.hid (hcO 2 (.int .u8 (byte.toNat : Int)) rfl)
        clear hb hb2 hcO HA HR HC1 HBel HO
        refine ⟨_, rfl, _, fun _ h => h, ⟨Hp1.out, Hp2.out⟩, ?_⟩; simp only [List.getElem_toArray, List.getElem_cons_succ, List.getElem_cons_zero, Act.put, Act.eval, List.setIfInBounds_toArray, List.set_cons_zero, List.set_cons_succ, Array.getD_eq_getD_getElem?, List.getElem?_toArray, List.getElem?_cons_succ, List.getElem?_cons_zero, Option.getD_some]
        repeat (first | (refine t_off rfl rfl ?_; simp only [List.getElem_toArray, List.getElem_cons_succ, List.getElem_cons_zero, Act.put, Act.eval, List.setIfInBounds_toArray, List.set_cons_zero, List.set_cons_succ, Array.getD_eq_getD_getElem?, List.getElem?_toArray, List.getElem?_cons_succ, List.getElem?_cons_zero, Option.getD_some]) | (refine t_move rfl _ rfl rfl ?_; simp only [List.getElem_toArray, List.getElem_cons_succ, List.getElem_cons_zero, Act.put, Act.eval, List.setIfInBounds_toArray, List.set_cons_zero, List.set_cons_succ, Array.getD_eq_getD_getElem?, List.getElem?_toArray, List.getElem?_cons_succ, List.getElem?_cons_zero, Option.getD_some]) | (refine t_assign rfl _ rfl rfl ?_; simp only [List.getElem_toArray, List.getElem_cons_succ, List.getElem_cons_zero, Act.put, Act.eval, List.setIfInBounds_toArray, List.set_cons_zero, List.set_cons_succ, Array.getD_eq_getD_getElem?, List.getElem?_toArray, List.getElem?_cons_succ, List.getElem?_cons_zero, Option.getD_some]) | (refine t_val rfl rfl ?_; apply Exists.intro; refine ⟨fun w' hC' => ?_, ?_⟩; (obtain ⟨o1, o2⟩ := hC'; go_simp; (first | done | exact rfl)); simp only [List.getElem_toArray, List.getElem_cons_succ, List.getElem_cons_zero, Act.put, Act.eval, List.setIfInBounds_toArray, List.set_cons_zero, List.set_cons_succ, Array.getD_eq_getD_getElem?, List.getElem?_toArray, List.getElem?_cons_succ, List.getElem?_cons_zero, Option.getD_some]) | (refine p_off rfl rfl ?_; simp only [List.getElem_toArray, List.getElem_cons_succ, List.getElem_cons_zero, Act.put, Act.eval, List.setIfInBounds_toArray, List.set_cons_zero, List.set_cons_succ, Array.getD_eq_getD_getElem?, List.getElem?_toArray, List.getElem?_cons_succ, List.getElem?_cons_zero, Option.getD_some]) | (refine p_val rfl rfl ?_; apply Exists.intro; refine ⟨fun w' => ?_, ?_⟩; (go_simp; (first | done | exact rfl)); simp only [List.getElem_toArray, List.getElem_cons_succ, List.getElem_cons_zero, Act.put, Act.eval, List.setIfInBounds_toArray, List.set_cons_zero, List.set_cons_succ, Array.getD_eq_getD_getElem?, List.getElem?_toArray, List.getElem?_cons_succ, List.getElem?_cons_zero, Option.getD_some]))
        refine b_call rfl rfl ?_; apply Exists.intro; apply Exists.intro; refine ⟨?_, ?_⟩; (go_simp; exact ⟨rfl, rfl⟩)
        have hcall := dwrite_any u2 at_ (fill byte) (2 * L.length) HA2.out ⟨HOk.out.len, HOk.out.at_, HOk.out.few, HOk.out.s0, HOk.out.s1⟩ (by omega) (by omega) HBel2.out.size
        rw [HB3.out, show (writeD (failD D) at_ (fill byte)).2 = 12 by (rw [write_down (failD D) at_ (fill byte) Hdn.out])] at hcall
        refine hcall.mono ?_
        rintro _ u3 ⟨rfl, hN⟩
        have hN' : DNext u2 w.heap.size p3 6 (failD D) u3 := by have h1 := hN; rw [write_down (failD D) at_ (fill byte) Hdn.out] at h1; exact h1
        obtain ⟨p4, hB4, hA4, hK4, hh4⟩ := hN'
        have HA4 := Lib.hid hA4
        have HB4 := Lib.hid hB4
        have HC4 := Lib.hid (HC2.out.kb hK4 HbwP.out)
        have HBel4 : Hid (Below w.heap.size w u3) := HBel2.out.trans (hK4.below HA2.out.ok.lo HBel2.out.size)
        clear hcall hN hA4 hB4 hK4 hh4 HC2 HBel2
        refine ⟨_, rfl, fun _ => True, trivial, ?_⟩; try simp only [List.getElem_toArray, List.getElem_cons_succ, List.getElem_cons_zero, Act.put, Act.eval, List.setIfInBounds_toArray, List.set_cons_zero, List.set_cons_succ, Array.getD_eq_getD_getElem?, List.getElem?_toArray, List.getElem?_cons_succ, List.getElem?_cons_zero, Option.getD_some]
        repeat (first | (refine t_off rfl rfl ?_; simp only [List.getElem_toArray, List.getElem_cons_succ, List.getElem_cons_zero, Act.put, Act.eval, List.setIfInBounds_toArray, List.set_cons_zero, List.set_cons_succ, Array.getD_eq_getD_getElem?, List.getElem?_toArray, List.getElem?_cons_succ, List.getElem?_cons_zero, Option.getD_some]) | (refine t_move rfl _ rfl rfl ?_; simp only [List.getElem_toArray, List.getElem_cons_succ, List.getElem_cons_zero, Act.put, Act.eval, List.setIfInBounds_toArray, List.set_cons_zero, List.set_cons_succ, Array.getD_eq_getD_getElem?, List.getElem?_toArray, List.getElem?_cons_succ, List.getElem?_cons_zero, Option.getD_some]) | (refine t_assign rfl _ rfl rfl ?_; simp only [List.getElem_toArray, List.getElem_cons_succ, List.getElem_cons_zero, Act.put, Act.eval, List.setIfInBounds_toArray, List.set_cons_zero, List.set_cons_succ, Array.getD_eq_getD_getElem?, List.getElem?_toArray, List.getElem?_cons_succ, List.getElem?_cons_zero, Option.getD_some]) | (refine t_val rfl rfl ?_; apply Exists.intro; refine ⟨fun w' hC' => ?_, ?_⟩; (skip; go_simp; (first | done | exact rfl)); simp only [List.getElem_toArray, List.getElem_cons_succ, List.getElem_cons_zero, Act.put, Act.eval, List.setIfInBounds_toArray, List.set_cons_zero, List.set_cons_succ, Array.getD_eq_getD_getElem?, List.getElem?_toArray, List.getElem?_cons_succ, List.getElem?_cons_zero, Option.getD_some]) | (refine p_off rfl rfl ?_; simp only [List.getElem_toArray, List.getElem_cons_succ, List.getElem_cons_zero, Act.put, Act.eval, List.setIfInBounds_toArray, List.set_cons_zero, List.set_cons_succ, Array.getD_eq_getD_getElem?, List.getElem?_toArray, List.getElem?_cons_succ, List.getElem?_cons_zero, Option.getD_some]) | (refine p_val rfl rfl ?_; apply Exists.intro; refine ⟨fun w' => ?_, ?_⟩; (go_simp; (first | done | exact rfl)); simp only [List.getElem_toArray, List.getElem_cons_succ, List.getElem_cons_zero, Act.put, Act.eval, List.setIfInBounds_toArray, List.set_cons_zero, List.set_cons_succ, Array.getD_eq_getD_getElem?, List.getElem?_toArray, List.getElem?_cons_succ, List.getElem?_cons_zero, Option.getD_some]))
        refine t_done ?_
        obtain ⟨b0, b1, b2, b3, b4⟩ := HC4.out.cells
        go_wp2_with fail
        clear b0 b1 b2 b3 b4
        refine (code_any 12 at_ _).mono ?_
        rintro _ u4 ⟨rfl, hb4⟩
        have HA5 := Lib.hid (HA4.out.below hb4)
        have HBel5 : Hid (Below w.heap.size w u4) := HBel4.out.trans (hb4.mono HBel4.out.size)
        clear hb4
        go_wp2_with fail
        have hcall := steps_any u4 HA5.out
        rw [HB4.out, HB3.out, show (failD D).steps = D.steps from rfl] at hcall
        refine hcall.mono ?_
        rintro _ _ ⟨rfl, rfl⟩
        clear hcall
        go_wp2
        go_ret
        exact ⟨rfl, HBel5.out⟩
      | false =>
        have HC1 : Hid (C5 u1 bw (.slice (some ⟨bl, ol, none⟩) 6 cl1) (.slice ad2 D.op.length c2) (.bool false) (.int .i64 D.steps) (.slice ad3 D.plan.length c3)) := by (show C5 _ _ _ _ _ _ _; rw [← hdn]; exact HC.out)
        have Hdn := Lib.hid hdn
        clear hdn HC
        go_upto_region 16 with fail
        refine wp_region_tr (.take 0 (.take 1 (.take 2 (.take 3 (.take 4 (.run 5 (.brk 6 (.take 7 .done)))))))) (fun u => u.cell? ⟨w.heap.size, 1, none⟩ = some (.int .i64 at_) ∧ u.cell? ⟨w.heap.size, 2, none⟩ = some (.int .u8 (byte.toNat : Int))) (by kernel_rfl) (by kernel_rfl) rfl (by kernel_rfl) ⟨Ho1.out, Ho2.out⟩ ?_
        clear o0 o1 o2
        repeat (first | (refine t_off rfl rfl ?_; simp only [List.getElem_toArray, List.getElem_cons_succ, List.getElem_cons_zero, Act.put, Act.eval, List.setIfInBounds_toArray, List.set_cons_zero, List.set_cons_succ, Array.getD_eq_getD_getElem?, List.getElem?_toArray, List.getElem?_cons_succ, List.getElem?_cons_zero, Option.getD_some]) | (refine t_move rfl _ rfl rfl ?_; simp only [List.getElem_toArray, List.getElem_cons_succ, List.getElem_cons_zero, Act.put, Act.eval, List.setIfInBounds_toArray, List.set_cons_zero, List.set_cons_succ, Array.getD_eq_getD_getElem?, List.getElem?_toArray, List.getElem?_cons_succ, List.getElem?_cons_zero, Option.getD_some]) | (refine t_assign rfl _ rfl rfl ?_; simp only [List.getElem_toArray, List.getElem_cons_succ, List.getElem_cons_zero, Act.put, Act.eval, List.setIfInBounds_toArray, List.set_cons_zero, List.set_cons_succ, Array.getD_eq_getD_getElem?, List.getElem?_toArray, List.getElem?_cons_succ, List.getElem?_cons_zero, Option.getD_some]) | (refine t_val rfl rfl ?_; apply Exists.intro; refine ⟨fun w' hC' => ?_, ?_⟩; (obtain ⟨o1, o2⟩ := hC'; go_simp; (first | done | exact rfl)); simp only [List.getElem_toArray, List.getElem_cons_succ, List.getElem_cons_zero, Act.put, Act.eval, List.setIfInBounds_toArray, List.set_cons_zero, List.set_cons_succ, Array.getD_eq_getD_getElem?, List.getElem?_toArray, List.getElem?_cons_succ, List.getElem?_cons_zero, Option.getD_some]) | (refine p_off rfl rfl ?_; simp only [List.getElem_toArray, List.getElem_cons_succ, List.getElem_cons_zero, Act.put, Act.eval, List.setIfInBounds_toArray, List.set_cons_zero, List.set_cons_succ, Array.getD_eq_getD_getElem?, List.getElem?_toArray, List.getElem?_cons_succ, List.getElem?_cons_zero, Option.getD_some]) | (refine p_val rfl rfl ?_; apply Exists.intro; refine ⟨fun w' => ?_, ?_⟩; (go_simp; (first | done | exact rfl)); simp only [List.getElem_toArray, List.getElem_cons_succ, List.getElem_cons_zero, Act.put, Act.eval, List.setIfInBounds_toArray, List.set_cons_zero, List.set_cons_succ, Array.getD_eq_getD_getElem?, List.getElem?_toArray, List.getElem?_cons_succ, List.getElem?_cons_zero, Option.getD_some]))
        refine r_call rfl rfl ?_; apply Exists.intro; apply Exists.intro; refine ⟨?_, ?_⟩; (go_simp; exact ⟨rfl, rfl⟩)
        refine (fill_u8 byte _).mono ?_
        rintro _ u2 ⟨rfl, hb2⟩
        have hb := bt (Below.refl u1.heap.size u1).drew hb2
        have HA2 := Lib.hid (HA.out.below hb)
        have HR2 := Lib.hid (HR.out.below hb)
        have HC2 := Lib.hid (HC1.out.below hb)
        have HO2 := Lib.hid ((readAt_below hb (readAt_lt HO.out) 0 4).trans HO.out)
        have HBel2 : Hid (Below w.heap.size w u2) := HBel.out.trans (hb.mono HBel.out.size)
        have hcO := fun i v hv => readAt_cell HO2.out i v hv
        simp only [Nat.zero_add] at hcO
        have Hp1 := Lib.hid (hcO 1 (.int .i64 at_) rfl)
        have Hp2 := Lib.hid (hcO 2 (.int .u8 (byte.toNat : Int)) rfl)
        clear hb hb2 hcO HA HR HC1 HBel HO
        refine ⟨_, rfl, _, fun _ h => h, ⟨Hp1.out, Hp2.out⟩, ?_⟩; simp only [List.getElem_toArray, List.getElem_cons_succ, List.getElem_cons_zero, Act.put, Act.eval, List.setIfInBounds_toArray, List.set_cons_zero, List.set_cons_succ, Array.getD_eq_getD_getElem?, List.getElem?_toArray, List.getElem?_cons_succ, List.getElem?_cons_zero, Option.getD_some]
        repeat (first | (refine t_off rfl rfl ?_; simp only [List.getElem_toArray, List.getElem_cons_succ, List.getElem_cons_zero, Act.put, Act.eval, List.setIfInBounds_toArray, List.set_cons_zero, List.set_cons_succ, Array.getD_eq_getD_getElem?, List.getElem?_toArray, List.getElem?_cons_succ, List.getElem?_cons_zero, Option.getD_some]) | (refine t_move rfl _ rfl rfl ?_; simp only [List.getElem_toArray, List.getElem_cons_succ, List.getElem_cons_zero, Act.put, Act.eval, List.setIfInBounds_toArray, List.set_cons_zero, List.set_cons_succ, Array.getD_eq_getD_getElem?, List.getElem?_toArray, List.getElem?_cons_succ, List.getElem?_cons_zero, Option.getD_some]) | (refine t_assign rfl _ rfl rfl ?_; simp only [List.getElem_toArray, List.getElem_cons_succ, List.getElem_cons_zero, Act.put, Act.eval, List.setIfInBounds_toArray, List.set_cons_zero, List.set_cons_succ, Array.getD_eq_getD_getElem?, List.getElem?_toArray, List.getElem?_cons_succ, List.getElem?_cons_zero, Option.getD_some]) | (refine t_val rfl rfl ?_; apply Exists.intro; refine ⟨fun w' hC' => ?_, ?_⟩; (obtain ⟨o1, o2⟩ := hC'; go_simp; (first | done | exact rfl)); simp only [List.getElem_toArray, List.getElem_cons_succ, List.getElem_cons_zero, Act.put, Act.eval, List.setIfInBounds_toArray, List.set_cons_zero, List.set_cons_succ, Array.getD_eq_getD_getElem?, List.getElem?_toArray, List.getElem?_cons_succ, List.getElem?_cons_zero, Option.getD_some]) | (refine p_off rfl rfl ?_; simp only [List.getElem_toArray, List.getElem_cons_succ, List.getElem_cons_zero, Act.put, Act.eval, List.setIfInBounds_toArray, List.set_cons_zero, List.set_cons_succ, Array.getD_eq_getD_getElem?, List.getElem?_toArray, List.getElem?_cons_succ, List.getElem?_cons_zero, Option.getD_some]) | (refine p_val rfl rfl ?_; apply Exists.intro; refine ⟨fun w' => ?_, ?_⟩; (go_simp; (first | done | exact rfl)); simp only [List.getElem_toArray, List.getElem_cons_succ, List.getElem_cons_zero, Act.put, Act.eval, List.setIfInBounds_toArray, List.set_cons_zero, List.set_cons_succ, Array.getD_eq_getD_getElem?, List.getElem?_toArray, List.getElem?_cons_succ, List.getElem?_cons_zero, Option.getD_some]))
        refine b_call rfl rfl ?_; apply Exists.intro; apply Exists.intro; refine ⟨?_, ?_⟩; (go_simp; exact ⟨rfl, rfl⟩)
        have hcall := dwrite_any u2 at_ (fill byte) (2 * L.length) HA2.out ⟨HOk.out.len, HOk.out.at_, HOk.out.few, HOk.out.s0, HOk.out.s1⟩ (by omega) (by omega) HBel2.out.size
        rw [HB3.out, show (writeD (failD D) at_ (fill byte)).2 = 11 by (rw [write_failD D at_ (fill byte) Hdn.out])] at hcall
        refine hcall.mono ?_
        rintro _ u3 ⟨rfl, hN⟩
        have hN' : DNext u2 w.heap.size p3 6 (tickD (failD D)) u3 := by have h1 := hN; rw [write_failD D at_ (fill byte) Hdn.out] at h1; exact h1
        obtain ⟨p4, hB4, hA4, hK4, hh4⟩ := hN'
        have HA4 : Hid (DAt u3 w.heap.size p4 6 (tickD D)) := hA4.failed Hpn.out
        have HB4 := Lib.hid hB4
        have HC4 := Lib.hid (HC2.out.kb hK4 HbwP.out)
        have HbwP4 : Hid (¬ p4.has bw) := fun hx => by
          rcases hh4 _ hx with h1 | h1
          · exact HbwP.out h1
          · have := HC2.out.lt; omega
        have HR4 : Hid (RAt u3 (fun x => p4.has x ∨ x = bw) 6 D (.slice (some ⟨bl, ol, none⟩) 6 cl1) (.slice ad2 D.op.length c2) (.slice ad3 D.plan.length c3)) := HR2.out.kb ⟨hK4.os, hK4.tape, hK4.output, hK4.size, fun x h1 h2 => hK4.block x h1 (fun e => h2 (.inl e))⟩ (fun x hx => by
          rcases hx with hx | hx
          · rcases hh4 x hx with h1 | h1
            · exact .inl (.inl h1)
            · exact .inr h1
          · exact .inl (.inr hx))
        have HBel4 : Hid (Below w.heap.size w u3) := HBel2.out.trans (hK4.below HA2.out.ok.lo HBel2.out.size)
        clear hcall hN hA4 hB4 hK4 hh4 HC2 HBel2 HR2
        refine ⟨_, rfl, fun _ => True, trivial, ?_⟩; try simp only [List.getElem_toArray, List.getElem_cons_succ, List.getElem_cons_zero, Act.put, Act.eval, List.setIfInBounds_toArray, List.set_cons_zero, List.set_cons_succ, Array.getD_eq_getD_getElem?, List.getElem?_toArray, List.getElem?_cons_succ, List.getElem?_cons_zero, Option.getD_some]
        repeat (first | (refine t_off rfl rfl ?_; simp only [List.getElem_toArray, List.getElem_cons_succ, List.getElem_cons_zero, Act.put, Act.eval, List.setIfInBounds_toArray, List.set_cons_zero, List.set_cons_succ, Array.getD_eq_getD_getElem?, List.getElem?_toArray, List.getElem?_cons_succ, List.getElem?_cons_zero, Option.getD_some]) | (refine t_move rfl _ rfl rfl ?_; simp only [List.getElem_toArray, List.getElem_cons_succ, List.getElem_cons_zero, Act.put, Act.eval, List.setIfInBounds_toArray, List.set_cons_zero, List.set_cons_succ, Array.getD_eq_getD_getElem?, List.getElem?_toArray, List.getElem?_cons_succ, List.getElem?_cons_zero, Option.getD_some]) | (refine t_assign rfl _ rfl rfl ?_; simp only [List.getElem_toArray, List.getElem_cons_succ, List.getElem_cons_zero, Act.put, Act.eval, List.setIfInBounds_toArray, List.set_cons_zero, List.set_cons_succ, Array.getD_eq_getD_getElem?, List.getElem?_toArray, List.getElem?_cons_succ, List.getElem?_cons_zero, Option.getD_some]) | (refine t_val rfl rfl ?_; apply Exists.intro; refine ⟨fun w' hC' => ?_, ?_⟩; (skip; go_simp; (first | done | exact rfl)); simp only [List.getElem_toArray, List.getElem_cons_succ, List.getElem_cons_zero, Act.put, Act.eval, List.setIfInBounds_toArray, List.set_cons_zero, List.set_cons_succ, Array.getD_eq_getD_getElem?, List.getElem?_toArray, List.getElem?_cons_succ, List.getElem?_cons_zero, Option.getD_some]) | (refine p_off rfl rfl ?_; simp only [List.getElem_toArray, List.getElem_cons_succ, List.getElem_cons_zero, Act.put, Act.eval, List.setIfInBounds_toArray, List.set_cons_zero, List.set_cons_succ, Array.getD_eq_getD_getElem?, List.getElem?_toArray, List.getElem?_cons_succ, List.getElem?_cons_zero, Option.getD_some]) | (refine p_val rfl rfl ?_; apply Exists.intro; refine ⟨fun w' => ?_, ?_⟩; (go_simp; (first | done | exact rfl)); simp only [List.getElem_toArray, List.getElem_cons_succ, List.getElem_cons_zero, Act.put, Act.eval, List.setIfInBounds_toArray, List.set_cons_zero, List.set_cons_succ, Array.getD_eq_getD_getElem?, List.getElem?_toArray, List.getElem?_cons_succ, List.getElem?_cons_zero, Option.getD_some]))
        refine t_done ?_
        have hk9 : Kb (fun x => x = bw) u3 (u3.setCell ⟨bw, 3, none⟩ (.int .i64 (D.steps + 1))) := (Kb.refl _ _).setC _ _ rfl
        have HC9 := Lib.hid (HC4.out.set3 (.int .i64 (D.steps + 1)))
        have HA9 := Lib.hid (HA4.out.kb hk9 (fun x h1 h2 => HbwP4.out (h2 ▸ h1)))
        have HR9 := Lib.hid (HR4.out.kb (X' := fun x => p4.has x ∨ x = bw) ⟨hk9.os, hk9.tape, hk9.output, hk9.size, fun x h1 h2 => hk9.block x h1 (fun e => h2 (.inr e))⟩ (fun x hx => .inl hx))
        have HBel9 : Hid (Below w.heap.size w (u3.setCell ⟨bw, 3, none⟩ (.int .i64 (D.steps + 1)))) := HBel4.out.trans (hk9.below (fun x hx => by subst hx; exact Hlow.out) HBel4.out.size)
        clear hk9
        obtain ⟨b0, b1, b2, b3, b4⟩ := HC4.out.cells
        obtain ⟨f0, f1, f2, f3, f4⟩ := HC4.out.free
        go_wp2_with fail
        clear b0 b1 b2 b3 b4 f0 f1 f2 f3 f4
        generalize u3.setCell ⟨bw, 3, none⟩ (.int .i64 (D.steps + 1)) = u9 at *
        refine (code_any 11 at_ _).mono ?_
        rintro _ u4 ⟨rfl, hb4⟩
        have HA5 := Lib.hid (HA9.out.below hb4)
        have HC5 := Lib.hid (HC9.out.below hb4)
        have HR5 := Lib.hid (HR9.out.below hb4)
        have HBel5 : Hid (Below w.heap.size w u4) := HBel9.out.trans (hb4.mono HBel9.out.size)
        clear hb4
        obtain ⟨b0, b1, b2, b3, b4⟩ := HC5.out.cells
        go_wp2_with fail
        clear b0 b1 b2 b3 b4
        have hst := state_any u4 w.heap.size p4 (fun x => p4.has x ∨ x = bw) 6 (2 * L.length + 1) (tickD D) (.slice (some ⟨bl, ol, none⟩) 6 cl1) (.slice ad2 D.op.length c2) (.slice ad3 D.plan.length c3) HA5.out ⟨HR5.out.st, HR5.out.op, HR5.out.pl⟩ HOk.out.tick (by omega) (by omega)
        unfold rV at hst
        rw [HB4.out, HB3.out, show (tickD D).down = false from Hdn.out, show (tickD D).steps = D.steps + 1 from rfl] at hst
        refine hst.mono ?_
        rintro _ u6 ⟨rfl, hb6⟩
        have HBel6 : Hid (Below w.heap.size w u6) := HBel5.out.trans (hb6.mono HBel5.out.size)
        clear hb6 hst
        go_wp2
        go_ret
        exact ⟨rfl, HBel6.out⟩
set_option maxRecDepth 100000 in
set_option maxHeartbeats 6400000 in
theorem law_dpl_2 (v : Value) (L : List (OpM × Value)) (at_ : Int) (byte : UInt8) (cuts : List Int) (ado : Option Addr) (co : Nat) (w : World) (hL : OpsR w v L) (hf : fewB L = true)
    (hz : OpOk w (⟨2, at_, byte, cuts⟩, .slice ado cuts.length co)) (hfz : fewB [((⟨2, at_, byte, cuts⟩ : OpM), Value.slice ado cuts.length co)] = true) :
    Calls Try.prog 7 #[v, .agg #[.int .i64 2, .int .i64 at_, .int .u8 (byte.toNat : Int), .slice ado cuts.length co]] w fun e w' => e = .returned (.bool true) ∧ Below w.heap.size w w' := by
  have hfew : L.length ≤ 100 := by
    unfold fewB at hf
    simp only [Bool.and_eq_true, decide_eq_true_eq] at hf
    exact hf.2
  obtain ⟨adl, cl, rfl, _⟩ := hL.r
  have HL := Lib.hid hL
  have Hfew := Lib.hid hfew
  have HF := Lib.hid hf
  have Hz := Lib.hid hz
  have HFz := Lib.hid hfz
  have HLlt : Hid (∀ g, (Value.slice adl L.length cl).ownBlock = some g → 0 < L.length → g < w.heap.size) := fun g hg h0 => HL.out.r.lt h0 g hg
  clear hL hfew hz hfz
  go_enter Try.func7, Try.ntmps7
  go_wp2_with fail
  have HB0 : Hid (Below w.heap.size w (w.alloc (.cells #[.int .i64 2, .int .i64 at_, .int .u8 (byte.toNat : Int), .slice ado cuts.length co] 30))) := ba _ (Below.refl _ _)
  have HO0 : Hid (readAt (w.alloc (.cells #[.int .i64 2, .int .i64 at_, .int .u8 (byte.toNat : Int), .slice ado cuts.length co] 30)) w.heap.size 0 4 = some #[.int .i64 2, .int .i64 at_, .int .u8 (byte.toNat : Int), .slice ado cuts.length co]) := by unfold Hid; rw [readAt_alloc_at _ _ _ _ _ _ _ rfl (by simp)]; rfl
  generalize w.alloc (.cells #[.int .i64 2, .int .i64 at_, .int .u8 (byte.toNat : Int), .slice ado cuts.length co] 30) = w0 at *
  refine (dawake_any w0).mono ?_
  rintro _ w1 ⟨rfl, hb1⟩
  have HO1 := Lib.hid ((readAt_below hb1 (readAt_lt HO0.out) 0 4).trans HO0.out)
  have HB1 : Hid (Below w.heap.size w w1) := HB0.out.trans (hb1.mono HB0.out.size)
  clear hb1 HO0 HB0
  go_wp2_with fail
  have hc := few_any _ L w1 (HL.out.below HB1.out)
  rw [hf] at hc
  refine hc.mono ?_
  rintro _ w2 ⟨rfl, rfl⟩
  clear hc hf
  have hcO := fun i v hv => readAt_cell HO1.out i v hv
  simp only [Nat.zero_add] at hcO
  have o0 := hcO 0 (.int .i64 2) rfl
  have o1 := hcO 1 (.int .i64 at_) rfl
  have o2 := hcO 2 (.int .u8 (byte.toNat : Int)) rfl
  have o3 := hcO 3 (.slice ado cuts.length co) rfl
  clear hcO
  have hbo := run_SliceOp1 w1 2 at_ (byte.toNat : Int) ado cuts.length co
  go_wp2_with fail
  clear o0 o1 o2 o3 hbo
  have hbA := ba (.cells #[.int .i64 2, .int .i64 at_, .int .u8 (byte.toNat : Int), .slice ado cuts.length co] 30) (Below.refl w1.heap.size w1)
  have hlz : OpsR (w1.alloc (.cells #[.int .i64 2, .int .i64 at_, .int .u8 (byte.toNat : Int), .slice ado cuts.length co] 30)) (.slice (some ⟨w1.heap.size, 0, none⟩) 1 1) [(⟨2, at_, byte, cuts⟩, .slice ado cuts.length co)] :=
    ⟨⟨_, 1, rfl, Nat.le_refl _, by simp [maxLen], by simp [flat, oc], fun h => (by cases h), fun _ => ⟨w1.heap.size, 0, rfl, by (rw [readAt_alloc_at _ _ _ _ _ _ _ rfl (by simp)]; rfl)⟩⟩, fun q hq => by
      obtain rfl : q = (⟨2, at_, byte, cuts⟩, .slice ado cuts.length co) := by simpa using hq
      exact ⟨Hz.out.k, Hz.out.a, (Hz.out.c.below HB1.out).below hbA, Hz.out.i⟩⟩
  have HO2 : Hid (readAt (w1.alloc (.cells #[.int .i64 2, .int .i64 at_, .int .u8 (byte.toNat : Int), .slice ado cuts.length co] 30)) w.heap.size 0 4 = some #[.int .i64 2, .int .i64 at_, .int .u8 (byte.toNat : Int), .slice ado cuts.length co]) := (readAt_below hbA (readAt_lt HO1.out) 0 4).trans HO1.out
  have HB2 : Hid (Below w.heap.size w (w1.alloc (.cells #[.int .i64 2, .int .i64 at_, .int .u8 (byte.toNat : Int), .slice ado cuts.length co] 30))) := HB1.out.trans (hbA.mono HB1.out.size)
  have hc := few_any _ _ _ hlz
  rw [HFz.out] at hc
  refine hc.mono ?_
  rintro _ w2 ⟨rfl, rfl⟩
  clear hc hbA hlz HO1 HB1
  generalize w1.alloc (.cells #[.int .i64 2, .int .i64 at_, .int .u8 (byte.toNat : Int), .slice ado cuts.length co] 30) = w2 at *
  have hcO := fun i v hv => readAt_cell HO2.out i v hv
  simp only [Nat.zero_add] at hcO
  have o0 := hcO 0 (.int .i64 2) rfl
  have o1 := hcO 1 (.int .i64 at_) rfl
  have o2 := hcO 2 (.int .u8 (byte.toNat : Int)) rfl
  have o3 := hcO 3 (.slice ado cuts.length co) rfl
  clear hcO
  go_wp2_with fail
  clear o0 o1 o2 o3
  refine (new_any w2 6 (by omega)).mono ?_
  rintro _ w3 ⟨⟨p, rfl, hA⟩, hb3⟩
  have HA3 : Hid (DAt w3 w2.heap.size p 6 (newD 6)) := hA
  have HO3 := Lib.hid ((readAt_below hb3 (readAt_lt HO2.out) 0 4).trans HO2.out)
  have HB3 : Hid (Below w.heap.size w w3) := HB2.out.trans (hb3.mono HB2.out.size)
  have HA3b : Hid (DAt w3 w.heap.size p 6 (newD 6)) := HA3.out.base HB2.out.size
  have HbobP : Hid (¬ p.has w.heap.size) := fun hx => by
    have h1 := HA3.out.ok.lo _ hx
    have h2 := readAt_lt HO2.out
    omega
  clear hA hb3 HA3 HO2 HB2
  go_wp2_with fail
  refine (rdnew_any w3 p.has HA3b.out.has_lt 6 (by omega)).mono ?_
  rintro _ w4 ⟨⟨v, rfl, a, b, c, rfl, hR⟩, hb4⟩
  obtain ⟨bl, ol, cl1, ad2, ad3, c2, c3, rfl, rfl, rfl⟩ := hR.open_
  have HA4 : Hid (DAt w4 w.heap.size p (6 : Int).toNat (newD 6)) := HA3b.out.below hb4
  have HO4 := Lib.hid ((readAt_below hb4 (readAt_lt HO3.out) 0 4).trans HO3.out)
  have HR4 := Lib.hid hR
  have HB4 : Hid (Below w.heap.size w w4) := HB3.out.trans (hb4.mono HB3.out.size)
  clear hR hb4 HA3b HB3 HO3
  unfold rV
  go_wp2_with fail
  have hl0 := LP.start HA4.out HR4.out HB4.out (by omega)
  have hb5 := ba (.cells #[.slice (some ⟨bl, ol, none⟩) (6 : Int).toNat cl1, .slice ad2 (newD 6).op.length c2, .bool (newD 6).down, .int .i64 (newD 6).steps, .slice ad3 (newD 6).plan.length c3] 46) (Below.refl w4.heap.size w4)
  have HLP0 : Hid (Loop5 w _ p.B w.heap.size w4.heap.size 0 #[.int .i64 2, .int .i64 at_, .int .u8 (byte.toNat : Int), .slice ado cuts.length co]) := ⟨p, _, _, _, _, rfl, hl0, rfl, (readAt_below hb5 (readAt_lt HO4.out) 0 4).trans HO4.out, HbobP.out, fun e => by have := readAt_lt HO4.out; omega⟩
  clear hl0 hb5 HA4 HR4 HB4 HO4 HbobP
  generalize p.B = PB at *
  generalize w4.heap.size = bw at *
  have HN : Hid (6 ≤ 5000) := by (show _ ≤ _; omega)
  go_loopw [7] (fun i wr => ∃ j : Nat, j ≤ L.length ∧ i = .int .i64 j ∧ Loop5 w wr PB w.heap.size bw (2 * j) #[.int .i64 2, .int .i64 at_, .int .u8 (byte.toNat : Int), .slice ado cuts.length co]) (fun i _ => L.length - (intOf i).toNat)
  case atStart => exact ⟨0, Nat.zero_le _, rfl, HLP0.out⟩
  case round =>
    obtain ⟨j, hj, rfl, p, D, a, b, c, rfl, hlp, hpn, hro, hbo, hbb⟩ := hrel
    have HLP := Lib.hid hlp
    have Hpn := Lib.hid hpn
    have Hro := Lib.hid hro
    have Hbo := Lib.hid hbo
    have Hbb := Lib.hid hbb
    have hfew := Hfew.out
    clear hlp HLP0 hpn hro hbo hbb
    by_cases hlt : j < L.length
    · by_cases hs34 : (L[j]'hlt).1.kind = 3 ∨ (L[j]'hlt).1.kind = 4
      · have hLr := HL.out.below HLP.out.both.bel
        obtain ⟨bo, oo, co, ad2o, cap2o, hv, _, _, hr, _⟩ := hLr.cell j hlt
        simp only [Value.slice.injEq, true_and] at hv
        obtain ⟨rfl, rfl⟩ := hv
        have q0 : wr.cell? ⟨bo, oo + j * 4, none⟩ = some (.int .i64 (L[j]'hlt).1.kind) := by (have h1 := readAt_cell hr 0 _ rfl; rwa [Nat.add_zero] at h1)
        have hk0 : (0 : Int) ≤ (j : Int) := by omega
        have hk1 : (j : Int) < (L.length : Int) := by omega
        have Hrel : Hid (Loop5 w wr p.B w.heap.size bw (2 * (j + 1)) #[.int .i64 2, .int .i64 at_, .int .u8 (byte.toNat : Int), .slice ado cuts.length co]) := ⟨p, D, _, _, _, rfl, HLP.out.more (by omega), Hpn.out, Hro.out, Hbo.out, Hbb.out⟩
        clear hr hLr HLP Hpn Hro Hbo Hbb
        generalize (L[j]'hlt).1.kind = kd at *
        rcases hs34 with rfl | rfl
        · go_wp2
          go_round
          case rel => exact ⟨j + 1, by omega, by go_num, Hrel.out⟩
          case measure => simp [intOf]; omega
        · go_wp2
          go_round
          case rel => exact ⟨j + 1, by omega, by go_num, Hrel.out⟩
          case measure => simp [intOf]; omega
      · have Hs34 := Lib.hid hs34
        clear hs34
        obtain ⟨z, hz⟩ : ∃ z, L[j]'hlt = z := ⟨_, rfl⟩
        have hLr := HL.out.below HLP.out.both.bel
        have Hzok : Hid (OpOk w z) := HL.out.o _ (hz ▸ List.getElem_mem hlt)
        have HzF : Hid (okO z.1 = true) := few_at HF.out (hz ▸ List.getElem_mem hlt)
        obtain ⟨bo, oo, co, ad2o, cap2o, hv, _, _, hr, _⟩ := hLr.cell j hlt
        simp only [Value.slice.injEq, true_and] at hv
        obtain ⟨rfl, rfl⟩ := hv
        rw [hz] at hr
        have HrO := Lib.hid hr
        have hk0 : (0 : Int) ≤ (j : Int) := by omega
        have hk1 : (j : Int) < (L.length : Int) := by omega
        obtain ⟨bl, ol, cl1, ad2, ad3, c2, c3, rfl, rfl, rfl⟩ := HLP.out.both.r.open_
        have HS : Hid (∀ u : World, (readAt u bw 0 5 = some #[.slice (some ⟨bl, ol, none⟩) 6 cl1, .slice ad2 D.op.length c2, .bool D.down, .int .i64 D.steps, .slice ad3 D.plan.length c3] ∧ readAt u bo (oo + j * 4) 4 = some (oc z)) → u.cell? ⟨bw, 0, none⟩ = some (.slice (some ⟨bl, ol, none⟩) 6 cl1) ∧ u.cell? ⟨bw, 1, none⟩ = some (.slice ad2 D.op.length c2) ∧ u.cell? ⟨bw, 2, none⟩ = some (.bool D.down) ∧ u.cell? ⟨bw, 3, none⟩ = some (.int .i64 D.steps) ∧ u.cell? ⟨bw, 4, none⟩ = some (.slice ad3 D.plan.length c3) ∧
            u.cell? ⟨bo, oo + j * 4, none⟩ = some (.int .i64 z.1.kind) ∧ u.cell? ⟨bo, oo + j * 4 + 1, none⟩ = some (.int .i64 z.1.at_) ∧ u.cell? ⟨bo, oo + j * 4 + 2, none⟩ = some (.int .u8 (z.1.byte.toNat : Int)) ∧ u.cell? ⟨bo, oo + j * 4 + 3, none⟩ = some z.2) := fun u hu => by
          have hc := fun i v hv => readAt_cell hu.1 i v hv
          have hd := fun i v hv => readAt_cell hu.2 i v hv
          simp only [Nat.zero_add] at hc
          exact ⟨hc 0 _ rfl, hc 1 _ rfl, hc 2 _ rfl, hc 3 _ rfl, hc 4 _ rfl, hd 0 _ rfl, hd 1 _ rfl, hd 2 _ rfl, hd 3 _ rfl⟩
        have hz0 := hz
        clear hr hLr hz
        have H3 : Hid (¬ z.1.kind = 3) := fun h => Hs34.out (.inl (by rw [hz0]; exact h))
        have H4 : Hid (¬ z.1.kind = 4) := fun h => Hs34.out (.inr (by rw [hz0]; exact h))
        have d3 : (z.1.kind == 3) = false := by have := H3.out; simpa using this
        have d4 : (z.1.kind == 4) = false := by have := H4.out; simpa using this
        have q0 : wr.cell? ⟨bo, oo + j * 4, none⟩ = some (.int .i64 z.1.kind) := by (have h1 := readAt_cell HrO.out 0 _ rfl; rwa [Nat.add_zero] at h1)
        clear hz0
        try clear hz0
        go_upto_region 11 with fail
        clear q0 d3 d4
        refine wp_region_tr (.take 0 (.take 1 (.take 2 (.take 3 (.take 4 (.take 5 (.run 6 (.take 7 (.take 8 (.pure 9 (.brk 10 .done))))))))))) (fun u => readAt u bw 0 5 = some #[.slice (some ⟨bl, ol, none⟩) 6 cl1, .slice ad2 D.op.length c2, .bool D.down, .int .i64 D.steps, .slice ad3 D.plan.length c3] ∧ readAt u bo (oo + j * 4) 4 = some (oc z)) (by kernel_rfl) (by kernel_rfl) rfl (by kernel_rfl) ⟨HLP.out.box.r, HrO.out⟩ ?_
        have hb := (Below.refl wr.heap.size wr).drew
        have HLP1 := Lib.hid (HLP.out.below hb)
        have HrO1 := Lib.hid ((readAt_below hb (readAt_lt HrO.out) _ _).trans HrO.out)
        have Hbd := Lib.hid hb
        clear hb HLP HrO
        generalize wr.drew = wd at *
        repeat (first | (refine t_off rfl rfl ?_; simp only [List.getElem_toArray, List.getElem_cons_succ, List.getElem_cons_zero, Act.put, Act.eval, List.setIfInBounds_toArray, List.set_cons_zero, List.set_cons_succ, Array.getD_eq_getD_getElem?, List.getElem?_toArray, List.getElem?_cons_succ, List.getElem?_cons_zero, Option.getD_some]) | (refine t_move rfl _ rfl rfl ?_; simp only [List.getElem_toArray, List.getElem_cons_succ, List.getElem_cons_zero, Act.put, Act.eval, List.setIfInBounds_toArray, List.set_cons_zero, List.set_cons_succ, Array.getD_eq_getD_getElem?, List.getElem?_toArray, List.getElem?_cons_succ, List.getElem?_cons_zero, Option.getD_some]) | (refine t_assign rfl _ rfl rfl ?_; simp only [List.getElem_toArray, List.getElem_cons_succ, List.getElem_cons_zero, Act.put, Act.eval, List.setIfInBounds_toArray, List.set_cons_zero, List.set_cons_succ, Array.getD_eq_getD_getElem?, List.getElem?_toArray, List.getElem?_cons_succ, List.getElem?_cons_zero, Option.getD_some]) | (refine t_val rfl rfl ?_; apply Exists.intro; refine ⟨fun w' hC' => ?_, ?_⟩; (obtain ⟨b0, b1, b2, b3, b4, q0, q1, q2, q3⟩ := HS.out w' hC'; go_simp; (first | done | exact rfl)); simp only [List.getElem_toArray, List.getElem_cons_succ, List.getElem_cons_zero, Act.put, Act.eval, List.setIfInBounds_toArray, List.set_cons_zero, List.set_cons_succ, Array.getD_eq_getD_getElem?, List.getElem?_toArray, List.getElem?_cons_succ, List.getElem?_cons_zero, Option.getD_some]) | (refine p_off rfl rfl ?_; simp only [List.getElem_toArray, List.getElem_cons_succ, List.getElem_cons_zero, Act.put, Act.eval, List.setIfInBounds_toArray, List.set_cons_zero, List.set_cons_succ, Array.getD_eq_getD_getElem?, List.getElem?_toArray, List.getElem?_cons_succ, List.getElem?_cons_zero, Option.getD_some]) | (refine p_val rfl rfl ?_; apply Exists.intro; refine ⟨fun w' => ?_, ?_⟩; (go_simp; (first | done | exact rfl)); simp only [List.getElem_toArray, List.getElem_cons_succ, List.getElem_cons_zero, Act.put, Act.eval, List.setIfInBounds_toArray, List.set_cons_zero, List.set_cons_succ, Array.getD_eq_getD_getElem?, List.getElem?_toArray, List.getElem?_cons_succ, List.getElem?_cons_zero, Option.getD_some]))
        refine r_call rfl rfl ?_; apply Exists.intro; apply Exists.intro; refine ⟨?_, ?_⟩; (go_simp; exact ⟨rfl, rfl⟩)
        refine (play_any (fun x => x = bw) w wd p 6 (2 * j) D _ _ _ z HLP1.out.both HLP1.out.ok (by omega) HN.out (by have := HLP1.out.pl; omega) Hzok.out HzF.out).mono ?_
        rintro _ u1 hN
        obtain ⟨p2, bl2, ol2, cl2, ad22, c22, ad32, c32, rfl, hB2, hK2, hh2, hbox, hLP⟩ := HLP1.out.played hN
        have hrO : readAt u1 bo (oo + j * 4) 4 = some (oc z) := (rd_same (hK2.block _ (readAt_lt HrO1.out) (fun hx => by have h1 := HLP1.out.both.d.ok.lo _ hx; have h2 := HLlt.out; have h3 : bo < w.heap.size := h2 _ rfl (by omega); omega)) _ _).trans HrO1.out
        obtain ⟨D2, hD2⟩ : ∃ D2, playD D z.1 = D2 := ⟨_, rfl⟩
        rw [hD2] at hLP
        simp only [hD2]
        refine ⟨_, rfl, _, fun _ h => h, ⟨hbox.r, hrO⟩, ?_⟩; simp only [List.getElem_toArray, List.getElem_cons_succ, List.getElem_cons_zero, Act.put, Act.eval, List.setIfInBounds_toArray, List.set_cons_zero, List.set_cons_succ, Array.getD_eq_getD_getElem?, List.getElem?_toArray, List.getElem?_cons_succ, List.getElem?_cons_zero, Option.getD_some]
        clear hrO
        have HD2 := Lib.hid hD2
        have HB2p := Lib.hid hB2
        have HK2 := Lib.hid hK2
        have Hh2 := Lib.hid hh2
        have Hbox := Lib.hid hbox
        have HLP2 := Lib.hid hLP
        clear hN hD2 hB2 hK2 hh2 hbox hLP
        repeat (first | (refine t_off rfl rfl ?_; simp only [List.getElem_toArray, List.getElem_cons_succ, List.getElem_cons_zero, Act.put, Act.eval, List.setIfInBounds_toArray, List.set_cons_zero, List.set_cons_succ, Array.getD_eq_getD_getElem?, List.getElem?_toArray, List.getElem?_cons_succ, List.getElem?_cons_zero, Option.getD_some]) | (refine t_move rfl _ rfl rfl ?_; simp only [List.getElem_toArray, List.getElem_cons_succ, List.getElem_cons_zero, Act.put, Act.eval, List.setIfInBounds_toArray, List.set_cons_zero, List.set_cons_succ, Array.getD_eq_getD_getElem?, List.getElem?_toArray, List.getElem?_cons_succ, List.getElem?_cons_zero, Option.getD_some]) | (refine t_assign rfl _ rfl rfl ?_; simp only [List.getElem_toArray, List.getElem_cons_succ, List.getElem_cons_zero, Act.put, Act.eval, List.setIfInBounds_toArray, List.set_cons_zero, List.set_cons_succ, Array.getD_eq_getD_getElem?, List.getElem?_toArray, List.getElem?_cons_succ, List.getElem?_cons_zero, Option.getD_some]) | (refine t_val rfl rfl ?_; apply Exists.intro; refine ⟨fun w' hC' => ?_, ?_⟩; (obtain ⟨b0, b1, b2, b3, b4, q0, q1, q2, q3⟩ := HS.out w' hC'; go_simp; (first | done | exact rfl)); simp only [List.getElem_toArray, List.getElem_cons_succ, List.getElem_cons_zero, Act.put, Act.eval, List.setIfInBounds_toArray, List.set_cons_zero, List.set_cons_succ, Array.getD_eq_getD_getElem?, List.getElem?_toArray, List.getElem?_cons_succ, List.getElem?_cons_zero, Option.getD_some]) | (refine p_off rfl rfl ?_; simp only [List.getElem_toArray, List.getElem_cons_succ, List.getElem_cons_zero, Act.put, Act.eval, List.setIfInBounds_toArray, List.set_cons_zero, List.set_cons_succ, Array.getD_eq_getD_getElem?, List.getElem?_toArray, List.getElem?_cons_succ, List.getElem?_cons_zero, Option.getD_some]) | (refine p_val rfl rfl ?_; apply Exists.intro; refine ⟨fun w' => ?_, ?_⟩; (go_simp; (first | done | exact rfl)); simp only [List.getElem_toArray, List.getElem_cons_succ, List.getElem_cons_zero, Act.put, Act.eval, List.setIfInBounds_toArray, List.set_cons_zero, List.set_cons_succ, Array.getD_eq_getD_getElem?, List.getElem?_toArray, List.getElem?_cons_succ, List.getElem?_cons_zero, Option.getD_some]))
        obtain ⟨e0, e1, e2, e3, e4⟩ := Hbox.out.free
        obtain ⟨b0, b1, b2, b3, b4⟩ := Hbox.out.cells
        refine b_any rfl rfl (fun K hK => ?_)
        go_simp
        refine hK _ _ (fun _ => True) trivial ?_
        clear hK K e0 e1 e2 e3 e4 b0 b1 b2 b3 b4
        try simp only [List.getElem_toArray, List.getElem_cons_succ, List.getElem_cons_zero, Act.put, Act.eval, List.setIfInBounds_toArray, List.set_cons_zero, List.set_cons_succ, Array.getD_eq_getD_getElem?, List.getElem?_toArray, List.getElem?_cons_succ, List.getElem?_cons_zero, Option.getD_some]
        repeat (first | (refine t_off rfl rfl ?_; simp only [List.getElem_toArray, List.getElem_cons_succ, List.getElem_cons_zero, Act.put, Act.eval, List.setIfInBounds_toArray, List.set_cons_zero, List.set_cons_succ, Array.getD_eq_getD_getElem?, List.getElem?_toArray, List.getElem?_cons_succ, List.getElem?_cons_zero, Option.getD_some]) | (refine t_move rfl _ rfl rfl ?_; simp only [List.getElem_toArray, List.getElem_cons_succ, List.getElem_cons_zero, Act.put, Act.eval, List.setIfInBounds_toArray, List.set_cons_zero, List.set_cons_succ, Array.getD_eq_getD_getElem?, List.getElem?_toArray, List.getElem?_cons_succ, List.getElem?_cons_zero, Option.getD_some]) | (refine t_assign rfl _ rfl rfl ?_; simp only [List.getElem_toArray, List.getElem_cons_succ, List.getElem_cons_zero, Act.put, Act.eval, List.setIfInBounds_toArray, List.set_cons_zero, List.set_cons_succ, Array.getD_eq_getD_getElem?, List.getElem?_toArray, List.getElem?_cons_succ, List.getElem?_cons_zero, Option.getD_some]) | (refine t_val rfl rfl ?_; apply Exists.intro; refine ⟨fun w' hC' => ?_, ?_⟩; (skip; go_simp; (first | done | exact rfl)); simp only [List.getElem_toArray, List.getElem_cons_succ, List.getElem_cons_zero, Act.put, Act.eval, List.setIfInBounds_toArray, List.set_cons_zero, List.set_cons_succ, Array.getD_eq_getD_getElem?, List.getElem?_toArray, List.getElem?_cons_succ, List.getElem?_cons_zero, Option.getD_some]) | (refine p_off rfl rfl ?_; simp only [List.getElem_toArray, List.getElem_cons_succ, List.getElem_cons_zero, Act.put, Act.eval, List.setIfInBounds_toArray, List.set_cons_zero, List.set_cons_succ, Array.getD_eq_getD_getElem?, List.getElem?_toArray, List.getElem?_cons_succ, List.getElem?_cons_zero, Option.getD_some]) | (refine p_val rfl rfl ?_; apply Exists.intro; refine ⟨fun w' => ?_, ?_⟩; (go_simp; (first | done | exact rfl)); simp only [List.getElem_toArray, List.getElem_cons_succ, List.getElem_cons_zero, Act.put, Act.eval, List.setIfInBounds_toArray, List.set_cons_zero, List.set_cons_succ, Array.getD_eq_getD_getElem?, List.getElem?_toArray, List.getElem?_cons_succ, List.getElem?_cons_zero, Option.getD_some]))
        refine t_done ?_
        have hkP := put5_kb (Z := fun x => x = bw) u1 bw (.slice (some ⟨bl2, ol2, none⟩) 6 cl2) (.slice ad22 D2.op.length c22) (.bool D2.down) (.int .i64 D2.steps) (.slice ad32 D2.plan.length c32) rfl
        have hLP := HLP2.out
        clear HLP2
        unfold put5 at hkP hLP
        have HkP := Lib.hid hkP
        have HLP := Lib.hid hLP
        clear hkP hLP HLP1 Hbox
        generalize ((((u1.setCell ⟨bw, 0, none⟩ (.slice (some ⟨bl2, ol2, none⟩) 6 cl2)).setCell ⟨bw, 1, none⟩ (.slice ad22 D2.op.length c22)).setCell ⟨bw, 2, none⟩ (.bool D2.down)).setCell ⟨bw, 3, none⟩ (.int .i64 D2.steps)).setCell ⟨bw, 4, none⟩ (.slice ad32 D2.plan.length c32) = wp at *
        clear HS HzF Hzok HrO1
        have Hro1 := Lib.hid ((readAt_below Hbd.out (readAt_lt Hro.out) 0 4).trans Hro.out)
        have Hro2 := Lib.hid ((rd_same (HK2.out.block _ (readAt_lt Hro1.out) Hbo.out) 0 4).trans Hro1.out)
        have Hro3 := Lib.hid ((rd_same (HkP.out.block _ (readAt_lt Hro2.out) Hbb.out) 0 4).trans Hro2.out)
        have Hbo3 : Hid (¬ p2.has w.heap.size) := fun hx => by
          rcases Hh2.out _ hx with h1 | h1
          · exact Hbo.out h1
          · have := readAt_lt Hro1.out; omega
        have Hpn3 : Hid (D2.plan = []) := by (show _ = _; rw [← HD2.out]; exact plan_nil_play D z.1 Hpn.out H3.out H4.out)
        clear Hro Hro1 Hro2 Hbo Hpn H3 H4
        go_wp2
        go_round
        case rel => exact ⟨j + 1, by omega, by go_num, p2, D2, _, _, _, HB2p.out, HLP.out, Hpn3.out, Hro3.out, Hbo3.out, Hbb.out⟩
        case measure => simp [intOf]; omega
    · obtain rfl : j = L.length := by omega
      go_wp2_with fail
      have hcall := dfail_any wr 1 (2 * L.length) [] HLP.out.both.d HLP.out.ok (by omega) (by omega)
      rw [plan_failD D Hpn.out] at hcall
      refine hcall.mono ?_
      rintro _ u1 ⟨rfl, p3, hB3, hA3, hK3, hh3⟩
      obtain ⟨bl, ol, cl1, ad2, ad3, c2, c3, rfl, rfl, rfl⟩ := HLP.out.both.r.open_
      have HA := Lib.hid hA3
      have HB3 := Lib.hid hB3
      have HR : Hid (RAt u1 (fun x => p3.has x ∨ x = bw) 6 D (.slice (some ⟨bl, ol, none⟩) 6 cl1) (.slice ad2 D.op.length c2) (.slice ad3 D.plan.length c3)) := HLP.out.both.r.kb ⟨hK3.os, hK3.tape, hK3.output, hK3.size, fun x h1 h2 => hK3.block x h1 (fun e => h2 (.inl e))⟩ (fun x hx => by
        rcases hx with hx | hx
        · rcases hh3 x hx with h1 | h1
          · exact .inl (.inl h1)
          · exact .inr h1
        · exact .inl (.inr hx))
      have HC := Lib.hid (HLP.out.box.kb hK3 HLP.out.bp)
      have HO := Lib.hid ((rd_same (hK3.block _ (readAt_lt Hro.out) Hbo.out) 0 4).trans Hro.out)
      have HbwP : Hid (¬ p3.has bw) := fun hx => by
        rcases hh3 _ hx with h1 | h1
        · exact HLP.out.bp h1
        · have := HLP.out.box.lt; omega
      have HBel : Hid (Below w.heap.size w u1) := HLP.out.both.bel.trans (hK3.below HLP.out.both.d.ok.lo HLP.out.both.bel.size)
      have HOk := Lib.hid HLP.out.ok
      have Hlow : Hid (w.heap.size ≤ bw) := HLP.out.bb
      clear hcall hB3 hA3 hK3 hh3 HLP Hro Hbo Hbb
      go_wp2_with fail
      have hcall := steps_any u1 HA.out
      rw [HB3.out, show (failD D).steps = D.steps from rfl] at hcall
      refine hcall.mono ?_
      rintro _ _ ⟨rfl, rfl⟩
      clear hcall
      have hcO := fun i v hv => readAt_cell HO.out i v hv
      simp only [Nat.zero_add] at hcO
      have o0 := hcO 0 (.int .i64 2) rfl
      have o1 := hcO 1 (.int .i64 at_) rfl
      have o2 := hcO 2 (.int .u8 (byte.toNat : Int)) rfl
      have Ho1 := Lib.hid o1
      have Ho2 := Lib.hid o2
      clear hcO
      have s0 := HOk.out.s0
      have s1 := HOk.out.s1
      have hwr : IntKind.i64.wrap (D.steps + 1) = D.steps + 1 := by rw [IntKind.wrap_i64]; omega
      cases hdn : D.down with
      | true =>
        have HC1 : Hid (C5 u1 bw (.slice (some ⟨bl, ol, none⟩) 6 cl1) (.slice ad2 D.op.length c2) (.bool true) (.int .i64 D.steps) (.slice ad3 D.plan.length c3)) := by (show C5 _ _ _ _ _ _ _; rw [← hdn]; exact HC.out)
        have Hdn := Lib.hid hdn
        clear hdn HC
        go_wp2_with fail
        clear o0 o1 o2
        have HA2 := HA
        have HR2 := HR
        have HC2 := HC1
        have HBel2 := HBel
        clear HA HR HC1 HBel
        obtain ⟨u2, hu2⟩ : ∃ u2, u1 = u2 := ⟨_, rfl⟩
        subst hu2
        have hcall := dsync_any u1 (2 * L.length) HA2.out ⟨HOk.out.len, HOk.out.at_, HOk.out.few, HOk.out.s0, HOk.out.s1⟩ (by omega) (by omega) HBel2.out.size
        rw [HB3.out, show (syncD (failD D)).2 = 12 by (rw [sync_down (failD D) Hdn.out])] at hcall
        refine hcall.mono ?_
        rintro _ u3 ⟨rfl, hN⟩
        have hN' : DNext u1 w.heap.size p3 6 (failD D) u3 := by have h1 := hN; rw [sync_down (failD D) Hdn.out] at h1; exact h1
        obtain ⟨p4, hB4, hA4, hK4, hh4⟩ := hN'
        have HA4 := Lib.hid hA4
        have HB4 := Lib.hid hB4
        have HC4 := Lib.hid (HC2.out.kb hK4 HbwP.out)
        have HBel4 : Hid (Below w.heap.size w u3) := HBel2.out.trans (hK4.below HA2.out.ok.lo HBel2.out.size)
        clear hcall hN hA4 hB4 hK4 hh4 HC2 HBel2
        skip
        obtain ⟨b0, b1, b2, b3, b4⟩ := HC4.out.cells
        go_wp2_with fail
        clear b0 b1 b2 b3 b4
        refine (code_any 12 0 _).mono ?_
        rintro _ u4 ⟨rfl, hb4⟩
        have HA5 := Lib.hid (HA4.out.below hb4)
        have HBel5 : Hid (Below w.heap.size w u4) := HBel4.out.trans (hb4.mono HBel4.out.size)
        clear hb4
        go_wp2_with fail
        have hcall := steps_any u4 HA5.out
        rw [HB4.out, HB3.out, show (failD D).steps = D.steps from rfl] at hcall
        refine hcall.mono ?_
        rintro _ _ ⟨rfl, rfl⟩
        clear hcall
        go_wp2
        go_ret
        exact ⟨rfl, HBel5.out⟩
      | false =>
        have HC1 : Hid (C5 u1 bw (.slice (some ⟨bl, ol, none⟩) 6 cl1) (.slice ad2 D.op.length c2) (.bool false) (.int .i64 D.steps) (.slice ad3 D.plan.length c3)) := by (show C5 _ _ _ _ _ _ _; rw [← hdn]; exact HC.out)
        have Hdn := Lib.hid hdn
        clear hdn HC
        go_wp2_with fail
        clear o0 o1 o2
        have HA2 := HA
        have HR2 := HR
        have HC2 := HC1
        have HBel2 := HBel
        clear HA HR HC1 HBel
        obtain ⟨u2, hu2⟩ : ∃ u2, u1 = u2 := ⟨_, rfl⟩
        subst hu2
        have hcall := dsync_any u1 (2 * L.length) HA2.out ⟨HOk.out.len, HOk.out.at_, HOk.out.few, HOk.out.s0, HOk.out.s1⟩ (by omega) (by omega) HBel2.out.size
        rw [HB3.out, show (syncD (failD D)).2 = 11 by (rw [sync_failD D Hdn.out])] at hcall
        refine hcall.mono ?_
        rintro _ u3 ⟨rfl, hN⟩
        have hN' : DNext u1 w.heap.size p3 6 (tickD (failD D)) u3 := by have h1 := hN; rw [sync_failD D Hdn.out] at h1; exact h1
        obtain ⟨p4, hB4, hA4, hK4, hh4⟩ := hN'
        have HA4 : Hid (DAt u3 w.heap.size p4 6 (tickD D)) := hA4.failed Hpn.out
        have HB4 := Lib.hid hB4
        have HC4 := Lib.hid (HC2.out.kb hK4 HbwP.out)
        have HbwP4 : Hid (¬ p4.has bw) := fun hx => by
          rcases hh4 _ hx with h1 | h1
          · exact HbwP.out h1
          · have := HC2.out.lt; omega
        have HR4 : Hid (RAt u3 (fun x => p4.has x ∨ x = bw) 6 D (.slice (some ⟨bl, ol, none⟩) 6 cl1) (.slice ad2 D.op.length c2) (.slice ad3 D.plan.length c3)) := HR2.out.kb ⟨hK4.os, hK4.tape, hK4.output, hK4.size, fun x h1 h2 => hK4.block x h1 (fun e => h2 (.inl e))⟩ (fun x hx => by
          rcases hx with hx | hx
          · rcases hh4 x hx with h1 | h1
            · exact .inl (.inl h1)
            · exact .inr h1
          · exact .inl (.inr hx))
        have HBel4 : Hid (Below w.heap.size w u3) := HBel2.out.trans (hK4.below HA2.out.ok.lo HBel2.out.size)
        clear hcall hN hA4 hB4 hK4 hh4 HC2 HBel2 HR2
        skip
        have hk9 : Kb (fun x => x = bw) u3 (u3.setCell ⟨bw, 3, none⟩ (.int .i64 (D.steps + 1))) := (Kb.refl _ _).setC _ _ rfl
        have HC9 := Lib.hid (HC4.out.set3 (.int .i64 (D.steps + 1)))
        have HA9 := Lib.hid (HA4.out.kb hk9 (fun x h1 h2 => HbwP4.out (h2 ▸ h1)))
        have HR9 := Lib.hid (HR4.out.kb (X' := fun x => p4.has x ∨ x = bw) ⟨hk9.os, hk9.tape, hk9.output, hk9.size, fun x h1 h2 => hk9.block x h1 (fun e => h2 (.inr e))⟩ (fun x hx => .inl hx))
        have HBel9 : Hid (Below w.heap.size w (u3.setCell ⟨bw, 3, none⟩ (.int .i64 (D.steps + 1)))) := HBel4.out.trans (hk9.below (fun x hx => by subst hx; exact Hlow.out) HBel4.out.size)
        clear hk9
        obtain ⟨b0, b1, b2, b3, b4⟩ := HC4.out.cells
        obtain ⟨f0, f1, f2, f3, f4⟩ := HC4.out.free
        go_wp2_with fail
        clear b0 b1 b2 b3 b4 f0 f1 f2 f3 f4
        generalize u3.setCell ⟨bw, 3, none⟩ (.int .i64 (D.steps + 1)) = u9 at *
        refine (code_any 11 0 _).mono ?_
        rintro _ u4 ⟨rfl, hb4⟩
        have HA5 := Lib.hid (HA9.out.below hb4)
        have HC5 := Lib.hid (HC9.out.below hb4)
        have HR5 := Lib.hid (HR9.out.below hb4)
        have HBel5 : Hid (Below w.heap.size w u4) := HBel9.out.trans (hb4.mono HBel9.out.size)
        clear hb4
        obtain ⟨b0, b1, b2, b3, b4⟩ := HC5.out.cells
        go_wp2_with fail
        clear b0 b1 b2 b3 b4
        have hst := state_any u4 w.heap.size p4 (fun x => p4.has x ∨ x = bw) 6 (2 * L.length + 1) (tickD D) (.slice (some ⟨bl, ol, none⟩) 6 cl1) (.slice ad2 D.op.length c2) (.slice ad3 D.plan.length c3) HA5.out ⟨HR5.out.st, HR5.out.op, HR5.out.pl⟩ HOk.out.tick (by omega) (by omega)
        unfold rV at hst
        rw [HB4.out, HB3.out, show (tickD D).down = false from Hdn.out, show (tickD D).steps = D.steps + 1 from rfl] at hst
        refine hst.mono ?_
        rintro _ u6 ⟨rfl, hb6⟩
        have HBel6 : Hid (Below w.heap.size w u6) := HBel5.out.trans (hb6.mono HBel5.out.size)
        clear hb6 hst
        go_wp2
        go_ret
        exact ⟨rfl, HBel6.out⟩

set_option maxRecDepth 100000 in
set_option maxHeartbeats 1600000 in
theorem law_dpl_no (v : Value) (L : List (OpM × Value)) (kind at_ : Int) (byte : UInt8) (cuts : List Int) (ado : Option Addr) (co : Nat) (w : World) (hL : OpsR w v L)
    (hz : OpOk w (⟨kind, at_, byte, cuts⟩, .slice ado cuts.length co))
    (hno : fewB L = false ∨ (fewB L = true ∧ fewB [((⟨kind, at_, byte, cuts⟩ : OpM), Value.slice ado cuts.length co)] = false) ∨ (fewB L = true ∧ fewB [((⟨kind, at_, byte, cuts⟩ : OpM), Value.slice ado cuts.length co)] = true ∧ (kind == 1) = false ∧ (kind == 2) = false)) :
    Calls Try.prog 7 #[v, .agg #[.int .i64 kind, .int .i64 at_, .int .u8 (byte.toNat : Int), .slice ado cuts.length co]] w fun e w' => e = .returned (.bool true) ∧ Below w.heap.size w w' := by
  obtain ⟨adl, cl, rfl, _⟩ := hL.r
  have HL := Lib.hid hL
  have Hz := Lib.hid hz
  have Hno := Lib.hid hno
  clear hL hz hno
  go_enter Try.func7, Try.ntmps7
  go_wp2_with fail
  have HB0 : Hid (Below w.heap.size w (w.alloc (.cells #[.int .i64 kind, .int .i64 at_, .int .u8 (byte.toNat : Int), .slice ado cuts.length co] 30))) := ba _ (Below.refl _ _)
  have HO0 : Hid (readAt (w.alloc (.cells #[.int .i64 kind, .int .i64 at_, .int .u8 (byte.toNat : Int), .slice ado cuts.length co] 30)) w.heap.size 0 4 = some #[.int .i64 kind, .int .i64 at_, .int .u8 (byte.toNat : Int), .slice ado cuts.length co]) := by unfold Hid; rw [readAt_alloc_at _ _ _ _ _ _ _ rfl (by simp)]; rfl
  generalize w.alloc (.cells #[.int .i64 kind, .int .i64 at_, .int .u8 (byte.toNat : Int), .slice ado cuts.length co] 30) = w0 at *
  refine (dawake_any w0).mono ?_
  rintro _ w1 ⟨rfl, hb1⟩
  have HO1 := Lib.hid ((readAt_below hb1 (readAt_lt HO0.out) 0 4).trans HO0.out)
  have HB1 : Hid (Below w.heap.size w w1) := HB0.out.trans (hb1.mono HB0.out.size)
  clear hb1 HO0 HB0
  go_wp2_with fail
  have hc := few_any _ L w1 (HL.out.below HB1.out)
  rcases Hno.out with h1 | ⟨h1, h2⟩ | ⟨h1, h2, h3, h4⟩
  · rw [h1] at hc
    refine hc.mono ?_
    rintro _ w2 ⟨rfl, rfl⟩
    clear hc h1
    go_wp2_with fail
    refine (dawake_any _).mono ?_
    rintro _ w3 ⟨rfl, hb3⟩
    have HB3 : Hid (Below w.heap.size w w3) := HB1.out.trans (hb3.mono HB1.out.size)
    clear hb3
    go_wp2
    go_ret
    exact ⟨rfl, HB3.out⟩
  all_goals
    rw [h1] at hc
    refine hc.mono ?_
    rintro _ w2 ⟨rfl, rfl⟩
    clear hc h1
    have hcO := fun i v hv => readAt_cell HO1.out i v hv
    simp only [Nat.zero_add] at hcO
    have o0 := hcO 0 (.int .i64 kind) rfl
    have o1 := hcO 1 (.int .i64 at_) rfl
    have o2 := hcO 2 (.int .u8 (byte.toNat : Int)) rfl
    have o3 := hcO 3 (.slice ado cuts.length co) rfl
    clear hcO
    have hbo := run_SliceOp1 w1 kind at_ (byte.toNat : Int) ado cuts.length co
    go_wp2_with fail
    clear o0 o1 o2 o3 hbo
    have hbA := ba (.cells #[.int .i64 kind, .int .i64 at_, .int .u8 (byte.toNat : Int), .slice ado cuts.length co] 30) (Below.refl w1.heap.size w1)
    have hlz : OpsR (w1.alloc (.cells #[.int .i64 kind, .int .i64 at_, .int .u8 (byte.toNat : Int), .slice ado cuts.length co] 30)) (.slice (some ⟨w1.heap.size, 0, none⟩) 1 1) [(⟨kind, at_, byte, cuts⟩, .slice ado cuts.length co)] :=
      ⟨⟨_, 1, rfl, Nat.le_refl _, by simp [maxLen], by simp [flat, oc], fun h => (by cases h), fun _ => ⟨w1.heap.size, 0, rfl, by (rw [readAt_alloc_at _ _ _ _ _ _ _ rfl (by simp)]; rfl)⟩⟩, fun q hq => by
        obtain rfl : q = (⟨kind, at_, byte, cuts⟩, .slice ado cuts.length co) := by simpa using hq
        exact ⟨Hz.out.k, Hz.out.a, (Hz.out.c.below HB1.out).below hbA, Hz.out.i⟩⟩
    have HO2 : Hid (readAt (w1.alloc (.cells #[.int .i64 kind, .int .i64 at_, .int .u8 (byte.toNat : Int), .slice ado cuts.length co] 30)) w.heap.size 0 4 = some #[.int .i64 kind, .int .i64 at_, .int .u8 (byte.toNat : Int), .slice ado cuts.length co]) := (readAt_below hbA (readAt_lt HO1.out) 0 4).trans HO1.out
    have HB2 : Hid (Below w.heap.size w (w1.alloc (.cells #[.int .i64 kind, .int .i64 at_, .int .u8 (byte.toNat : Int), .slice ado cuts.length co] 30))) := HB1.out.trans (hbA.mono HB1.out.size)
    have hc := few_any _ _ _ hlz
    rw [h2] at hc
    refine hc.mono ?_
    rintro _ w2 ⟨rfl, rfl⟩
    clear hc hbA hlz HO1 HB1 h2
    generalize w1.alloc (.cells #[.int .i64 kind, .int .i64 at_, .int .u8 (byte.toNat : Int), .slice ado cuts.length co] 30) = w2 at *
    have hcO := fun i v hv => readAt_cell HO2.out i v hv
    simp only [Nat.zero_add] at hcO
    have o0 := hcO 0 (.int .i64 kind) rfl
    clear hcO
    try have h5 : (kind != 1) = true := by (have := h3; simp only [bne, this]; rfl)
    try have h6 : (kind != 2) = true := by (have := h4; simp only [bne, this]; rfl)
    try have h7 : decide (kind = 1) = false := by (have := h3; simpa using this)
    try have h8 : decide (kind = 2) = false := by (have := h4; simpa using this)
    go_wp2_with fail
    refine (dawake_any _).mono ?_
    rintro _ w3 ⟨rfl, hb3⟩
    have HB3 : Hid (Below w.heap.size w w3) := HB2.out.trans (hb3.mono HB2.out.size)
    clear hb3
    go_wp2
    go_ret
    exact ⟨rfl, HB3.out⟩
theorem law_dpl (v : Value) (L : List (OpM × Value)) (z : OpM × Value) (w : World) (hL : OpsR w v L) (hz : OpOk w z) :
    Calls Try.prog 7 #[v, .agg (oc z)] w fun e w' => e = .returned (.bool true) ∧ Below w.heap.size w w' := by
  obtain ⟨⟨kind, at_, byte, cuts⟩, cv⟩ := z
  obtain ⟨ado, co, e, _⟩ := hz.c
  simp only at e
  subst e
  unfold oc
  simp only
  cases h1 : fewB L with
  | false => exact law_dpl_no v L kind at_ byte cuts ado co w hL hz (.inl h1)
  | true =>
    cases h2 : fewB [((⟨kind, at_, byte, cuts⟩ : OpM), Value.slice ado cuts.length co)] with
    | false => exact law_dpl_no v L kind at_ byte cuts ado co w hL hz (.inr (.inl ⟨h1, h2⟩))
    | true =>
      by_cases k1 : kind = 1
      · subst k1; exact law_dpl_1 v L at_ byte cuts ado co w hL h1 hz h2
      · by_cases k2 : kind = 2
        · subst k2; exact law_dpl_2 v L at_ byte cuts ado co w hL h1 hz h2
        · exact law_dpl_no v L kind at_ byte cuts ado co w hL hz (.inr (.inr ⟨h1, h2, by simpa using k1, by simpa using k2⟩))
end Go.Proofs.Ytjedlcfeobhjnaa
