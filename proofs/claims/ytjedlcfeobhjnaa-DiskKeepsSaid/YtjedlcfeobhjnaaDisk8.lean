/- What Sync of a disk computes. Conditions: the receiver is a disk; the numbers are small. -/
import Derived.Test.YtjedlcfeobhjnaaDisk7
set_option linter.unusedSimpArgs false
set_option linter.unusedVariables false
namespace Go.Proofs.Ytjedlcfeobhjnaa
open Go.RowKit Go.ChangeMaps

section
variable {base n : Nat} {p : DP} {D : DM}
theorem tear_all (x y : Sec) : tear x y 64 = y := by
  apply Vector.ext; intro i hi; simp [tear]; intro h; omega
/-- The sectors have been written in place. -/
theorem DAt.inS {w u : World} (h : DAt w base p n D) (st' : List Sec) (hk : Kb (fun b => b = p.gs) w u)
    (hsr : readAt u p.gs 0 (n * 64) = some (flat av st').toArray) (hsk : canAt u p.gs 0 (n * 64) = true) : DAt u base p n { D with st := st' } := by
  obtain ⟨n1, n2, n3, n4, n5, n6, n7, n8, n9, n10⟩ := h.ok.ne
  obtain ⟨M, hM, hM2, hM3⟩ := h.fa
  obtain ⟨M', hM', hM2'⟩ := h.cr
  have hkb : ∀ b, b < w.heap.size → b ≠ p.gs → u.heap[b]? = w.heap[b]? := fun b h1 h2 => hk.block b h1 h2
  have hcb : ∀ b, b ∈ p.cb → b < w.heap.size → u.heap[b]? = w.heap[b]? := fun b hb1 hb2 => hkb b hb2 (fun e => (h.ok.c b hb1).1 (e ▸ five_gs p))
  refine ⟨h.ok, ?_, ?_, hsr, hsk, h.sc, own_same h.op (fun b hb1 hl => hkb b hl (h.ok.o' (five_gs p) b hb1)), h.la.kept (hkb _ h.la.lt n5.symm), ⟨M, hM.kept (hkb _ hM.lt n6.symm), hM2, hM3⟩, ⟨M', hM'.kept (hkb _ hM'.lt n7.symm), fun k hk1 => ?_⟩, fun b hb1 => Nat.lt_of_lt_of_le (h.lt b hb1) hk.size⟩
  · rw [← h.r]; simp [readAt, hkb p.B (readAt_lt h.r) n1]
  · rw [← h.k]; simp [canAt, hkb p.B (readAt_lt h.r) n1]
  · rcases hM2' k hk1 with h1 | ⟨cs, v, h1, h2, h3, h4⟩
    · exact .inl h1
    · exact .inr ⟨cs, v, h1, h2, h3.same (fun g hg hl => hcb g (h4 g hg) hl), h4⟩

def crashR (D : DM) (k : Nat) : List Sec := crashK D.st D.op (fun _ => 64) k
def SyncRel (w2 : World) (p : DP) (n : Nat) (D : DM) (k : Nat) (wr : World) : Prop :=
  Kb (fun b => b = p.gs) w2 wr ∧ readAt wr p.gs 0 (n * 64) = some (flat av (crashR D k)).toArray ∧ canAt wr p.gs 0 (n * 64) = true

set_option maxRecDepth 100000 in
set_option maxHeartbeats 3200000 in
theorem dsync_any (w : World) (m : Nat) (h : DAt w base p n D) (hD : OkD D n m) (hm : m + 2 ≤ 100000) (hn : n ≤ 5000) (hbase : base ≤ w.heap.size) :
    Calls Try.prog 16 #[.pointer (some ⟨p.B, 0, none⟩)] w fun e w' => e = .returned (errV (syncD D).2 0) ∧ DNext w base p n (syncD D).1 w' := by
  obtain ⟨-, -, -, c3, -⟩ := h.cells
  have HA := Lib.hid h
  have HD := Lib.hid hD
  have Hbase := Lib.hid hbase
  clear h hD hbase
  cases hdn : D.down with
  | true =>
    have HM : Hid (syncD D = (D, 12)) := by unfold Hid syncD; rw [if_pos hdn]
    rw [hdn] at c3
    clear hdn
    go_enter Try.func16, Try.ntmps16
    go_wp2
    go_ret
    rw [HM.out]
    exact ⟨rfl, p, rfl, HA.out, Kb.refl _ _, fun b hb => .inl hb⟩
  | false =>
    rw [hdn] at c3
    have Hdn := Lib.hid hdn
    clear hdn
    go_enter Try.func16, Try.ntmps16
    go_wp2_with fail
    clear c3
    refine (step_any' w HA.out HD.out.s0 (by have := HD.out.s1; omega)).mono ?_
    rintro _ w2 ⟨hout, hA2, hK2⟩
    have HK2 := Lib.hid hK2
    have HA2 := Lib.hid hA2
    have Hb2 : Hid (base ≤ w2.heap.size) := Nat.le_trans Hbase.out HK2.out.size
    have HT := Lib.hid HD.out.tick
    have Hfew : Hid (D.op.length ≤ 100000) := by have := HD.out.few; show _ ≤ _; omega
    clear hA2 hK2 HA
    rcases hout with ⟨cs, v, e1, rfl, e2⟩ | ⟨e1, e2, rfl⟩ | ⟨e1, e2, rfl⟩
    · have HM : Hid (syncD D = (crashD (tickD D) cs, 12)) := by unfold Hid syncD; rw [if_neg (by rw [Hdn.out]; decide), e1]
      have HE := Lib.hid e2
      clear e1 e2
      go_wp2_with fail
      refine (dcrash_any w2 v cs (m + 1) HA2.out HT.out (by omega) hn Hb2.out HE.out.1).mono ?_
      rintro _ w4 ⟨rfl, hN⟩
      have HN := Lib.hid (DNext.of_kb HK2.out hN)
      clear hN
      go_wp2
      go_ret
      rw [HM.out]
      exact ⟨rfl, HN.out⟩
    · have HM : Hid (syncD D = (tickD D, 11)) := by unfold Hid syncD; rw [if_neg (by rw [Hdn.out]; decide), e1]; simp only; rw [if_pos e2]
      clear e1 e2
      go_wp2
      go_ret
      rw [HM.out]
      exact ⟨rfl, p, rfl, HA2.out, HK2.out, fun b hb => .inl hb⟩
    · have hnf : ¬ evF D.plan (D.steps + 1) = true := by rw [e2]; decide
      have HM : Hid (syncD D = (flushD (tickD D), 0)) := by unfold Hid syncD; rw [if_neg (by rw [Hdn.out]; decide), e1]; simp only; rw [if_neg hnf]
      obtain ⟨ad, cap, hv⟩ : ∃ ad cap, p.vo = .slice ad D.op.length cap := by
        obtain ⟨ad, cap, hv, _⟩ := RdS_of_own HA2.out.op
        exact ⟨ad, cap, hv⟩
      obtain ⟨c0, c1, -⟩ := HA2.out.cells
      rw [hv] at c1
      have HV := Lib.hid hv
      have HC0 := Lib.hid c0
      clear e1 e2 hnf hv c0
      go_wp2_with fail
      clear c1
      go_loopw [36] (fun i wr => ∃ k : Nat, k ≤ D.op.length ∧ i = .int .i64 k ∧ SyncRel w2 p n (tickD D) k wr) (fun i _ => D.op.length - (intOf i).toNat)
      case atStart => exact ⟨0, Nat.zero_le _, rfl, Kb.refl _ _, HA2.out.sr, HA2.out.sk⟩
      case round =>
        obtain ⟨k, hk, rfl, hrel⟩ := hrel
        have HR := Lib.hid hrel
        clear hrel
        by_cases hlt : k < D.op.length
        · obtain ⟨d, hdk⟩ : ∃ d, D.op[k]'hlt = d := ⟨_, rfl⟩
          obtain ⟨at_, x⟩ := d
          have hat := HD.out.at_ _ (List.getElem_mem hlt)
          rw [hdk] at hat
          obtain ⟨j, hj⟩ : ∃ j : Nat, at_ = (j : Int) := ⟨at_.toNat, by simp only at hat; omega⟩
          subst hj
          have hjn : j < n := by simp only at hat; omega
          have hop : wr.ownsRow base 74 65 p.vo D.op.length (flat wp2 D.op) := own_same HA2.out.op (fun b hb hl => HR.out.1.block b hl (HA2.out.ok.o' (five_gs p) b hb))
          obtain ⟨bw, ow, cw, hv2, hc1, hc2, hrw⟩ := (RdS_of_own hop).at k hlt
          rw [HV.out] at hv2
          simp only [Value.slice.injEq, true_and] at hv2
          obtain ⟨rfl, rfl⟩ := hv2
          rw [flat_get wp2 65 size_wp2 D.op k hlt, hdk] at hrw
          simp only [wp2] at hrw
          obtain ⟨M, hM⟩ : ∃ M, crashR (tickD D) k = M := ⟨_, rfl⟩
          have hML : M.length = n := by rw [← hM]; unfold crashR; rw [crashK_length]; exact HD.out.len
          have hstep : crashR (tickD D) (k + 1) = M.set j x := by
            rw [← hM]
            have hgd : D.op.getD k (0, zsec) = ((j : Int), x) := by rw [← hdk, List.getD_eq_getElem?_getD, List.getElem?_eq_getElem hlt]; rfl
            show step1 (crashK D.st D.op (fun _ => 64) k) (D.op.getD k (0, zsec)) 64 = _
            rw [hgd]
            unfold step1
            rw [tear_all, Int.toNat_natCast]; rfl
          have Hstep := Lib.hid hstep
          have HML := Lib.hid hML
          have hr3 : readAt wr p.gs 0 (n * 64) = some (flat av M).toArray := by rw [← hM]; exact HR.out.2.1
          have Hr3 := Lib.hid hr3
          have Hk3 := Lib.hid HR.out.2.2
          have HKR := Lib.hid HR.out.1
          have hB3 : readAt wr p.B 0 7 = some (d7 p n D.down (D.steps + 1)) := by
            have h1 : wr.heap[p.B]? = w2.heap[p.B]? := HR.out.1.block _ (readAt_lt HA2.out.r) HA2.out.ok.ne.1
            rw [← show readAt w2 p.B 0 7 = some (d7 p n D.down (D.steps + 1)) from HA2.out.r]; simp [readAt, h1]
          have HB3 := Lib.hid hB3
          have HgB : Hid (p.gs ≠ p.B) := HA2.out.ok.ne.1.symm
          clear hdk hat hop hc1 hc2 hstep hML hr3 hB3 hM HR
          obtain ⟨wa, hwa⟩ : ∃ wa, setAt (wr.alloc (.cells (wv 0 zsec) 74)) wr.heap.size 0 (wv j x) = wa := ⟨_, rfl⟩
          have hbwa : Below wr.heap.size wr wa := by
            rw [← hwa]; exact setAt_below (ba _ (Below.refl _ _)) (Nat.le_refl _) _ _
          have hcz : canAt (wr.alloc (.cells (wv 0 zsec) 74)) wr.heap.size 0 65 = true := canAt_alloc_at _ _ _ _ _ _ rfl (by simp)
          have hrc : readAt wa wr.heap.size 0 65 = some (wv j x) := by rw [← hwa]; exact readAt_setAt_same _ _ _ _ _ (by simp) hcz
          have Hrc := Lib.hid hrc
          have Hbwa := Lib.hid hbwa
          have Hcz := Lib.hid hcz
          have hlbw := readAt_lt hrw
          have hk0 : (0 : Int) ≤ (k : Int) := by omega
          have hk1 : (k : Int) < (D.op.length : Int) := by omega
          have hj0 : (0 : Int) ≤ (j : Int) := by omega
          have hj1 : (j : Int) < (n : Int) := by omega
          clear hrc hbwa
          go_wp2_with fail
          clear hwa hcz
          refine wp_region_tr (.take 0 (.take 1 (.take 2 (.take 3 (.take 4 (.take 5 (.take 6 (.take 7 (.take 8 (.run 9 .done)))))))))) (fun u => readAt u p.B 0 7 = some (d7 p n D.down (D.steps + 1)) ∧ readAt u wr.heap.size 0 65 = some (wv j x)) (by kernel_rfl) (by kernel_rfl) rfl (by kernel_rfl) ⟨(readAt_below Hbwa.out (readAt_lt HB3.out) 0 7).trans HB3.out, Hrc.out⟩ ?_
          repeat (first | (refine t_off rfl rfl ?_; simp only [List.getElem_toArray, List.getElem_cons_succ, List.getElem_cons_zero, Act.put, Act.eval, List.setIfInBounds_toArray, List.set_cons_zero, List.set_cons_succ, Array.getD_eq_getD_getElem?, List.getElem?_toArray, List.getElem?_cons_succ, List.getElem?_cons_zero, Option.getD_some]) | (refine t_move rfl _ rfl rfl ?_; simp only [List.getElem_toArray, List.getElem_cons_succ, List.getElem_cons_zero, Act.put, Act.eval, List.setIfInBounds_toArray, List.set_cons_zero, List.set_cons_succ, Array.getD_eq_getD_getElem?, List.getElem?_toArray, List.getElem?_cons_succ, List.getElem?_cons_zero, Option.getD_some]) | (refine t_assign rfl _ rfl rfl ?_; simp only [List.getElem_toArray, List.getElem_cons_succ, List.getElem_cons_zero, Act.put, Act.eval, List.setIfInBounds_toArray, List.set_cons_zero, List.set_cons_succ, Array.getD_eq_getD_getElem?, List.getElem?_toArray, List.getElem?_cons_succ, List.getElem?_cons_zero, Option.getD_some]) | (refine t_val rfl rfl ?_; apply Exists.intro; refine ⟨fun w' hC' => ?_, ?_⟩; (obtain ⟨c0, -⟩ := d7_cells hC'.1; have hca := readAt_cell hC'.2 0 (.int .i64 j) (wv_at _ _); rw [Nat.add_zero] at hca; have hcd : readAt w' wr.heap.size 1 64 = some (av x) := (readAt_sub hC'.2 1 64 (by omega) (by omega)).trans (congrArg some (wv_data _ _)); go_simp; (first | done | exact rfl)); simp only [List.getElem_toArray, List.getElem_cons_succ, List.getElem_cons_zero, Act.put, Act.eval, List.setIfInBounds_toArray, List.set_cons_zero, List.set_cons_succ, Array.getD_eq_getD_getElem?, List.getElem?_toArray, List.getElem?_cons_succ, List.getElem?_cons_zero, Option.getD_some]) | (refine p_off rfl rfl ?_; simp only [List.getElem_toArray, List.getElem_cons_succ, List.getElem_cons_zero, Act.put, Act.eval, List.setIfInBounds_toArray, List.set_cons_zero, List.set_cons_succ, Array.getD_eq_getD_getElem?, List.getElem?_toArray, List.getElem?_cons_succ, List.getElem?_cons_zero, Option.getD_some]) | (refine p_val rfl rfl ?_; apply Exists.intro; refine ⟨fun w' => ?_, ?_⟩; (go_simp; (first | done | exact rfl)); simp only [List.getElem_toArray, List.getElem_cons_succ, List.getElem_cons_zero, Act.put, Act.eval, List.setIfInBounds_toArray, List.set_cons_zero, List.set_cons_succ, Array.getD_eq_getD_getElem?, List.getElem?_toArray, List.getElem?_cons_succ, List.getElem?_cons_zero, Option.getD_some]))
          have Hbd : Hid (Below wr.heap.size wr wa.drew) := Hbwa.out.drew
          have hr4 := (readAt_below Hbd.out (readAt_lt Hr3.out) 0 (n * 64)).trans Hr3.out
          have hk4 := (canAt_below Hbd.out (readAt_lt Hr3.out) 0 (n * 64)).trans Hk3.out
          have hk5 : canAt wa.drew p.gs (j * 64) 64 = true := canAt_sub hk4 (j * 64) 64 (by omega)
          have Hr4 := Lib.hid hr4
          have Hk4 := Lib.hid hk4
          clear hr4 hk4
          refine r_any rfl rfl (fun K hK => ?_)
          go_simp
          have ho := Ob.setAt wa.drew p.gs (j * 64) (av x)
          have hne : wr.heap.size ≠ p.gs := fun e => by have := readAt_lt Hr3.out; omega
          refine hK _ _ (fun u => readAt u p.B 0 7 = some (d7 p n D.down (D.steps + 1)) ∧ readAt u wr.heap.size 0 65 = some (wv j x)) (fun _ h => h) ⟨?_, ?_⟩ ?_
          · rw [ho.readAt HgB.out.symm]; exact (readAt_below Hbwa.out (readAt_lt HB3.out) 0 7).trans HB3.out
          · rw [ho.readAt hne]; exact Hrc.out
          clear hK K
          try simp only [List.getElem_toArray, List.getElem_cons_succ, List.getElem_cons_zero, Act.put, Act.eval, List.setIfInBounds_toArray, List.set_cons_zero, List.set_cons_succ, Array.getD_eq_getD_getElem?, List.getElem?_toArray, List.getElem?_cons_succ, List.getElem?_cons_zero, Option.getD_some]
          refine t_done ?_
          have HF : Hid (SyncRel w2 p n (tickD D) (k + 1) (setAt wa.drew p.gs (j * 64) (av x))) := by
            refine ⟨(HKR.out.blw Hbd.out).ob ho rfl, ?_, ?_⟩
            · rw [readAt_setAt_over _ _ 0 (n * 64) _ Hr4.out Hk4.out (j * 64) _ (Nat.zero_le _) (by simp; omega), Nat.sub_zero, flat_set av 64 size_av M j (by rw [HML.out]; exact hjn), Hstep.out]
            · rw [canAt_setAt _ _ _ _ _ _ _ (by simpa using hk5)]; exact Hk4.out
          clear ho hne hk5 Hr4 Hk4 Hbd Hcz
          generalize setAt wa.drew p.gs (j * 64) (av x) = w5 at *
          have hfew := Hfew.out
          go_wp2
          go_roundw
          case rel => exact ⟨k + 1, by omega, by go_num, HF.out⟩
          case measure => simp [intOf]; omega
        · obtain rfl : k = D.op.length := by omega
          have HA3 : Hid (DAt wr base p n { tickD D with st := crashR (tickD D) D.op.length }) := HA2.out.inS _ HR.out.1 HR.out.2.1 HR.out.2.2
          have HK3 : Hid (Kb p.has w wr) := HK2.out.trans HR.out.1 (fun i hi => .inl (.inl (by subst hi; exact five_gs p)))
          have Hb3 : Hid (base ≤ wr.heap.size) := Nat.le_trans Hbase.out HK3.out.size
          clear HR
          go_wp2_with fail
          refine (clear_any wr HA3.out Hb3.out).mono ?_
          rintro _ w4 ⟨rfl, hN⟩
          have HN := Lib.hid (DNext.of_kb HK3.out hN)
          clear hN
          go_wp2
          go_ret
          rw [HM.out]
          exact ⟨rfl, HN.out⟩
end
end Go.Proofs.Ytjedlcfeobhjnaa
