/- What New of package fault and Write of a disk compute. Conditions: the receiver is a disk; the numbers are small. -/
import Derived.Test.YtjedlcfeobhjnaaDisk5
set_option linter.unusedSimpArgs false
set_option linter.unusedVariables false
namespace Go.Proofs.Ytjedlcfeobhjnaa
open Go.RowKit Go.ChangeMaps

/-- The error with a code; a fault has a place. -/
def codeV (c : Int) : Value := .iface 66 (.int .i64 c)
def faultV (c k : Int) : Value := .iface 89 (.agg #[.int .i64 c, .int .i64 k])
def errV (c k : Int) : Value := if c = 0 then .nilIface else if c = 15 then faultV 15 k else codeV c

theorem fnew_any (c k : Int) (w : World) :
    Calls Try.prog 32 #[.int .i64 c, .int .i64 k] w fun e w' => e = .returned (faultV c k) ∧ w = w' := by
  go_enter Try.func32, Try.ntmps32
  go_wp2
  go_ret
  exact ⟨rfl, rfl⟩

section
variable {base n : Nat} {p : DP} {D : DM}
theorem DNext.of_below {w w1 w' : World} {D' : DM} (hb : Below w.heap.size w w1) (h : DNext w1 base p n D' w') : DNext w base p n D' w' :=
  DNext.trans rfl (Kb.of_below hb) (fun b hb => .inl hb) h
theorem DNext.of_kb {w w1 w' : World} {D' : DM} (hb : Kb p.has w w1) (h : DNext w1 base p n D' w') : DNext w base p n D' w' :=
  DNext.trans rfl hb (fun b hb => .inl hb) h

set_option maxRecDepth 100000 in
set_option maxHeartbeats 3200000 in
theorem dwrite_any (w : World) (k : Int) (x : Sec) (m : Nat) (h : DAt w base p n D) (hD : OkD D n m) (hm : m + 2 ≤ 100000) (hn : n ≤ 5000) (hbase : base ≤ w.heap.size) :
    Calls Try.prog 13 #[.pointer (some ⟨p.B, 0, none⟩), .int .i64 k, .agg (av x)] w fun e w' => e = .returned (errV (writeD D k x).2 k) ∧ DNext w base p n (writeD D k x).1 w' := by
  obtain ⟨W, hW⟩ : ∃ W, w.alloc (.cells (av x) 35) = W := ⟨_, rfl⟩
  have hb : Below w.heap.size w W := by rw [← hW]; exact ba _ (Below.refl w.heap.size w)
  have hrx : readAt W w.heap.size 0 64 = some (av x) := by rw [← hW]; simp [go_sem]
  have hA := h.below hb
  obtain ⟨-, -, -, c3, -⟩ := hA.cells
  have hlB : ∀ b, p.has b → b < w.heap.size := h.has_lt
  have HlB := Lib.hid hlB
  have HA := Lib.hid hA
  have Hb := Lib.hid hb
  have Hx := Lib.hid hrx
  have HD := Lib.hid hD
  have Hbase := Lib.hid hbase
  clear h hb hrx hA hlB hD hbase
  cases hdn : D.down with
  | true =>
    have HM : Hid (writeD D k x = (D, 12)) := by unfold Hid writeD; rw [if_pos hdn]
    rw [hdn] at c3
    clear hdn
    go_enter Try.func13, Try.ntmps13
    go_wp2
    go_ret
    rw [HM.out]
    exact ⟨rfl, p, rfl, HA.out, Kb.of_below Hb.out, fun b hb => .inl hb⟩
  | false =>
    rw [hdn] at c3
    have Hdn := Lib.hid hdn
    clear hdn
    go_enter Try.func13, Try.ntmps13
    go_wp2_with fail
    clear hW c3
    refine (step_any' W HA.out HD.out.s0 (by have := HD.out.s1; omega)).mono ?_
    rintro _ w2 ⟨hout, hA2, hK2⟩
    have Hx2 : Hid (readAt w2 w.heap.size 0 64 = some (av x)) := by
      have h1 : w2.heap[w.heap.size]? = W.heap[w.heap.size]? := hK2.block _ (readAt_lt Hx.out) (fun e => by have := HlB.out _ e; omega)
      show _ = _
      rw [← Hx.out]; simp [readAt, h1]
    have HK2 : Hid (Kb p.has w w2) := (Kb.of_below (X := p.has) Hb.out).trans hK2 (fun i hi => .inl hi)
    have HA2 := Lib.hid hA2
    have Hb2 : Hid (base ≤ w2.heap.size) := Nat.le_trans Hbase.out HK2.out.size
    have hx2 := Hx2.out
    have HT := Lib.hid HD.out.tick
    have Hfew : Hid (D.op.length ≤ 100000) := by have := HD.out.few; show _ ≤ _; omega
    clear hA2 hK2 Hx HA Hb
    rcases hout with ⟨cs, v, e1, rfl, e2⟩ | ⟨e1, e2, rfl⟩ | ⟨e1, e2, rfl⟩
    · have HM : Hid (writeD D k x = (crashD (addD (tickD D) k x) cs, 12)) := by unfold Hid writeD; rw [if_neg (by rw [Hdn.out]; decide), e1]
      have HE := Lib.hid e2
      clear e1 e2
      go_wp2_with fail
      clear hx2
      cases hk : hasD (tickD D) k with
      | false =>
        have Hadd : Hid (addD (tickD D) k x = tickD D) := by unfold Hid addD; rw [hk]; rfl
        refine (add_no w2 k x HA2.out HT.out.len hn hk).mono ?_
        rintro _ w3 ⟨rfl, hb3⟩
        have HA3 := Lib.hid (HA2.out.below hb3)
        have HK3 := Lib.hid (HK2.out.blw hb3)
        have Hb3 : Hid (base ≤ w3.heap.size) := Nat.le_trans Hb2.out hb3.size
        have Hc3 : Hid (RdS w3 v cs.length 1 (cs.map (Value.int .i64))) := HE.out.1.below (hb3)
        clear hb3 HA2 HK2 HE hk Hx2
        go_wp2_with fail
        refine (dcrash_any w3 v cs (m + 1) HA3.out HT.out (by omega) hn Hb3.out Hc3.out).mono ?_
        rintro _ w4 ⟨rfl, hN⟩
        have HN := Lib.hid (DNext.of_kb HK3.out hN)
        clear hN
        go_wp2
        go_ret
        rw [HM.out, Hadd.out]
        exact ⟨rfl, HN.out⟩
      | true =>
        have hadd : addD (tickD D) k x = { tickD D with op := (tickD D).op ++ [(k, x)] } := by unfold addD; rw [if_pos hk]
        have HT2 : Hid (OkD { tickD D with op := (tickD D).op ++ [(k, x)] } n (m + 2)) := by have := HT.out.add k x; rw [hadd] at this; exact this
        have Hadd := Lib.hid hadd
        clear hadd
        refine (add_yes w2 k x HA2.out HT.out.len hn hk Hfew.out Hb2.out).mono ?_
        rintro _ w3 ⟨rfl, ⟨p3, hB3, hA3, hK3, hh3⟩, hcb⟩
        have Hc3 : Hid (RdS w3 v cs.length 1 (cs.map (Value.int .i64))) := HE.out.1.same (fun g hg hl => hcb g (HE.out.2 g hg))
        have HA3 := Lib.hid hA3
        have HK3 : Hid (Kb p.has w w3) := HK2.out.trans hK3 (fun i hi => .inl hi)
        have Hb3 : Hid (base ≤ w3.heap.size) := Nat.le_trans Hb2.out hK3.size
        have Hh3 : Hid (∀ b, p3.has b → p.has b ∨ w.heap.size ≤ b) := fun b hb => by
          rcases hh3 b hb with h1 | h1
          · exact .inl h1
          · exact .inr (Nat.le_trans HK2.out.size h1)
        clear hA3 hK3 hh3 hcb HA2 HK2 HE hk Hx2
        have HB3 := Lib.hid hB3
        go_wp2_with fail
        rw [← hB3]
        clear hB3
        refine (dcrash_any w3 v cs (m + 2) HA3.out HT2.out (by omega) hn Hb3.out Hc3.out).mono ?_
        rintro _ w4 ⟨rfl, hN⟩
        have HN := Lib.hid (DNext.trans HB3.out HK3.out Hh3.out hN)
        clear hN
        go_wp2
        go_ret
        rw [HM.out, Hadd.out]
        exact ⟨rfl, HN.out⟩
    · have HM : Hid (writeD D k x = (tickD D, 11)) := by unfold Hid writeD; rw [if_neg (by rw [Hdn.out]; decide), e1]; simp only; rw [if_pos e2]
      clear e1 e2
      go_wp2
      go_ret
      rw [HM.out]
      exact ⟨rfl, p, rfl, HA2.out, HK2.out, fun b hb => .inl hb⟩
    · have hnf : ¬ evF D.plan (D.steps + 1) = true := by rw [e2]; decide
      cases hk : hasD (tickD D) k with
      | false =>
        have HM : Hid (writeD D k x = (tickD D, 15)) := by unfold Hid writeD; rw [if_neg (by rw [Hdn.out]; decide), e1]; simp only; rw [if_neg hnf, if_neg (by rw [← hasD_tick, hk]; decide)]
        clear e1 e2 hnf
        go_wp2_with fail
        clear hx2
        refine (add_no w2 k x HA2.out HT.out.len hn hk).mono ?_
        rintro _ w3 ⟨rfl, hb3⟩
        have HA3 := Lib.hid (HA2.out.below hb3)
        have HK3 := Lib.hid (HK2.out.blw hb3)
        clear hb3 HA2 HK2 hk Hx2
        go_wp2_with fail
        refine (fnew_any 15 k _).mono ?_
        rintro _ w4 ⟨rfl, rfl⟩
        go_wp2
        go_ret
        rw [HM.out]
        exact ⟨rfl, p, rfl, HA3.out, HK3.out, fun b hb => .inl hb⟩
      | true =>
        have hadd : addD (tickD D) k x = { tickD D with op := (tickD D).op ++ [(k, x)] } := by unfold addD; rw [if_pos hk]
        have HM : Hid (writeD D k x = ({ tickD D with op := (tickD D).op ++ [(k, x)] }, 0)) := by unfold Hid writeD; rw [if_neg (by rw [Hdn.out]; decide), e1]; simp only; rw [if_neg hnf, if_pos (by rw [← hasD_tick, hk]), hadd]
        clear e1 e2 hnf hadd
        go_wp2_with fail
        clear hx2
        refine (add_yes w2 k x HA2.out HT.out.len hn hk Hfew.out Hb2.out).mono ?_
        rintro _ w3 ⟨rfl, hN, _⟩
        have HN := Lib.hid (DNext.of_kb HK2.out hN)
        clear hN HA2 hk Hx2
        go_wp2
        go_ret
        rw [HM.out]
        exact ⟨rfl, HN.out⟩
end
end Go.Proofs.Ytjedlcfeobhjnaa
