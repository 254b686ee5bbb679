/- The law FrameMakes returns true. Conditions: the number fits 32 bits; the slice reads as bytes. -/
import Derived.Test.YtlonmghkdobhdaaFrAw
import Derived.Test.YtlonmghkdobhdaaQuiet
import Derived.BigQuiet
set_option linter.unusedSimpArgs false
set_option linter.unusedVariables false
namespace Go.Proofs.Ytlonmghkdobhdaa
open Go.RowKit

/-- A slice of the call's own, if it has elements. -/
def Incs (w : World) (base : Nat) (pa : Option Addr) (n : Nat) (F : List UInt8) : Prop := 0 < n → ∃ G, pa = some ⟨G, 0, none⟩ ∧ base ≤ G ∧ readAt w G 0 n = some (bv F) ∧ canAt w G 0 n = true
set_option maxRecDepth 100000 in
set_option maxHeartbeats 6400000 in
theorem law_fmakes (g : Nat) (ad : Option Addr) (n c : Nat) (p : List UInt8) (w : World) (hg : g < 4294967296) (hp : Bs w ad n c p) :
    Calls Try.prog 3 #[.int .u32 g, .slice ad n c] w fun r w' => r = .returned (.bool true) ∧ Below w.heap.size w w' := by
  have Hp := Lib.hid hp
  have Hlen := Lib.hid hp.1
  have hmx : n ≤ 9223372036854775807 := by have := hp.2.1; have := hp.2.2.1; omega
  clear hp
  by_cases hbig : 200 < n
  · have d0 : decide ((200 : Int) < (n : Int)) = true := by simp; omega
    go_enter Try.func3, Try.ntmps3
    go_wp2_with fail
    refine (awake_any _).mono ?_
    rintro _ w1 ⟨rfl, hb1⟩
    go_wp2_with fail
    refine (awake_any _).mono ?_
    rintro _ w2 ⟨rfl, hb2⟩
    have hfin := bt hb1 hb2
    go_wp2
    go_ret
    exact ⟨rfl, hfin⟩
  · have d0 : decide ((200 : Int) < (n : Int)) = false := by simp; omega
    go_enter Try.func3, Try.ntmps3
    go_wp2_with fail
    refine (awake_any _).mono ?_
    rintro _ w1 ⟨rfl, hb1⟩
    have Hp1 := Lib.hid (Hp.out.below hb1)
    have Hb1 := Lib.hid hb1
    clear hb1
    by_cases h54 : 54 < n
    · have d1 : decide ((54 : Int) < (n : Int)) = true := by simp; omega
      go_wp2_with fail
      refine (fmake_no g ad n c _ h54).mono ?_
      rintro _ w2 ⟨rfl, hb2⟩
      have hfin := Lib.hid (ba (.cells (av zsec) 25) (bt Hb1.out hb2))
      have hz : (zsec == zsec) = true := by simp
      clear hb2 h54
      go_wp2
      go_ret
      exact ⟨rfl, hfin.out⟩
    · have d1 : decide ((54 : Int) < (n : Int)) = false := by simp; omega
      have hn : n ≤ 54 := by omega
      clear h54
      go_wp2_with fail
      refine (fmake_yes g ad n c p _ hg Hp1.out hn).mono ?_
      rintro _ w2 ⟨rfl, hb2⟩
      have hpl : p.length ≤ 54 := by rw [Hlen.out]; exact hn
      have hokX := rec_ok (g := g) hpl
      have htagX := rec_tag hpl hg
      have hpayX := rec_pay (g := g) hpl
      obtain ⟨X, hX⟩ : ∃ X, recS g p = X := ⟨_, rfl⟩
      rw [hX] at hokX htagX hpayX ⊢
      have HX := Lib.hid hX
      have HokX := Lib.hid hokX
      have HtagX := Lib.hid htagX
      have HpayX := Lib.hid hpayX
      have hx2 := bt hb2 (ba (.cells (av X) 25) (Below.refl w2.heap.size w2))
      have hr2 : readAt (w2.alloc (.cells (av X) 25)) w2.heap.size 0 64 = some (av X) := by simp [go_sem]
      have Hr2 := Lib.hid hr2
      have Hp2 := Lib.hid (Hp1.out.below hx2)
      have Hb2 := Lib.hid (bt Hb1.out hx2)
      clear hX hokX htagX hpayX hx2 hr2 hb2 Hp1 Hb1 hpl
      go_wp2_with fail
      refine (fparse_any X _).mono ?_
      rintro _ w3 ⟨hpo, hb3⟩
      obtain ⟨v, rfl, hown⟩ := hpo.yes HokX.out
      rw [HtagX.out]
      rw [HpayX.out] at hown
      obtain ⟨pa, pc, rfl, hpb, hab⟩ := hown.above
      rw [Hlen.out]
      have Hr3 : Hid (readAt w3 w2.heap.size 0 64 = some (av X)) := by show _ = _; rw [readAt_below hb3 (readAt_lt Hr2.out)]; exact Hr2.out
      have Hp3 := Lib.hid (Hp2.out.below hb3)
      have Hb3 := Lib.hid (bt Hb2.out hb3)
      have Hlt2 := Lib.hid (readAt_lt Hr2.out)
      have Hsz2 : Hid (w.heap.size ≤ (w2.alloc (.cells (av X) 25)).heap.size) := Hb2.out.size
      have Hown : Hid (ByOwn w3 (w2.alloc (.cells (av X) 25)).heap.size (.slice pa n pc) p) := by
        have h := hown
        rw [Hlen.out] at h
        exact h
      generalize (w2.alloc (.cells (av X) 25)).heap.size = base at *
      clear hpo hb3 hown hpb hab Hr2 Hp2 Hb2
      have hst : Hid (Incs w3 base pa n p) := by
        intro h0
        obtain ⟨G, bc, hv, hbg, hbc, hbcm, hbr, hbk⟩ := Hown.out.view (by rw [Hlen.out]; exact h0)
        simp only [Value.slice.injEq] at hv
        rw [Hlen.out] at hbr hbk
        exact ⟨G, hv.1, hbg, hbr, hbk⟩
      go_wp2_with fail
      go_loopw [10] (fun i wr => ∃ (k : Nat) (F : List UInt8), k ≤ n ∧ i = .int .i64 k ∧ Hid (F.length = n) ∧ Hid (Incs wr base pa n F) ∧ Below base w3 wr) (fun i _ => n - (intOf i).toNat)
      case atStart => exact ⟨0, p, by omega, rfl, Hlen.out, hst.out, Below.refl _ _⟩
      case round =>
        obtain ⟨k, F, hk, rfl, HFl, HF, hb⟩ := hrel
        by_cases hlt : k < n
        · obtain ⟨G, rfl, hbG, HFr, HFc⟩ := HF.out (by omega)
          have hcell := readAt_cell HFr k (B8 (F.getD k 0)) (by simp [bv, List.getD, show k < F.length by rw [HFl.out]; exact hlt])
          have hfr := canAt_cell HFc k
          rw [Nat.zero_add] at hcell hfr
          have hB := B8_inc (F.getD k 0)
          have hz := toNat_lt (F.getD k 0)
          have HB := Lib.hid hB
          have Hr' := Lib.hid HFr
          have Hc' := Lib.hid HFc
          have Hb' := Lib.hid hb
          simp only [B8] at hcell
          clear hB HFr HFc hst HF hb
          generalize hzz : (F.getD k 0).toNat = z at *
          clear hzz
          go_wp2
          go_roundw
          case rel =>
            have hcan1 := canAt_sub Hc'.out k 1 (by omega)
            refine ⟨k + 1, F.set k (F.getD k 0 + 1), by omega, by go_num, by show _ = _; rw [List.length_set, HFl.out], fun _ => ⟨G, rfl, hbG, ?_, ?_⟩, ?_⟩
            · rw [setCell_setAt hcan1, HB.out, readAt_setAt_over _ _ 0 n _ Hr'.out Hc'.out k _ (by omega) (by simp; omega), Nat.sub_zero, bv_set _ _ (by rw [HFl.out]; exact hlt)]
            · rw [setCell_setAt hcan1, canAt_setAt _ _ _ _ _ _ _ (by simpa using hcan1)]; exact Hc'.out
            · rw [setCell_setAt hcan1]; exact setAt_below Hb'.out hbG _ _
          case measure => simp [intOf]; omega
        · obtain rfl : k = n := by omega
          have hS := Hlt2.out
          have hr4 : readAt wr w2.heap.size 0 64 = some (av X) := by rw [readAt_below hb hS]; exact Hr3.out
          have Hr4 := Lib.hid hr4
          have HbF : Hid (Below w.heap.size w wr) := Hb3.out.trans (hb.mono Hsz2.out)
          have Hp4 := Lib.hid (Hp.out.below HbF.out)
          clear hb HF HFl hst Hr3 Hb3 Hp3 Hown
          go_wp2_with fail
          refine (fparse_any X _).mono ?_
          rintro _ w5 ⟨hpo, hb5⟩
          obtain ⟨v, rfl, hown⟩ := hpo.yes HokX.out
          rw [HtagX.out]
          rw [HpayX.out] at hown
          obtain ⟨qa, qc, rfl, hqb⟩ := hown.bs
          rw [Hlen.out] at hqb ⊢
          have hr5 : readAt w5 w2.heap.size 0 64 = some (av X) := by rw [readAt_below hb5 (readAt_lt Hr4.out)]; exact Hr4.out
          have Hr5 := Lib.hid hr5
          have Hp5 := Lib.hid (Hp4.out.below hb5)
          have Hq5 := Lib.hid hqb
          have Hb5 := Lib.hid (bt HbF.out hb5)
          have hXX : (X == X) = true := by simp
          clear hpo hb5 hown hqb hr4 Hr4 Hp4 HbF
          go_wp2_with fail
          refine wp_region_quiet (C := fun w' => Below w5.heap.size w5 w') (by kernel_rfl) (by kernel_rfl) (Below.refl _ _).drew ?_
          repeat (first
            | (refine q_off rfl ?_; simp only [Act.put, Act.eval, List.setIfInBounds_toArray, List.set_cons_zero, List.set_cons_succ, Array.getD_eq_getD_getElem?, List.getElem?_toArray, List.getElem?_cons_succ, List.getElem?_cons_zero, Option.getD_some])
            | (refine q_move _ rfl rfl ?_; simp only [Act.put, Act.eval, List.setIfInBounds_toArray, List.set_cons_zero, List.set_cons_succ, Array.getD_eq_getD_getElem?, List.getElem?_toArray, List.getElem?_cons_succ, List.getElem?_cons_zero, Option.getD_some])
            | (refine q_assign _ rfl rfl ?_; simp only [Act.put, Act.eval, List.setIfInBounds_toArray, List.set_cons_zero, List.set_cons_succ, Array.getD_eq_getD_getElem?, List.getElem?_toArray, List.getElem?_cons_succ, List.getElem?_cons_zero, Option.getD_some])
            | (refine q_ex rfl ?_; apply Exists.intro; refine ⟨fun w' hC' => ?_, ?_⟩; (have hr' : readAt w' w2.heap.size 0 64 = some (av X) := (readAt_below hC' (readAt_lt Hr5.out) 0 64).trans Hr5.out; go_simp; exact rfl); simp only [Act.put, Act.eval, List.setIfInBounds_toArray, List.set_cons_zero, List.set_cons_succ, Array.getD_eq_getD_getElem?, List.getElem?_toArray, List.getElem?_cons_succ, List.getElem?_cons_zero, Option.getD_some])
            | (refine q_cx rfl ?_; apply Exists.intro; apply Exists.intro; apply Exists.intro; refine ⟨fun w' hC' => ?_, fun w' hC' => ?_, ?_⟩; (go_simp; exact ⟨rfl, rfl⟩); (first | (refine (rmake_any g ad k c p _ hg (Hp5.out.below hC') hn).mono ?_; rw [HX.out]; rintro _ w6 ⟨rfl, hb6⟩; exact ⟨rfl, bt hC' hb6⟩) | (refine (same_any _ _ _ _ _ _ p p _ (Hq5.out.below hC') (Hp5.out.below hC')).mono ?_; rw [show decide (p = p) = true by simp]; rintro _ w7 ⟨rfl, hb7⟩; exact ⟨rfl, bt hC' hb7⟩)); simp only [Act.put, Act.eval, List.setIfInBounds_toArray, List.set_cons_zero, List.set_cons_succ, Array.getD_eq_getD_getElem?, List.getElem?_toArray, List.getElem?_cons_succ, List.getElem?_cons_zero, Option.getD_some]))
          refine wpQuiet_nil ?_
          intro w' hC'
          have hfin := Lib.hid (bt Hb5.out hC')
          clear hC' hr5
          go_wp2
          go_ret
          exact ⟨rfl, hfin.out⟩
end Go.Proofs.Ytlonmghkdobhdaa
