/- The law CrcChecks returns true. Conditions: the slice reads as bytes. (Printed by gencrcl2.py.) -/
import Derived.Test.YtmkiggcghbeacaaCrcAw
set_option linter.unusedSimpArgs false
set_option linter.unusedVariables false
namespace Go.Proofs.Ytmkiggcghbeacaa
open Go.RowKit

theorem rcheck_short (ad : Option Addr) (n c : Nat) (w : World) (h4 : n < 4) :
    Calls Try.prog 13 #[.slice ad n c] w fun e w' => e = .returned (.bool false) ∧ w = w' := by
  have d0 : decide ((n : Int) - 4 < 0) = true := by simp; omega
  go_enter Try.func13, Try.ntmps13
  go_wp2
  go_ret
  exact ⟨rfl, rfl⟩
theorem ByOwn.view {w : World} {base : Nat} {v : Value} {l : List UInt8} (h : ByOwn w base v l) (h0 : 0 < l.length) : ∃ g c, v = .slice (some ⟨g, 0, none⟩) l.length c ∧ base ≤ g ∧ l.length ≤ c ∧ c ≤ 9223372036854775807 ∧ readAt w g 0 l.length = some (bv l) ∧ canAt w g 0 l.length = true := by
  obtain ⟨g, cap, hv, hb, hc, hm, hr, hk⟩ := ownsRow_view h h0
  rw [Nat.mul_one] at hr hk
  exact ⟨g, cap, hv, hb, hc, by simp only [maxLen] at hm; omega, hr, hk⟩
theorem ByOwn.above {w : World} {base : Nat} {v : Value} {l : List UInt8} (h : ByOwn w base v l) : ∃ ad c, v = .slice ad l.length c ∧ Bs w ad l.length c l ∧ ∀ b o sp, ad = some ⟨b, o, sp⟩ → base ≤ b := by
  obtain ⟨ad, c, rfl, hb⟩ := h.bs
  refine ⟨ad, c, rfl, hb, fun b o sp e => ?_⟩
  subst e
  exact (h.lt b rfl).1
theorem OnlyB.bs' {B : Nat} {w w' : World} (h : OnlyB B w w') {ad : Option Addr} {n c : Nat} {l : List UInt8} (hg : ∀ b o sp, ad = some ⟨b, o, sp⟩ → b ≠ B) (hl : Bs w ad n c l) : Bs w' ad n c l := by
  obtain ⟨h1, h2, h3, h4, h5⟩ := hl
  refine ⟨h1, h2, h3, h4, fun h0 => ?_⟩
  obtain ⟨b, o', e, hr⟩ := h5 h0
  exact ⟨b, o', e, by rw [h.readAt _ _ _ (hg b o' _ e)]; exact hr⟩
theorem B8_inc (x : UInt8) : Value.int .u8 (((x.toNat : Int) + 1) % 256) = B8 (x + 1) := by
  simp only [B8, Value.int.injEq, true_and, UInt8.toNat_add]
  have : (1 : UInt8).toNat = 1 := rfl
  rw [this]; omega

set_option maxHeartbeats 6400000 in
theorem law_checks (ad : Option Addr) (n c : Nat) (l : List UInt8) (w : World) (hl : Bs w ad n c l) :
    Calls Try.prog 4 #[.slice ad n c] w fun r w' => r = .returned (.bool true) ∧ Below w.heap.size w w' := by
  have Hl := Lib.hid hl
  have Hl0 := Lib.hid hl
  have Hlen := Lib.hid hl.1
  have hmx : n ≤ 9223372036854775807 := by have := hl.2.1; have := hl.2.2.1; omega
  clear hl
  by_cases hbig : 1000 < n
  · have d0 : decide ((1000 : Int) < (n : Int)) = true := by simp; omega
    go_enter Try.func4, Try.ntmps4
    go_wp2_with fail
    refine (awake_any _).mono ?_
    rintro _ w1 ⟨rfl, hb1⟩
    go_wp2_with fail
    refine (awake_any _).mono ?_
    rintro _ w2 ⟨rfl, hb2⟩
    have hfin := bt hb1 hb2
    go_wp2
    go_ret
    exact ⟨rfl, hfin⟩
  · have d0 : decide ((1000 : Int) < (n : Int)) = false := by simp; omega
    go_enter Try.func4, Try.ntmps4
    go_wp2_with fail
    refine (awake_any _).mono ?_
    rintro _ w1 ⟨rfl, hb1⟩
    have Hl1 := Lib.hid (Hl.out.below hb1)
    have Hb1 := Lib.hid hb1
    clear hb1 Hl
    by_cases h4 : n < 4
    · go_wp2_with fail
      refine (check_short _ _ _ _ h4).mono ?_
      rintro _ _ ⟨rfl, rfl⟩
      go_wp2_with fail
      refine (rcheck_short _ _ _ _ h4).mono ?_
      rintro _ _ ⟨rfl, rfl⟩
      go_wp2_with fail
      refine (append_any _ n c l _ Hl1.out (by omega)).mono ?_
      rintro _ s1 ⟨⟨sv, rfl, hown⟩, hs1⟩
      have HlA := Lib.hid (Hl1.out.below hs1)
      have HbA := Lib.hid (bt Hb1.out hs1)
      have hok := okC_append l
      have htk := take_append4 l (csum l)
      have hsl : (l ++ be 4 (csum l)).length = n + 4 := by rw [List.length_append, be_length, Hlen.out]
      obtain ⟨g, sc, rfl, hgb, hsc, hscm, hsr, hsk⟩ := hown.view (by omega)
      rw [hsl] at hsc hsr hsk ⊢
      have hbsS : Bs s1 (some ⟨g, 0, none⟩) (n + 4) sc (l ++ be 4 (csum l)) := ⟨hsl, hsc, hscm, fun h => (by cases h), fun _ => ⟨g, 0, rfl, hsr⟩⟩
      have Hgb := Lib.hid (Nat.le_trans Hb1.out.size hgb)
      have Hok2 := Lib.hid hok
      have Htk := Lib.hid htk
      have Hsl := Lib.hid hsl
      have HS := Lib.hid hbsS
      have Hsk := Lib.hid hsk
      clear hs1 hown hok htk hsl hbsS hsr hsk hgb Hl1 Hb1
      have hSref : l ++ be 4 (csum l) = l ++ be 4 (csum l) := rfl
      obtain ⟨S, hS⟩ : ∃ S, l ++ be 4 (csum l) = S := ⟨_, rfl⟩
      rw [hS] at Hok2 Htk Hsl HS
      have HSS := Lib.hid hS
      clear hS hSref
      go_wp2_with fail
      refine (check_all _ (n + 4) sc S _ HS.out (by omega) (by omega)).mono ?_
      rintro _ s2 ⟨hp, hs2⟩
      obtain ⟨bv2, rfl, hown⟩ := hp.yes Hok2.out
      rw [Htk.out] at hown
      obtain ⟨ba2, bc2, rfl, hbb, hbab⟩ := hown.above
      have HBK := Lib.hid hbb
      have Hbab := Lib.hid hbab
      have hgs : g < s1.heap.size := canAt_lt Hsk.out
      have HlB := Lib.hid (HlA.out.below hs2)
      have HbB := Lib.hid (bt HbA.out hs2)
      have HSB := Lib.hid (HS.out.below hs2)
      have HskB : Hid (canAt s2 g 0 (n + 4) = true) := by show _ = _; rw [canAt_below hs2 hgs]; exact Hsk.out
      have hsz2 := hs2.size
      clear hp hs2 hown hbb hbab HlA HbA HS Hsk Hok2
      go_wp2_with fail
      refine (rappend_any _ n c l _ HlB.out (by omega)).mono ?_
      rw [HSS.out]
      rintro _ s3 ⟨⟨rv, rfl, hown⟩, hs3⟩
      obtain ⟨ra, rc, rfl, hrb⟩ := hown.bs
      have HlC := Lib.hid (HlB.out.below hs3)
      have HbC := Lib.hid (bt HbB.out hs3)
      have HSC := Lib.hid (HSB.out.below hs3)
      have HBKC := Lib.hid (HBK.out.below hs3)
      have HskC : Hid (canAt s3 g 0 (n + 4) = true) := by show _ = _; rw [canAt_below hs3 (by omega)]; exact HskB.out
      have HR := Lib.hid hrb
      have hsz3 := hs3.size
      clear hs3 hown hrb HlB HbB HSB HBK HskB
      go_wp2_with fail
      refine (same_any _ _ _ _ _ _ S S _ HSC.out HR.out).mono ?_
      rw [show decide (S = S) = true by simp]
      rintro _ s4 ⟨rfl, hs4⟩
      have HlD := Lib.hid (HlC.out.below hs4)
      have HbD := Lib.hid (bt HbC.out hs4)
      have HSD := Lib.hid (HSC.out.below hs4)
      have HBKD := Lib.hid (HBKC.out.below hs4)
      have HskD : Hid (canAt s4 g 0 (n + 4) = true) := by show _ = _; rw [canAt_below hs4 (by omega)]; exact HskC.out
      have hsz4 := hs4.size
      clear hs4 HlC HbC HSC HBKC HskC HR
      go_wp2_with fail
      refine (same_any _ _ _ _ _ _ l l _ HBKD.out HlD.out).mono ?_
      rw [show decide (l = l) = true by simp]
      rintro _ s5 ⟨rfl, hs5⟩
      have HlE := Lib.hid (HlD.out.below hs5)
      have HbE := Lib.hid (bt HbD.out hs5)
      have HSE := Lib.hid (HSD.out.below hs5)
      have HBKE := Lib.hid (HBKD.out.below hs5)
      have HskE : Hid (canAt s5 g 0 (n + 4) = true) := by show _ = _; rw [canAt_below hs5 (by omega)]; exact HskD.out
      have HrE : Hid (readAt s5 g 0 (n + 4) = some (bv S)) := by
        obtain ⟨b', o', e, hr⟩ := HSE.out.2.2.2.2 (by omega)
        cases e; exact hr
      clear hs5 HlD HbD HSD HBKD HskD HSE
      go_wp2_with fail
      go_loopw [8] (fun i wr => ∃ (k : Nat) (F : List UInt8), k ≤ n + 4 ∧ i = .int .i64 k ∧ Hid (F.length = n + 4) ∧ Hid (readAt wr g 0 (n + 4) = some (bv F)) ∧ Hid (canAt wr g 0 (n + 4) = true) ∧ OnlyB g s5 wr) (fun i _ => n + 4 - (intOf i).toNat)
      case atStart => exact ⟨0, S, by omega, rfl, Hsl.out, HrE.out, HskE.out, OnlyB.refl _ _⟩
      case round =>
        obtain ⟨k, F, hk, rfl, HFl, HFr, HFc, ho⟩ := hrel
        by_cases hlt : k < n + 4
        · have hcell := readAt_cell HFr.out k (B8 (F.getD k 0)) (by simp [bv, List.getD, show k < F.length by rw [HFl.out]; exact hlt])
          have hfr := canAt_cell HFc.out k
          rw [Nat.zero_add] at hcell hfr
          have hB := B8_inc (F.getD k 0)
          have hz := toNat_lt (F.getD k 0)
          have HB := Lib.hid hB
          simp only [B8] at hcell
          clear hB
          generalize hzz : (F.getD k 0).toNat = z at *
          clear hzz
          go_wp2
          go_roundw
          case rel =>
            have hcan1 := canAt_sub HFc.out k 1 (by omega)
            refine ⟨k + 1, F.set k (F.getD k 0 + 1), by omega, by go_num, by show _ = _; rw [List.length_set, HFl.out], ?_, ?_, ?_⟩
            · show _ = _
              rw [setCell_setAt hcan1, HB.out, readAt_setAt_over _ _ 0 (n + 4) _ HFr.out HFc.out k _ (by omega) (by simp; omega), Nat.sub_zero, bv_set _ _ (by rw [HFl.out]; exact hlt)]
            · show _ = _
              rw [setCell_setAt hcan1, canAt_setAt _ _ _ _ _ _ _ (by simpa using hcan1)]; exact HFc.out
            · rw [setCell_setAt hcan1]; exact ho.trans (OnlyB.setAt _ _ _ _)
          case measure => simp [intOf]; omega
        · have hgw := Hgb.out
          have hbkF := ho.bs' (fun b o sp e => by have := Hbab.out b o sp e; omega) HBKE.out
          have hlF := Hl0.out.below (ho.below HbE.out hgw)
          have HbkF := Lib.hid hbkF
          have HlF := Lib.hid hlF
          have HbF := Lib.hid (ho.below HbE.out hgw)
          clear hbkF hlF ho
          go_wp2_with fail
          refine (same_any _ _ _ _ _ _ l l _ HbkF.out HlF.out).mono ?_
          rw [show decide (l = l) = true by simp]
          rintro _ s6 ⟨rfl, hs6⟩
          have hfin := bt HbF.out hs6
          go_wp2
          go_ret
          exact ⟨rfl, hfin⟩
    · cases hok : okC l with
      | false =>
        have Hok := Lib.hid hok
        clear hok
        go_wp2_with fail
        refine (check_all ad n c l _ Hl1.out (by omega) (by omega)).mono ?_
        rintro _ w2 ⟨hp, hb2⟩
        have he := hp.no Hok.out
        subst he
        have Hl2 := Lib.hid (Hl1.out.below hb2)
        have Hb2 := Lib.hid (bt Hb1.out hb2)
        clear hp hb2 Hb1 Hl1
        rename_i hle
        have Hl1 := Hl2
        have Hb1 := Hb2
        clear Hl2 Hb2
        go_wp2_with fail
        refine (rcheck_any ad n c l _ Hl1.out (by omega)).mono ?_
        rw [Hok.out]
        rintro _ _ ⟨rfl, rfl⟩
        go_wp2_with fail
        refine (append_any _ n c l _ Hl1.out (by omega)).mono ?_
        rintro _ s1 ⟨⟨sv, rfl, hown⟩, hs1⟩
        have HlA := Lib.hid (Hl1.out.below hs1)
        have HbA := Lib.hid (bt Hb1.out hs1)
        have hok := okC_append l
        have htk := take_append4 l (csum l)
        have hsl : (l ++ be 4 (csum l)).length = n + 4 := by rw [List.length_append, be_length, Hlen.out]
        obtain ⟨g, sc, rfl, hgb, hsc, hscm, hsr, hsk⟩ := hown.view (by omega)
        rw [hsl] at hsc hsr hsk ⊢
        have hbsS : Bs s1 (some ⟨g, 0, none⟩) (n + 4) sc (l ++ be 4 (csum l)) := ⟨hsl, hsc, hscm, fun h => (by cases h), fun _ => ⟨g, 0, rfl, hsr⟩⟩
        have Hgb := Lib.hid (Nat.le_trans Hb1.out.size hgb)
        have Hok2 := Lib.hid hok
        have Htk := Lib.hid htk
        have Hsl := Lib.hid hsl
        have HS := Lib.hid hbsS
        have Hsk := Lib.hid hsk
        clear hs1 hown hok htk hsl hbsS hsr hsk hgb Hl1 Hb1
        have hSref : l ++ be 4 (csum l) = l ++ be 4 (csum l) := rfl
        obtain ⟨S, hS⟩ : ∃ S, l ++ be 4 (csum l) = S := ⟨_, rfl⟩
        rw [hS] at Hok2 Htk Hsl HS
        have HSS := Lib.hid hS
        clear hS hSref
        go_wp2_with fail
        refine (check_all _ (n + 4) sc S _ HS.out (by omega) (by omega)).mono ?_
        rintro _ s2 ⟨hp, hs2⟩
        obtain ⟨bv2, rfl, hown⟩ := hp.yes Hok2.out
        rw [Htk.out] at hown
        obtain ⟨ba2, bc2, rfl, hbb, hbab⟩ := hown.above
        have HBK := Lib.hid hbb
        have Hbab := Lib.hid hbab
        have hgs : g < s1.heap.size := canAt_lt Hsk.out
        have HlB := Lib.hid (HlA.out.below hs2)
        have HbB := Lib.hid (bt HbA.out hs2)
        have HSB := Lib.hid (HS.out.below hs2)
        have HskB : Hid (canAt s2 g 0 (n + 4) = true) := by show _ = _; rw [canAt_below hs2 hgs]; exact Hsk.out
        have hsz2 := hs2.size
        clear hp hs2 hown hbb hbab HlA HbA HS Hsk Hok2
        go_wp2_with fail
        refine (rappend_any _ n c l _ HlB.out (by omega)).mono ?_
        rw [HSS.out]
        rintro _ s3 ⟨⟨rv, rfl, hown⟩, hs3⟩
        obtain ⟨ra, rc, rfl, hrb⟩ := hown.bs
        have HlC := Lib.hid (HlB.out.below hs3)
        have HbC := Lib.hid (bt HbB.out hs3)
        have HSC := Lib.hid (HSB.out.below hs3)
        have HBKC := Lib.hid (HBK.out.below hs3)
        have HskC : Hid (canAt s3 g 0 (n + 4) = true) := by show _ = _; rw [canAt_below hs3 (by omega)]; exact HskB.out
        have HR := Lib.hid hrb
        have hsz3 := hs3.size
        clear hs3 hown hrb HlB HbB HSB HBK HskB
        go_wp2_with fail
        refine (same_any _ _ _ _ _ _ S S _ HSC.out HR.out).mono ?_
        rw [show decide (S = S) = true by simp]
        rintro _ s4 ⟨rfl, hs4⟩
        have HlD := Lib.hid (HlC.out.below hs4)
        have HbD := Lib.hid (bt HbC.out hs4)
        have HSD := Lib.hid (HSC.out.below hs4)
        have HBKD := Lib.hid (HBKC.out.below hs4)
        have HskD : Hid (canAt s4 g 0 (n + 4) = true) := by show _ = _; rw [canAt_below hs4 (by omega)]; exact HskC.out
        have hsz4 := hs4.size
        clear hs4 HlC HbC HSC HBKC HskC HR
        go_wp2_with fail
        refine (same_any _ _ _ _ _ _ l l _ HBKD.out HlD.out).mono ?_
        rw [show decide (l = l) = true by simp]
        rintro _ s5 ⟨rfl, hs5⟩
        have HlE := Lib.hid (HlD.out.below hs5)
        have HbE := Lib.hid (bt HbD.out hs5)
        have HSE := Lib.hid (HSD.out.below hs5)
        have HBKE := Lib.hid (HBKD.out.below hs5)
        have HskE : Hid (canAt s5 g 0 (n + 4) = true) := by show _ = _; rw [canAt_below hs5 (by omega)]; exact HskD.out
        have HrE : Hid (readAt s5 g 0 (n + 4) = some (bv S)) := by
          obtain ⟨b', o', e, hr⟩ := HSE.out.2.2.2.2 (by omega)
          cases e; exact hr
        clear hs5 HlD HbD HSD HBKD HskD HSE
        go_wp2_with fail
        go_loopw [8] (fun i wr => ∃ (k : Nat) (F : List UInt8), k ≤ n + 4 ∧ i = .int .i64 k ∧ Hid (F.length = n + 4) ∧ Hid (readAt wr g 0 (n + 4) = some (bv F)) ∧ Hid (canAt wr g 0 (n + 4) = true) ∧ OnlyB g s5 wr) (fun i _ => n + 4 - (intOf i).toNat)
        case atStart => exact ⟨0, S, by omega, rfl, Hsl.out, HrE.out, HskE.out, OnlyB.refl _ _⟩
        case round =>
          obtain ⟨k, F, hk, rfl, HFl, HFr, HFc, ho⟩ := hrel
          by_cases hlt : k < n + 4
          · have hcell := readAt_cell HFr.out k (B8 (F.getD k 0)) (by simp [bv, List.getD, show k < F.length by rw [HFl.out]; exact hlt])
            have hfr := canAt_cell HFc.out k
            rw [Nat.zero_add] at hcell hfr
            have hB := B8_inc (F.getD k 0)
            have hz := toNat_lt (F.getD k 0)
            have HB := Lib.hid hB
            simp only [B8] at hcell
            clear hB
            generalize hzz : (F.getD k 0).toNat = z at *
            clear hzz
            go_wp2
            go_roundw
            case rel =>
              have hcan1 := canAt_sub HFc.out k 1 (by omega)
              refine ⟨k + 1, F.set k (F.getD k 0 + 1), by omega, by go_num, by show _ = _; rw [List.length_set, HFl.out], ?_, ?_, ?_⟩
              · show _ = _
                rw [setCell_setAt hcan1, HB.out, readAt_setAt_over _ _ 0 (n + 4) _ HFr.out HFc.out k _ (by omega) (by simp; omega), Nat.sub_zero, bv_set _ _ (by rw [HFl.out]; exact hlt)]
              · show _ = _
                rw [setCell_setAt hcan1, canAt_setAt _ _ _ _ _ _ _ (by simpa using hcan1)]; exact HFc.out
              · rw [setCell_setAt hcan1]; exact ho.trans (OnlyB.setAt _ _ _ _)
            case measure => simp [intOf]; omega
          · have hgw := Hgb.out
            have hbkF := ho.bs' (fun b o sp e => by have := Hbab.out b o sp e; omega) HBKE.out
            have hlF := Hl0.out.below (ho.below HbE.out hgw)
            have HbkF := Lib.hid hbkF
            have HlF := Lib.hid hlF
            have HbF := Lib.hid (ho.below HbE.out hgw)
            clear hbkF hlF ho
            go_wp2_with fail
            refine (same_any _ _ _ _ _ _ l l _ HbkF.out HlF.out).mono ?_
            rw [show decide (l = l) = true by simp]
            rintro _ s6 ⟨rfl, hs6⟩
            have hfin := bt HbF.out hs6
            go_wp2
            go_ret
            exact ⟨rfl, hfin⟩
      | true =>
        have Hok := Lib.hid hok
        clear hok
        go_wp2_with fail
        refine (check_all ad n c l _ Hl1.out (by omega) (by omega)).mono ?_
        rintro _ w2 ⟨hp, hb2⟩
        obtain ⟨v, rfl, hown⟩ := hp.yes Hok.out
        have hlt : (l.take (l.length - 4)).length = n - 4 := by rw [List.length_take, Hlen.out]; omega
        obtain ⟨xa, xc, rfl, hxb⟩ := hown.bs
        rw [hlt] at hxb ⊢
        have Hx := Lib.hid hxb
        have Hl2 := Lib.hid (Hl1.out.below hb2)
        have Hb2 := Lib.hid (bt Hb1.out hb2)
        clear hp hb2 Hb1 Hl1 hown hxb hlt
        go_wp2_with fail
        refine (rcheck_any ad n c l _ Hl2.out (by omega)).mono ?_
        rw [Hok.out]
        rintro _ _ ⟨rfl, rfl⟩
        obtain ⟨b, o, rfl, hunused⟩ := Hl2.out.2.2.2.2 (by omega)
        clear hunused
        have hnc := Hl2.out.2.1
        have hcm := Hl2.out.2.2.1
        have hT := Hl2.out.take (n - 4) c (by omega) (by omega) (Nat.le_refl _)
        have HT : Hid (Bs w2 (some ⟨b, o, none⟩) (n - 4) c (l.take (l.length - 4))) := by rw [Hlen.out]; exact hT
        clear hT
        go_wp2_with fail
        refine (same_any _ _ _ _ _ _ _ _ _ Hx.out HT.out).mono ?_
        rintro _ w3 ⟨rfl, hb3⟩
        rw [show decide (l.take (l.length - 4) = l.take (l.length - 4)) = true by simp]
        have Hl1 := Lib.hid (Hl2.out.below hb3)
        have Hb1 := Lib.hid (bt Hb2.out hb3)
        clear hb3 Hb2 Hl2 Hx HT hnc hcm
        generalize n - 4 = n4 at *
        go_wp2_with fail
        refine (append_any _ n c l _ Hl1.out (by omega)).mono ?_
        rintro _ s1 ⟨⟨sv, rfl, hown⟩, hs1⟩
        have HlA := Lib.hid (Hl1.out.below hs1)
        have HbA := Lib.hid (bt Hb1.out hs1)
        have hok := okC_append l
        have htk := take_append4 l (csum l)
        have hsl : (l ++ be 4 (csum l)).length = n + 4 := by rw [List.length_append, be_length, Hlen.out]
        obtain ⟨g, sc, rfl, hgb, hsc, hscm, hsr, hsk⟩ := hown.view (by omega)
        rw [hsl] at hsc hsr hsk ⊢
        have hbsS : Bs s1 (some ⟨g, 0, none⟩) (n + 4) sc (l ++ be 4 (csum l)) := ⟨hsl, hsc, hscm, fun h => (by cases h), fun _ => ⟨g, 0, rfl, hsr⟩⟩
        have Hgb := Lib.hid (Nat.le_trans Hb1.out.size hgb)
        have Hok2 := Lib.hid hok
        have Htk := Lib.hid htk
        have Hsl := Lib.hid hsl
        have HS := Lib.hid hbsS
        have Hsk := Lib.hid hsk
        clear hs1 hown hok htk hsl hbsS hsr hsk hgb Hl1 Hb1
        have hSref : l ++ be 4 (csum l) = l ++ be 4 (csum l) := rfl
        obtain ⟨S, hS⟩ : ∃ S, l ++ be 4 (csum l) = S := ⟨_, rfl⟩
        rw [hS] at Hok2 Htk Hsl HS
        have HSS := Lib.hid hS
        clear hS hSref
        go_wp2_with fail
        refine (check_all _ (n + 4) sc S _ HS.out (by omega) (by omega)).mono ?_
        rintro _ s2 ⟨hp, hs2⟩
        obtain ⟨bv2, rfl, hown⟩ := hp.yes Hok2.out
        rw [Htk.out] at hown
        obtain ⟨ba2, bc2, rfl, hbb, hbab⟩ := hown.above
        have HBK := Lib.hid hbb
        have Hbab := Lib.hid hbab
        have hgs : g < s1.heap.size := canAt_lt Hsk.out
        have HlB := Lib.hid (HlA.out.below hs2)
        have HbB := Lib.hid (bt HbA.out hs2)
        have HSB := Lib.hid (HS.out.below hs2)
        have HskB : Hid (canAt s2 g 0 (n + 4) = true) := by show _ = _; rw [canAt_below hs2 hgs]; exact Hsk.out
        have hsz2 := hs2.size
        clear hp hs2 hown hbb hbab HlA HbA HS Hsk Hok2
        go_wp2_with fail
        refine (rappend_any _ n c l _ HlB.out (by omega)).mono ?_
        rw [HSS.out]
        rintro _ s3 ⟨⟨rv, rfl, hown⟩, hs3⟩
        obtain ⟨ra, rc, rfl, hrb⟩ := hown.bs
        have HlC := Lib.hid (HlB.out.below hs3)
        have HbC := Lib.hid (bt HbB.out hs3)
        have HSC := Lib.hid (HSB.out.below hs3)
        have HBKC := Lib.hid (HBK.out.below hs3)
        have HskC : Hid (canAt s3 g 0 (n + 4) = true) := by show _ = _; rw [canAt_below hs3 (by omega)]; exact HskB.out
        have HR := Lib.hid hrb
        have hsz3 := hs3.size
        clear hs3 hown hrb HlB HbB HSB HBK HskB
        go_wp2_with fail
        refine (same_any _ _ _ _ _ _ S S _ HSC.out HR.out).mono ?_
        rw [show decide (S = S) = true by simp]
        rintro _ s4 ⟨rfl, hs4⟩
        have HlD := Lib.hid (HlC.out.below hs4)
        have HbD := Lib.hid (bt HbC.out hs4)
        have HSD := Lib.hid (HSC.out.below hs4)
        have HBKD := Lib.hid (HBKC.out.below hs4)
        have HskD : Hid (canAt s4 g 0 (n + 4) = true) := by show _ = _; rw [canAt_below hs4 (by omega)]; exact HskC.out
        have hsz4 := hs4.size
        clear hs4 HlC HbC HSC HBKC HskC HR
        go_wp2_with fail
        refine (same_any _ _ _ _ _ _ l l _ HBKD.out HlD.out).mono ?_
        rw [show decide (l = l) = true by simp]
        rintro _ s5 ⟨rfl, hs5⟩
        have HlE := Lib.hid (HlD.out.below hs5)
        have HbE := Lib.hid (bt HbD.out hs5)
        have HSE := Lib.hid (HSD.out.below hs5)
        have HBKE := Lib.hid (HBKD.out.below hs5)
        have HskE : Hid (canAt s5 g 0 (n + 4) = true) := by show _ = _; rw [canAt_below hs5 (by omega)]; exact HskD.out
        have HrE : Hid (readAt s5 g 0 (n + 4) = some (bv S)) := by
          obtain ⟨b', o', e, hr⟩ := HSE.out.2.2.2.2 (by omega)
          cases e; exact hr
        clear hs5 HlD HbD HSD HBKD HskD HSE
        go_wp2_with fail
        go_loopw [8] (fun i wr => ∃ (k : Nat) (F : List UInt8), k ≤ n + 4 ∧ i = .int .i64 k ∧ Hid (F.length = n + 4) ∧ Hid (readAt wr g 0 (n + 4) = some (bv F)) ∧ Hid (canAt wr g 0 (n + 4) = true) ∧ OnlyB g s5 wr) (fun i _ => n + 4 - (intOf i).toNat)
        case atStart => exact ⟨0, S, by omega, rfl, Hsl.out, HrE.out, HskE.out, OnlyB.refl _ _⟩
        case round =>
          obtain ⟨k, F, hk, rfl, HFl, HFr, HFc, ho⟩ := hrel
          by_cases hlt : k < n + 4
          · have hcell := readAt_cell HFr.out k (B8 (F.getD k 0)) (by simp [bv, List.getD, show k < F.length by rw [HFl.out]; exact hlt])
            have hfr := canAt_cell HFc.out k
            rw [Nat.zero_add] at hcell hfr
            have hB := B8_inc (F.getD k 0)
            have hz := toNat_lt (F.getD k 0)
            have HB := Lib.hid hB
            simp only [B8] at hcell
            clear hB
            generalize hzz : (F.getD k 0).toNat = z at *
            clear hzz
            go_wp2
            go_roundw
            case rel =>
              have hcan1 := canAt_sub HFc.out k 1 (by omega)
              refine ⟨k + 1, F.set k (F.getD k 0 + 1), by omega, by go_num, by show _ = _; rw [List.length_set, HFl.out], ?_, ?_, ?_⟩
              · show _ = _
                rw [setCell_setAt hcan1, HB.out, readAt_setAt_over _ _ 0 (n + 4) _ HFr.out HFc.out k _ (by omega) (by simp; omega), Nat.sub_zero, bv_set _ _ (by rw [HFl.out]; exact hlt)]
              · show _ = _
                rw [setCell_setAt hcan1, canAt_setAt _ _ _ _ _ _ _ (by simpa using hcan1)]; exact HFc.out
              · rw [setCell_setAt hcan1]; exact ho.trans (OnlyB.setAt _ _ _ _)
            case measure => simp [intOf]; omega
          · have hgw := Hgb.out
            have hbkF := ho.bs' (fun b o sp e => by have := Hbab.out b o sp e; omega) HBKE.out
            have hlF := Hl0.out.below (ho.below HbE.out hgw)
            have HbkF := Lib.hid hbkF
            have HlF := Lib.hid hlF
            have HbF := Lib.hid (ho.below HbE.out hgw)
            clear hbkF hlF ho
            go_wp2_with fail
            refine (same_any _ _ _ _ _ _ l l _ HbkF.out HlF.out).mono ?_
            rw [show decide (l = l) = true by simp]
            rintro _ s6 ⟨rfl, hs6⟩
            have hfin := bt HbF.out hs6
            go_wp2
            go_ret
            exact ⟨rfl, hfin⟩
end Go.Proofs.Ytmkiggcghbeacaa
