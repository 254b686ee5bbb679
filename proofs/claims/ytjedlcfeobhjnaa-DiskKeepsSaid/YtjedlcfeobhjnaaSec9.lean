/- What torn of package sector computes, given what the function of the cuts answers. Conditions: the writes are to sectors that there are; numbers of sectors and writes are small. -/
import Derived.Test.YtjedlcfeobhjnaaSec8
set_option linter.unusedSimpArgs false
set_option linter.unusedVariables false
namespace Go.Proofs.Ytjedlcfeobhjnaa
open Go.RowKit

set_option maxRecDepth 100000 in
set_option maxHeartbeats 1600000 in
set_option maxRecDepth 100000 in
theorem torn_sl (fid : Nat) (cap : Array Value) (cf : Nat → Int) (bl ol cl : Nat) (vw : Value) (n m : Nat) (L : List Sec) (W : List (Int × Sec)) (w : World) (hn : n ≤ 5000) (hL : L.length = n) (hm : m ≤ 100000) (hW : W.length = m)
    (hsrc : readAt w bl ol (n * 64) = some (flat av L).toArray) (hw : RdS w vw m 65 (flat wp2 W)) (hat : ∀ p ∈ W, 0 ≤ p.1 ∧ p.1 < n)
    (hfn : ∀ args w, (callFunc fid args).run Try.prog w = .ok (.enter fid args) w)
    (hcf : ∀ (k : Nat) w', k < m → Below w.heap.size w w' → Calls Try.prog fid (#[.int .i64 k] ++ cap) w' fun e w'' => e = .returned (.int .i64 (cf k)) ∧ Below w'.heap.size w' w'') :
    Calls Try.prog 44 #[.slice (some ⟨bl, ol, none⟩) n cl, vw, .func (.func fid) #[] cap] w fun e w' => (∃ v, e = .returned v ∧ Own w' w.heap.size v n 64 (flat av (crashK L W cf m))) ∧ Below w.heap.size w w' := by
  have Hw := Lib.hid hw
  have HL := Lib.hid hL
  have HW := Lib.hid hW
  have Hcf := Lib.hid hcf
  obtain ⟨adw, cw, rfl, _⟩ := hw
  clear hW hcf
  go_enter Try.func44, Try.ntmps44
  go_wp2_with fail
  refine (clone_any bl ol n cl L w hn hL hsrc).mono ?_
  rintro _ w1 ⟨⟨_, rfl, g, cap', rfl, hg, hcap, hmax, _, hrg, hkg⟩, hb1⟩
  clear hsrc hL
  go_wp2_with fail
  go_outline
  go_loopw [14] (fun i wr => ∃ k : Nat, k ≤ m ∧ i = .int .i64 k ∧ Hid (readAt wr g 0 (n * 64) = some (flat av (crashK L W cf k)).toArray) ∧ Hid (canAt wr g 0 (n * 64) = true) ∧ Below w.heap.size w wr) (fun i _ => m - (intOf i).toNat)
  case atStart => exact ⟨0, Nat.zero_le _, rfl, hrg, hkg, hb1⟩
  case round =>
    obtain ⟨k, hk, rfl, hr, hkn, hb⟩ := hrel
    by_cases hlt2 : k < m
    · -- the write
      obtain ⟨bw, ow, cw', e1, _, _, hrw⟩ := (Hw.out.below hb).at k hlt2
      simp only [Value.slice.injEq, true_and] at e1
      obtain ⟨rfl, rfl⟩ := e1
      rw [flat_get wp2 65 size_wp2 W k (by rw [HW.out]; exact hlt2)] at hrw
      have hpat := hat (W[k]'(by rw [HW.out]; exact hlt2)) (List.getElem_mem _)
      obtain ⟨p, hpk⟩ : ∃ p, W[k]'(by rw [HW.out]; exact hlt2) = p := ⟨_, rfl⟩
      have hgd : W.getD k (0, zsec) = p := by rw [← hpk, List.getD_eq_getElem?_getD, List.getElem?_eq_getElem (by rw [HW.out]; exact hlt2)]; rfl
      rw [hpk] at hrw hpat
      obtain ⟨at_, d⟩ := p
      simp only [wp2] at hrw
      obtain ⟨j, hj⟩ : ∃ j : Nat, at_ = (j : Int) := ⟨at_.toNat, by simp only at hpat; omega⟩
      subst hj
      have hjn : j < n := by simp only at hpat; omega
      have hML : (crashK L W cf k).length = n := by rw [crashK_length, HL.out]
      have hstep : crashK L W cf (k + 1) = (crashK L W cf k).set j (tear ((crashK L W cf k)[j]'(by rw [hML]; exact hjn)) d (cf k)) := by
        simp only [crashK, step1, hgd, Int.toNat_natCast]
        congr 2
        rw [List.getD_eq_getElem?_getD, List.getElem?_eq_getElem (by rw [hML]; exact hjn)]; rfl
      have hxj : readAt wr g (j * 64) 64 = some (av ((crashK L W cf k)[j]'(by rw [hML]; exact hjn))) := by
        have hle : j * 64 + 64 ≤ n * 64 := by omega
        have := readAt_sub hr.out (j * 64) 64 (by omega) (by omega)
        rw [this, Nat.sub_zero, flat_get av 64 size_av _ j (by rw [hML]; exact hjn)]
      obtain ⟨x, hx⟩ : ∃ x, (crashK L W cf k)[j]'(by rw [hML]; exact hjn) = x := ⟨_, rfl⟩
      rw [hx] at hxj hstep
      have Hstep := Lib.hid hstep
      obtain ⟨M, hM⟩ : ∃ M, crashK L W cf k = M := ⟨_, rfl⟩
      rw [hM] at hr Hstep hML
      clear hstep hgd hpk hpat hx hat
      have hlbw := readAt_lt hrw
      have hlg := readAt_lt hxj
      have hcan : canAt wr g (j * 64) 64 = true := canAt_sub hkn.out (j * 64) 64 (by omega)
      -- the copy of the write
      have hBw : w.heap.size ≤ wr.heap.size := hb.size
      obtain ⟨wa, hwa⟩ : ∃ wa, setAt (wr.alloc (.cells (wv 0 zsec) 74)) wr.heap.size 0 (wv j d) = wa := ⟨_, rfl⟩
      have hbwa : Below wr.heap.size wr wa := by
        rw [← hwa]; exact setAt_below (ba _ (Below.refl _ _)) (Nat.le_refl _) _ _
      have hcz : canAt (wr.alloc (.cells (wv 0 zsec) 74)) wr.heap.size 0 65 = true := canAt_alloc_at _ _ _ _ _ _ rfl (by simp)
      have hrc : readAt wa wr.heap.size 0 65 = some (wv j d) := by rw [← hwa]; exact readAt_setAt_same _ _ _ _ _ (by simp) hcz
      have hca := readAt_cell hrc 0 (.int .i64 j) (wv_at _ _)
      rw [Nat.add_zero] at hca
      have hcd : readAt wa wr.heap.size 1 64 = some (av d) := by
        rw [readAt_sub hrc 1 64 (by omega) (by omega)]; exact congrArg some (wv_data _ _)
      have hlca := readAt_lt hrc
      have hlgw : g < wa.heap.size := Nat.lt_of_lt_of_le hlg hbwa.size
      rw [← readAt_below hbwa hlg] at hxj
      rw [← canAt_below hbwa hlg] at hcan
      have hF : ∀ w', Below wa.heap.size wa w' → (w'.cell? ⟨wr.heap.size, 0, none⟩ = some (.int .i64 j) ∧ readAt w' wr.heap.size 1 64 = some (av d) ∧ readAt w' g (j * 64) 64 = some (av x) ∧ canAt w' g (j * 64) 64 = true) := fun w' hC =>
        ⟨by rw [hC.cell hlca]; exact hca, by rw [readAt_below hC hlca]; exact hcd, by rw [readAt_below hC hlgw]; exact hxj, by rw [canAt_below hC hlgw]; exact hcan⟩
      have HF := Lib.hid hF
      have Hbwa := Lib.hid hbwa
      clear hxj hcd hcan hF hrc hlca hbwa hcz
      go_wp2_with fail
      refine wp_region_quiet_end (C := fun w' => Below wa.heap.size wa w') (by simp) (by kernel_rfl) (by kernel_rfl) (by kernel_rfl) (Below.refl _ _).drew ?_
      simp only [List.dropLast_cons_cons, List.dropLast_singleton, List.getLast_cons_cons, List.getLast_singleton]
      repeat (first
        | (refine q_off rfl ?_; simp only [Act.put, Act.eval, List.setIfInBounds_toArray, List.set_cons_zero, List.set_cons_succ, Array.getD_eq_getD_getElem?, List.getElem?_toArray, List.getElem?_cons_succ, List.getElem?_cons_zero, Option.getD_some])
        | (refine q_move _ rfl rfl ?_; simp only [Act.put, Act.eval, List.setIfInBounds_toArray, List.set_cons_zero, List.set_cons_succ, Array.getD_eq_getD_getElem?, List.getElem?_toArray, List.getElem?_cons_succ, List.getElem?_cons_zero, Option.getD_some])
        | (refine q_assign _ rfl rfl ?_; simp only [Act.put, Act.eval, List.setIfInBounds_toArray, List.set_cons_zero, List.set_cons_succ, Array.getD_eq_getD_getElem?, List.getElem?_toArray, List.getElem?_cons_succ, List.getElem?_cons_zero, Option.getD_some])
        | (refine q_ex rfl ?_; apply Exists.intro; refine ⟨fun w' hC' => ?_, ?_⟩; (obtain ⟨f1, f2, f3, f4⟩ := HF.out w' hC'; go_simp; exact rfl); simp only [Act.put, Act.eval, List.setIfInBounds_toArray, List.set_cons_zero, List.set_cons_succ, Array.getD_eq_getD_getElem?, List.getElem?_toArray, List.getElem?_cons_succ, List.getElem?_cons_zero, Option.getD_some])
        | (refine q_cx rfl ?_; apply Exists.intro; apply Exists.intro; apply Exists.intro; refine ⟨fun w' hC' => ?_, fun w' hC' => ?_, ?_⟩; (go_simp; exact ⟨rfl, rfl⟩); (refine (Hcf.out k w' hlt2 ?_).mono ?_; exact (hb.trans (Hbwa.out.mono hb.size)).trans (hC'.mono (Nat.le_trans hb.size Hbwa.out.size)); rintro _ w2 ⟨rfl, hb'⟩; exact ⟨rfl, bt hC' hb'⟩); simp only [Act.put, Act.eval, List.setIfInBounds_toArray, List.set_cons_zero, List.set_cons_succ, Array.getD_eq_getD_getElem?, List.getElem?_toArray, List.getElem?_cons_succ, List.getElem?_cons_zero, Option.getD_some])
        | (refine q_cx rfl ?_; apply Exists.intro; apply Exists.intro; apply Exists.intro; refine ⟨fun w' hC' => ?_, fun w' hC' => ?_, ?_⟩; (go_simp; exact ⟨rfl, rfl⟩); (refine (tear_any x d (cf k) _).mono ?_; rintro _ w2 ⟨rfl, hb'⟩; exact ⟨rfl, bt hC' hb'⟩); simp only [Act.put, Act.eval, List.setIfInBounds_toArray, List.set_cons_zero, List.set_cons_succ, Array.getD_eq_getD_getElem?, List.getElem?_toArray, List.getElem?_cons_succ, List.getElem?_cons_zero, Option.getD_some]))
      refine wpQuiet_nil ?_
      intro w' hC'
      obtain ⟨f1, f2, f3, f4⟩ := HF.out w' hC'
      have hbb : Below wr.heap.size wr w' := Hbwa.out.trans (hC'.mono Hbwa.out.size)
      go_wp2
      go_roundw
      case rel =>
        have hfr : readAt w' g 0 (n * 64) = some (flat av M).toArray := by rw [readAt_below hbb hlg]; exact hr.out
        have hfc : canAt w' g 0 (n * 64) = true := by rw [canAt_below hbb hlg]; exact hkn.out
        refine ⟨k + 1, by omega, by go_num, ?_, ?_, setAt_below (hb.trans (hbb.mono hb.size)) hg _ _⟩
        · show _ = _
          rw [readAt_setAt_over _ _ 0 (n * 64) _ hfr hfc (j * 64) _ (Nat.zero_le _) (by simp; omega), Nat.sub_zero, flat_set av 64 size_av M j (by rw [hML]; exact hjn), Hstep.out]
        · show _ = _
          rw [canAt_setAt _ _ _ _ _ _ _ (by simpa using f4)]; exact hfc
      case measure => simp [intOf]; omega
    · obtain rfl : k = m := by omega
      go_wp2
      go_ret
      exact ⟨⟨_, rfl, g, cap', rfl, hg, hcap, hmax, by rw [flat_length av 64 size_av, crashK_length, HL.out], hr.out, hkn.out⟩, hb⟩

theorem torn_any (fid : Nat) (cap : Array Value) (cf : Nat → Int) (vl vw : Value) (n m : Nat) (L : List Sec) (W : List (Int × Sec)) (w : World) (hn1 : 1 ≤ n) (hn : n ≤ 5000) (hL : L.length = n) (hm : m ≤ 100000) (hW : W.length = m)
    (hl : RdS w vl n 64 (flat av L)) (hw : RdS w vw m 65 (flat wp2 W)) (hat : ∀ p ∈ W, 0 ≤ p.1 ∧ p.1 < n)
    (hfn : ∀ args w, (callFunc fid args).run Try.prog w = .ok (.enter fid args) w)
    (hcf : ∀ (k : Nat) w', k < m → Below w.heap.size w w' → Calls Try.prog fid (#[.int .i64 k] ++ cap) w' fun e w'' => e = .returned (.int .i64 (cf k)) ∧ Below w'.heap.size w' w'') :
    Calls Try.prog 44 #[vl, vw, .func (.func fid) #[] cap] w fun e w' => (∃ v, e = .returned v ∧ Own w' w.heap.size v n 64 (flat av (crashK L W cf m))) ∧ Below w.heap.size w w' := by
  obtain ⟨bl, ol, cl, rfl, hsrc⟩ := hl.sl hn1
  exact torn_sl fid cap cf bl ol cl vw n m L W w hn hL hm hW hsrc hw hat hfn hcf
set_option maxRecDepth 100000 in
/-- The cut of the write with the index of the boxed slice of cuts. -/
theorem crash1_any (p : Nat) (ad : Option Addr) (q c : Nat) (cs : List Int) (k : Nat) (w : World) (hq : cs.length = q) (hk : k ≤ 100000) (hp : w.cell? ⟨p, 0, none⟩ = some (.slice ad q c)) (hc : RdS w (.slice ad q c) q 1 (cs.map (Value.int .i64))) :
    Calls Try.prog 45 #[.int .i64 k, .pointer (some ⟨p, 0, none⟩)] w fun e w' => e = .returned (.int .i64 (cutAt cs k)) ∧ Below w.heap.size w w' := by
  have hb := Below.refl w.heap.size w
  by_cases hkq : k < q
  · obtain ⟨bc, oc, cc', e1, _, _, hrc⟩ := hc.at k hkq
    simp only [Value.slice.injEq, true_and] at e1
    obtain ⟨rfl, rfl⟩ := e1
    have hcc : w.cell? ⟨bc, oc + k, none⟩ = some (.int .i64 (cutAt cs k)) := by
      have h1 := readAt_cell hrc 0 (.int .i64 (cutAt cs k)) (by
        rw [extract_get _ _ _ _ (by simp; rw [hq]; omega)]
        simp [cutAt, List.getD, show k < cs.length by rw [hq]; exact hkq])
      simpa using h1
    have hqm : q ≤ maxLen := by
      obtain ⟨ad', cap', e, h1, h2, _⟩ := hc
      omega
    clear hrc hc
    simp only [maxLen] at hqm
    go_enter Try.func45, Try.ntmps45
    go_wp2
    go_ret
    exact ⟨rfl, hb⟩
  · have hc0 : cutAt cs k = 0 := by simp only [cutAt]; rw [List.getD_eq_getElem?_getD, List.getElem?_eq_none (by rw [hq]; omega)]; rfl
    rw [hc0]
    clear hc0 hc
    have hkq' : decide (k < q) = false := by simpa using hkq
    clear hkq
    go_enter Try.func45, Try.ntmps45
    go_wp2
    go_ret
    exact ⟨rfl, hb⟩
theorem Own.base {w : World} {b b' n sz : Nat} {v : Value} {xs : List Value} (hle : b' ≤ b) (h : Own w b v n sz xs) : Own w b' v n sz xs := by
  obtain ⟨g, cap, hv, h1, hc, hm, hl, hr, hk⟩ := h
  exact ⟨g, cap, hv, Nat.le_trans hle h1, hc, hm, hl, hr, hk⟩

set_option maxRecDepth 100000 in
theorem crash_sl (bl ol cl : Nat) (vw vc : Value) (n m q : Nat) (L : List Sec) (W : List (Int × Sec)) (cs : List Int) (w : World) (hn : n ≤ 5000) (hL : L.length = n) (hm : m ≤ 100000) (hW : W.length = m) (hq : cs.length = q)
    (hsrc : readAt w bl ol (n * 64) = some (flat av L).toArray) (hw : RdS w vw m 65 (flat wp2 W)) (hc : RdS w vc q 1 (cs.map (Value.int .i64))) (hat : ∀ p ∈ W, 0 ≤ p.1 ∧ p.1 < n) :
    Calls Try.prog 33 #[.slice (some ⟨bl, ol, none⟩) n cl, vw, vc] w fun e w' => (∃ v, e = .returned v ∧ Own w' w.heap.size v n 64 (flat av (crashK L W (cutAt cs) m))) ∧ Below w.heap.size w w' := by
  have Hl := Lib.hid hsrc
  have Hw := Lib.hid hw
  have Hc := Lib.hid hc
  obtain ⟨adc, cc, rfl, _⟩ := hc
  clear hsrc hw
  have hb := Below.refl w.heap.size w
  go_enter Try.func33, Try.ntmps33
  go_wp2_with fail
  have hb2 := ba (.cells #[.slice adc q cc] 23) hb
  refine (torn_sl 45 #[.pointer (some ⟨w.heap.size, 0, none⟩)] (cutAt cs) bl ol cl vw n m L W _ hn hL hm hW ((readAt_below hb2 (readAt_lt Hl.out) _ _).trans Hl.out) (Hw.out.below hb2) hat (fun args w => by go_simp) ?_).mono ?_
  · intro k w' hkm hb'
    refine crash1_any w.heap.size adc q cc cs k w' hq (by omega) ?_ ((Hc.out.below hb2).below hb')
    rw [hb'.cell (by simp)]
    go_simp
  · rintro _ w2 ⟨⟨v, rfl, ho⟩, hb3⟩
    go_wp2
    go_ret
    exact ⟨⟨_, rfl, Own.base (by simp) ho⟩, hb2.trans (hb3.mono (by simp))⟩

theorem crash_any (vl vw vc : Value) (n m q : Nat) (L : List Sec) (W : List (Int × Sec)) (cs : List Int) (w : World) (hn1 : 1 ≤ n) (hn : n ≤ 5000) (hL : L.length = n) (hm : m ≤ 100000) (hW : W.length = m) (hq : cs.length = q)
    (hl : RdS w vl n 64 (flat av L)) (hw : RdS w vw m 65 (flat wp2 W)) (hc : RdS w vc q 1 (cs.map (Value.int .i64))) (hat : ∀ p ∈ W, 0 ≤ p.1 ∧ p.1 < n) :
    Calls Try.prog 33 #[vl, vw, vc] w fun e w' => (∃ v, e = .returned v ∧ Own w' w.heap.size v n 64 (flat av (crashK L W (cutAt cs) m))) ∧ Below w.heap.size w w' := by
  obtain ⟨bl, ol, cl, rfl, hsrc⟩ := hl.sl hn1
  exact crash_sl bl ol cl vw vc n m q L W cs w hn hL hm hW hq hsrc hw hc hat
end Go.Proofs.Ytjedlcfeobhjnaa
