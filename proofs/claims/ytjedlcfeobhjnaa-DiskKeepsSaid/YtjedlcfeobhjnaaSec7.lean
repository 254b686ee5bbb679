/- What Crash of the reference computes: the sectors after writes, each torn at its cut. Conditions: the writes are to sectors that there are; numbers of sectors and writes are small. -/
import Derived.Test.YtjedlcfeobhjnaaSec6
set_option linter.unusedSimpArgs false
set_option linter.unusedVariables false
namespace Go.Proofs.Ytjedlcfeobhjnaa
open Go.RowKit

/-- One write. -/
def step1 (L : List Sec) (p : Int × Sec) (cut : Int) : List Sec := L.set p.1.toNat (tear (L.getD p.1.toNat zsec) p.2 cut)
/-- The first k writes. -/
def crashK (L : List Sec) (W : List (Int × Sec)) (C : Nat → Int) : Nat → List Sec
  | 0 => L
  | k + 1 => step1 (crashK L W C k) (W.getD k (0, zsec)) (C k)
@[simp] theorem crashK_length (L : List Sec) (W : List (Int × Sec)) (C : Nat → Int) (k : Nat) : (crashK L W C k).length = L.length := by
  induction k with
  | zero => rfl
  | succ k ih => simp [crashK, step1, ih]
/-- The cut of the write with an index: 0 if there are fewer cuts. -/
def cutAt (cs : List Int) (k : Nat) : Int := cs.getD k 0

theorem size_wp2 (p : Int × Sec) : (wp2 p).size = 65 := size_wv _ _
theorem view_all : True := trivial

/-- A slice of sectors that is not nil. -/
theorem RdS.sl {w : World} {vl : Value} {n : Nat} {L : List Sec} (hn1 : 1 ≤ n) (hl : RdS w vl n 64 (flat av L)) : ∃ bl ol cl, vl = .slice (some ⟨bl, ol, none⟩) n cl ∧ readAt w bl ol (n * 64) = some (flat av L).toArray := by
  obtain ⟨ad, cap, e, _, _, _, _, h6⟩ := hl
  obtain ⟨b, o, e2, hr⟩ := h6 (by omega)
  subst e2
  exact ⟨b, o, cap, e, hr⟩
set_option maxRecDepth 100000 in
set_option maxHeartbeats 1600000 in
set_option maxRecDepth 100000 in
theorem rcrash_sl (bl ol cl : Nat) (vw vc : Value) (n m q : Nat) (L : List Sec) (W : List (Int × Sec)) (cs : List Int) (w : World) (hn : n ≤ 5000) (hL : L.length = n) (hm : m ≤ 100000) (hW : W.length = m) (hq : cs.length = q)
    (hsrc : readAt w bl ol (n * 64) = some (flat av L).toArray) (hw : RdS w vw m 65 (flat wp2 W)) (hc : RdS w vc q 1 (cs.map (Value.int .i64))) (hat : ∀ p ∈ W, 0 ≤ p.1 ∧ p.1 < n) :
    Calls Try.prog 48 #[.slice (some ⟨bl, ol, none⟩) n cl, vw, vc] w fun e w' => (∃ v, e = .returned v ∧ Own w' w.heap.size v n 64 (flat av (crashK L W (cutAt cs) m))) ∧ Below w.heap.size w w' := by
  obtain ⟨i0, hi, hz, hs, hby⟩ := info_parts view_sec
  have Hw := Lib.hid hw
  have Hc := Lib.hid hc
  have HL := Lib.hid hL
  have HW := Lib.hid hW
  have Hq := Lib.hid hq
  obtain ⟨adw, cw, rfl, _⟩ := hw
  obtain ⟨adc, cc, rfl, _⟩ := hc
  clear hL hW hq
  have hlt := readAt_lt hsrc
  have Hsrc := Lib.hid hsrc
  clear hsrc
  go_enter Try.func48, Try.ntmps48
  have hown0 : (w.alloc (.cells #[] 35)).ownsRow w.heap.size 35 64 (.slice (some ⟨w.heap.size, 0, none⟩) 0 0) 0 [] :=
    World.ownsRow_made (size := 64) w #[] 0 (Nat.le_refl _) (by simp [maxLen]) (by simp)
  go_wp2_with (at_builtin; refine wpList_append_own _ rfl _ _ 40 rfl w.heap.size 35 i0 _ 64 64 Try.underlying40 hi hz hs hby (size_av zsec) (by decide) _ 0 _ rfl hown0 ⟨bl, ol, none⟩ n cl (flat av L) rfl ?c1 ?c2 ?c3 ?c4 ?c5 ?c6 ?_)
  case c1 => rw [flat_length av 64 size_av, HL.out]
  case c2 =>
    intro j u hu
    have h1 := (readAt_range Hsrc.out).1 j u (by simpa using hu)
    rw [Addr.add_lit, World.cell?_alloc_past _ _ _ hlt]; exact h1
  case c3 => exact flat_one av av_one L
  case c4 => simp only [maxLen]; omega
  case c5 => omega
  case c6 => simp
  intro v0 w1 hown1 hgr hnil
  have hb1 : Below w.heap.size w w1 := (ba _ (Below.refl _ _)).grown hgr (by simp) (fun b hbk => by simp [Value.ownBlock] at hbk; omega)
  have hO := Own_of hown1 hnil
  clear hown1 hgr hnil hown0
  obtain ⟨g, cap, rfl, hg, hcap, hmax, _, hrg, hkg⟩ := hO
  go_wp2_with fail
  go_outline
  go_loopw [8] (fun i wr => ∃ k : Nat, k ≤ m ∧ i = .int .i64 k ∧ Hid (readAt wr g 0 (n * 64) = some (flat av (crashK L W (cutAt cs) k)).toArray) ∧ Hid (canAt wr g 0 (n * 64) = true) ∧ Below w.heap.size w wr) (fun i _ => m - (intOf i).toNat)
  case atStart => exact ⟨0, Nat.zero_le _, rfl, hrg, hkg, hb1⟩
  case round =>
    obtain ⟨k, hk, rfl, hr, hkn, hb⟩ := hrel
    by_cases hlt2 : k < m
    · -- the write
      obtain ⟨bw, ow, cw', e1, _, _, hrw⟩ := (Hw.out.below hb).at k hlt2
      simp only [Value.slice.injEq, true_and] at e1
      obtain ⟨rfl, rfl⟩ := e1
      rw [flat_get wp2 65 size_wp2 W k (by rw [HW.out]; exact hlt2)] at hrw
      have hpat := hat (W[k]'(by rw [HW.out]; exact hlt2)) (List.getElem_mem _)
      obtain ⟨p, hpk⟩ : ∃ p, W[k]'(by rw [HW.out]; exact hlt2) = p := ⟨_, rfl⟩
      have hgd : W.getD k (0, zsec) = p := by rw [← hpk, List.getD_eq_getElem?_getD, List.getElem?_eq_getElem (by rw [HW.out]; exact hlt2)]; rfl
      rw [hpk] at hrw hpat
      obtain ⟨at_, d⟩ := p
      simp only [wp2] at hrw
      obtain ⟨j, hj⟩ : ∃ j : Nat, at_ = (j : Int) := ⟨at_.toNat, by simp only at hpat; omega⟩
      subst hj
      have hjn : j < n := by simp only at hpat; omega
      have hstep : crashK L W (cutAt cs) (k + 1) = (crashK L W (cutAt cs) k).set j (tear ((crashK L W (cutAt cs) k)[j]'(by rw [crashK_length, HL.out]; exact hjn)) d (cutAt cs k)) := by
        simp only [crashK, step1, hgd, Int.toNat_natCast]
        congr 2
        rw [List.getD_eq_getElem?_getD, List.getElem?_eq_getElem (by rw [crashK_length, HL.out]; exact hjn)]; rfl
      have Hstep := Lib.hid hstep
      have hML : (crashK L W (cutAt cs) k).length = n := by rw [crashK_length, HL.out]
      have hxj : readAt wr g (j * 64) 64 = some (av ((crashK L W (cutAt cs) k)[j]'(by rw [hML]; exact hjn))) := by
        have hle : j * 64 + 64 ≤ n * 64 := by omega
        have := readAt_sub hr.out (j * 64) 64 (by omega) (by omega)
        rw [this, Nat.sub_zero, flat_get av 64 size_av _ j (by rw [hML]; exact hjn)]
      obtain ⟨x, hx⟩ : ∃ x, (crashK L W (cutAt cs) k)[j]'(by rw [hML]; exact hjn) = x := ⟨_, rfl⟩
      rw [hx] at hxj hstep
      have Hstep := Lib.hid hstep
      obtain ⟨M, hM⟩ : ∃ M, crashK L W (cutAt cs) k = M := ⟨_, rfl⟩
      rw [hM] at hr Hstep hML
      clear hstep hgd hpk hpat hx
      have hat0 := readAt_cell hrw 0 (.int .i64 j) (wv_at _ _)
      rw [Nat.add_zero] at hat0
      have hdat : readAt wr bw (ow + k * 65 + 1) 64 = some (av d) := by
        rw [readAt_sub hrw (ow + k * 65 + 1) 64 (by omega) (by omega)]
        rw [show ow + k * 65 + 1 - (ow + k * 65) = 1 by omega]; exact congrArg some (wv_data _ _)
      have hlbw := readAt_lt hrw
      have hlg := readAt_lt hxj
      have hcan : canAt wr g (j * 64) 64 = true := canAt_sub hkn.out (j * 64) 64 (by omega)
      have hF : ∀ w', Below wr.heap.size wr w' → (w'.cell? ⟨bw, ow + k * 65, none⟩ = some (.int .i64 j) ∧ readAt w' bw (ow + k * 65 + 1) 64 = some (av d) ∧ readAt w' g (j * 64) 64 = some (av x) ∧ canAt w' g (j * 64) 64 = true) := fun w' hC =>
        ⟨by rw [hC.cell hlbw]; exact hat0, by rw [readAt_below hC hlbw]; exact hdat, by rw [readAt_below hC hlg]; exact hxj, by rw [canAt_below hC hlg]; exact hcan⟩
      have HF := Lib.hid hF
      clear hrw hxj hdat hcan hF hat0
      by_cases hkq : k < q
      · obtain ⟨bc, oc, cc', e1, _, _, hrc⟩ := (Hc.out.below hb).at k hkq
        simp only [Value.slice.injEq, true_and] at e1
        obtain ⟨rfl, rfl⟩ := e1
        have hcc : wr.cell? ⟨bc, oc + k, none⟩ = some (.int .i64 (cutAt cs k)) := by
          have h1 := readAt_cell hrc 0 (.int .i64 (cutAt cs k)) (by
            rw [extract_get _ _ _ _ (by simp; rw [Hq.out]; omega)]
            simp [cutAt, List.getD, show k < cs.length by rw [Hq.out]; exact hkq])
          simpa using h1
        clear hrc
        generalize cutAt cs k = c at *
        go_wp2_with fail
        refine wp_region_quiet_end (C := fun w' => Below wr.heap.size wr w') (by simp) (by kernel_rfl) (by kernel_rfl) (by kernel_rfl) (Below.refl _ _).drew ?_
        simp only [List.dropLast_cons_cons, List.dropLast_singleton, List.getLast_cons_cons, List.getLast_singleton]
        repeat (first
          | (refine q_off rfl ?_; simp only [Act.put, Act.eval, List.setIfInBounds_toArray, List.set_cons_zero, List.set_cons_succ, Array.getD_eq_getD_getElem?, List.getElem?_toArray, List.getElem?_cons_succ, List.getElem?_cons_zero, Option.getD_some])
          | (refine q_move _ rfl rfl ?_; simp only [Act.put, Act.eval, List.setIfInBounds_toArray, List.set_cons_zero, List.set_cons_succ, Array.getD_eq_getD_getElem?, List.getElem?_toArray, List.getElem?_cons_succ, List.getElem?_cons_zero, Option.getD_some])
          | (refine q_assign _ rfl rfl ?_; simp only [Act.put, Act.eval, List.setIfInBounds_toArray, List.set_cons_zero, List.set_cons_succ, Array.getD_eq_getD_getElem?, List.getElem?_toArray, List.getElem?_cons_succ, List.getElem?_cons_zero, Option.getD_some])
          | (refine q_ex rfl ?_; apply Exists.intro; refine ⟨fun w' hC' => ?_, ?_⟩; (obtain ⟨f1, f2, f3, f4⟩ := HF.out w' hC'; go_simp; exact rfl); simp only [Act.put, Act.eval, List.setIfInBounds_toArray, List.set_cons_zero, List.set_cons_succ, Array.getD_eq_getD_getElem?, List.getElem?_toArray, List.getElem?_cons_succ, List.getElem?_cons_zero, Option.getD_some])
          | (refine q_cx rfl ?_; apply Exists.intro; apply Exists.intro; apply Exists.intro; refine ⟨fun w' hC' => ?_, fun w' hC' => ?_, ?_⟩; (go_simp; exact ⟨rfl, rfl⟩); (refine (rtear_any x d c _).mono ?_; rintro _ w2 ⟨rfl, hb'⟩; exact ⟨rfl, bt hC' hb'⟩); simp only [Act.put, Act.eval, List.setIfInBounds_toArray, List.set_cons_zero, List.set_cons_succ, Array.getD_eq_getD_getElem?, List.getElem?_toArray, List.getElem?_cons_succ, List.getElem?_cons_zero, Option.getD_some]))
        refine wpQuiet_nil ?_
        intro w' hC'
        obtain ⟨f1, f2, f3, f4⟩ := HF.out w' hC'
        go_wp2
        go_roundw
        case rel =>
          have hfr : readAt w' g 0 (n * 64) = some (flat av M).toArray := by rw [readAt_below hC' hlg]; exact hr.out
          have hfc : canAt w' g 0 (n * 64) = true := by rw [canAt_below hC' hlg]; exact hkn.out
          refine ⟨k + 1, by omega, by go_num, ?_, ?_, setAt_below (hb.trans (hC'.mono hb.size)) hg _ _⟩
          · show _ = _
            rw [readAt_setAt_over _ _ 0 (n * 64) _ hfr hfc (j * 64) _ (Nat.zero_le _) (by simp; omega), Nat.sub_zero, flat_set av 64 size_av M j (by rw [hML]; exact hjn), Hstep.out]
          · show _ = _
            rw [canAt_setAt _ _ _ _ _ _ _ (by simpa using f4)]; exact hfc
        case measure => simp [intOf]; omega
      · have hc0 : cutAt cs k = 0 := by simp only [cutAt]; rw [List.getD_eq_getElem?_getD, List.getElem?_eq_none (by rw [Hq.out]; omega)]; rfl
        rw [hc0] at Hstep
        clear hc0
        go_wp2_with fail
        refine wp_region_quiet_end (C := fun w' => Below wr.heap.size wr w') (by simp) (by kernel_rfl) (by kernel_rfl) (by kernel_rfl) (Below.refl _ _).drew ?_
        simp only [List.dropLast_cons_cons, List.dropLast_singleton, List.getLast_cons_cons, List.getLast_singleton]
        repeat (first
          | (refine q_off rfl ?_; simp only [Act.put, Act.eval, List.setIfInBounds_toArray, List.set_cons_zero, List.set_cons_succ, Array.getD_eq_getD_getElem?, List.getElem?_toArray, List.getElem?_cons_succ, List.getElem?_cons_zero, Option.getD_some])
          | (refine q_move _ rfl rfl ?_; simp only [Act.put, Act.eval, List.setIfInBounds_toArray, List.set_cons_zero, List.set_cons_succ, Array.getD_eq_getD_getElem?, List.getElem?_toArray, List.getElem?_cons_succ, List.getElem?_cons_zero, Option.getD_some])
          | (refine q_assign _ rfl rfl ?_; simp only [Act.put, Act.eval, List.setIfInBounds_toArray, List.set_cons_zero, List.set_cons_succ, Array.getD_eq_getD_getElem?, List.getElem?_toArray, List.getElem?_cons_succ, List.getElem?_cons_zero, Option.getD_some])
          | (refine q_ex rfl ?_; apply Exists.intro; refine ⟨fun w' hC' => ?_, ?_⟩; (obtain ⟨f1, f2, f3, f4⟩ := HF.out w' hC'; go_simp; exact rfl); simp only [Act.put, Act.eval, List.setIfInBounds_toArray, List.set_cons_zero, List.set_cons_succ, Array.getD_eq_getD_getElem?, List.getElem?_toArray, List.getElem?_cons_succ, List.getElem?_cons_zero, Option.getD_some])
          | (refine q_cx rfl ?_; apply Exists.intro; apply Exists.intro; apply Exists.intro; refine ⟨fun w' hC' => ?_, fun w' hC' => ?_, ?_⟩; (go_simp; exact ⟨rfl, rfl⟩); (refine (rtear_any x d 0 _).mono ?_; rintro _ w2 ⟨rfl, hb'⟩; exact ⟨rfl, bt hC' hb'⟩); simp only [Act.put, Act.eval, List.setIfInBounds_toArray, List.set_cons_zero, List.set_cons_succ, Array.getD_eq_getD_getElem?, List.getElem?_toArray, List.getElem?_cons_succ, List.getElem?_cons_zero, Option.getD_some]))
        refine wpQuiet_nil ?_
        intro w' hC'
        obtain ⟨f1, f2, f3, f4⟩ := HF.out w' hC'
        go_wp2
        go_roundw
        case rel =>
          have hfr : readAt w' g 0 (n * 64) = some (flat av M).toArray := by rw [readAt_below hC' hlg]; exact hr.out
          have hfc : canAt w' g 0 (n * 64) = true := by rw [canAt_below hC' hlg]; exact hkn.out
          refine ⟨k + 1, by omega, by go_num, ?_, ?_, setAt_below (hb.trans (hC'.mono hb.size)) hg _ _⟩
          · show _ = _
            rw [readAt_setAt_over _ _ 0 (n * 64) _ hfr hfc (j * 64) _ (Nat.zero_le _) (by simp; omega), Nat.sub_zero, flat_set av 64 size_av M j (by rw [hML]; exact hjn), Hstep.out]
          · show _ = _
            rw [canAt_setAt _ _ _ _ _ _ _ (by simpa using f4)]; exact hfc
        case measure => simp [intOf]; omega
    · obtain rfl : k = m := by omega
      go_wp2
      go_ret
      exact ⟨⟨_, rfl, g, cap, rfl, hg, hcap, hmax, by rw [flat_length av 64 size_av, crashK_length, HL.out], hr.out, hkn.out⟩, hb⟩
theorem rcrash_any (vl vw vc : Value) (n m q : Nat) (L : List Sec) (W : List (Int × Sec)) (cs : List Int) (w : World) (hn1 : 1 ≤ n) (hn : n ≤ 5000) (hL : L.length = n) (hm : m ≤ 100000) (hW : W.length = m) (hq : cs.length = q)
    (hl : RdS w vl n 64 (flat av L)) (hw : RdS w vw m 65 (flat wp2 W)) (hc : RdS w vc q 1 (cs.map (Value.int .i64))) (hat : ∀ p ∈ W, 0 ≤ p.1 ∧ p.1 < n) :
    Calls Try.prog 48 #[vl, vw, vc] w fun e w' => (∃ v, e = .returned v ∧ Own w' w.heap.size v n 64 (flat av (crashK L W (cutAt cs) m))) ∧ Below w.heap.size w w' := by
  obtain ⟨bl, ol, cl, rfl, hsrc⟩ := hl.sl hn1
  exact rcrash_sl bl ol cl vw vc n m q L W cs w hn hL hm hW hq hsrc hw hc hat
end Go.Proofs.Ytjedlcfeobhjnaa
