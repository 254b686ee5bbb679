/- The law DiskMatchesReference returns true. Conditions: the slice reads as operations. -/
import Derived.Test.YtjedlcfeobhjnaaPlay
import Derived.Test.YtjedlcfeobhjnaaState
import Derived.Test.YtjedlcfeobhjnaaRNew
set_option linter.unusedSimpArgs false
set_option linter.unusedVariables false
namespace Go.Proofs.Ytjedlcfeobhjnaa
open Go.RowKit Go.ChangeMaps

/-- What holds at the head of a loop of operations: a disk, the reference's in the variable bw. -/
structure LP (w0 wr : World) (p : DP) (bw n : Nat) (D : DM) (a b c : Value) (m : Nat) : Prop where
  both : Both (fun x => x = bw) w0 wr p n D a b c
  box : C5 wr bw a b (.bool D.down) (.int .i64 D.steps) c
  bp : ¬ p.has bw
  ok : OkD D n m
  pl : D.plan.length ≤ m
  bb : w0.heap.size ≤ bw
section
variable {w0 wr u u' : World} {p : DP} {bw n m : Nat} {D D' : DM} {a b c : Value}
theorem LP.below (h : LP w0 wr p bw n D a b c m) (hb : Below wr.heap.size wr u) : LP w0 u p bw n D a b c m :=
  ⟨⟨h.both.bel.trans (hb.mono h.both.bel.size), h.both.d.below hb, h.both.r.below hb, fun x hx => Nat.lt_of_lt_of_le (h.both.zl x hx) hb.size⟩, h.box.below hb, h.bp, h.ok, h.pl, h.bb⟩
theorem LP.more {m' : Nat} (h : LP w0 wr p bw n D a b c m) (hm : m ≤ m') : LP w0 wr p bw n D a b c m' := ⟨h.both, h.box, h.bp, h.ok.more hm, Nat.le_trans h.pl hm, h.bb⟩
/-- play has been called, and its disk stored to the variable. -/
theorem LP.played {e : Ending} {q : OpM} (h : LP w0 wr p bw n D a b c m) (hn : PNext (fun x => x = bw) w0 wr p n (playD D q) e u) :
    ∃ p' bl ol cl ad2 c2 ad3 c3, e = .returned (.tuple #[.agg #[.slice (some ⟨bl, ol, none⟩) n cl, .slice ad2 (playD D q).op.length c2, .bool (playD D q).down, .int .i64 (playD D q).steps, .slice ad3 (playD D q).plan.length c3], .bool true]) ∧ p'.B = p.B ∧ Kb p.has wr u ∧ (∀ b, p'.has b → p.has b ∨ wr.heap.size ≤ b) ∧ C5 u bw a b (.bool D.down) (.int .i64 D.steps) c ∧
      LP w0 (put5 u bw (.slice (some ⟨bl, ol, none⟩) n cl) (.slice ad2 (playD D q).op.length c2) (.bool (playD D q).down) (.int .i64 (playD D q).steps) (.slice ad3 (playD D q).plan.length c3)) p' bw n (playD D q) (.slice (some ⟨bl, ol, none⟩) n cl) (.slice ad2 (playD D q).op.length c2) (.slice ad3 (playD D q).plan.length c3) (m + 2) := by
  obtain ⟨p', a', b', c', he, hB, hBo, hK, hh⟩ := hn
  obtain ⟨bl, ol, cl, ad2, ad3, c2, c3, rfl, rfl, rfl⟩ := hBo.r.open_
  have hbox : C5 u bw a b (.bool D.down) (.int .i64 D.steps) c := h.box.kb hK h.bp
  have hbp : ¬ p'.has bw := fun hx => by
    rcases hh bw hx with h1 | h1
    · exact h.bp h1
    · have := h.box.lt; omega
  have hk := put5_kb (Z := fun x => x = bw) u bw (.slice (some ⟨bl, ol, none⟩) n cl) (.slice ad2 (playD D q).op.length c2) (.bool (playD D q).down) (.int .i64 (playD D q).steps) (.slice ad3 (playD D q).plan.length c3) rfl
  refine ⟨p', bl, ol, cl, ad2, c2, ad3, c3, he, hB, hK, hh, hbox, ⟨hBo.bel.trans (hk.below (fun x hx => by subst hx; exact h.bb) hBo.bel.size), hBo.d.kb hk (fun x h1 h2 => hbp (h2 ▸ h1)), ?_, fun x hx => Nat.lt_of_lt_of_le (hBo.zl x hx) hk.size⟩, hbox.put _ _ _ _ _, hbp, h.ok.play q, Nat.le_trans (plan_play D q) (by have := h.pl; omega), h.bb⟩
  exact hBo.r.kb ⟨hk.os, hk.tape, hk.output, hk.size, fun x h1 h2 => hk.block x h1 (fun e => h2 (.inr e))⟩ (fun x hx => .inl hx)
end
def Loop2 (w0 wr : World) (PB bw n : Nat) (m : Nat) : Prop := ∃ p D a b c, p.B = PB ∧ LP w0 wr p bw n D a b c m

theorem OkD.newD (k : Int) (hk : k ≤ 4096) : OkD (newD k) k.toNat 0 := ⟨by simp [Proofs.Ytjedlcfeobhjnaa.newD]; omega, fun p hp => (by cases hp), Nat.le_refl _, Int.le_refl 0, Int.le_refl 0⟩
/-- At the start: two new disks, the reference's stored to a new variable. -/
theorem LP.start {w w3 : World} {p : DP} {k : Int} {a b c : Value} (hA : DAt w3 w.heap.size p k.toNat (newD k)) (hR : RAt w3 p.has k.toNat (newD k) a b c) (hB : Below w.heap.size w w3) (hk : k ≤ 4096) :
    LP w (w3.alloc (.cells #[a, b, .bool (newD k).down, .int .i64 (newD k).steps, c] 46)) p w3.heap.size k.toNat (newD k) a b c 0 := by
  have hb := ba (.cells #[a, b, .bool (newD k).down, .int .i64 (newD k).steps, c] 46) (Below.refl w3.heap.size w3)
  refine ⟨⟨hB.trans (hb.mono hB.size), hA.below hb, (hR.kb (X' := PZ p (fun x => x = w3.heap.size)) (Kb.of_below hb) (fun x hx => ?_)), fun x hx => by subst hx; simp⟩, C5.made w3 _ _ _ _ _ _, fun hx => ?_, OkD.newD k hk, by simp [newD], hB.size⟩
  · rcases hx with hx | hx
    · exact .inl hx
    · exact .inr (by omega)
  · have := hA.has_lt _ hx; omega
theorem few_at {L : List (OpM × Value)} (h : fewB L = true) {z : OpM × Value} (hz : z ∈ L) : okO z.1 = true := by
  unfold fewB at h
  simp only [Bool.and_eq_true, List.all_eq_true] at h
  exact h.1 z hz
theorem RdS.lt {w : World} {v : Value} {n sz : Nat} {xs : List Value} (h : RdS w v n sz xs) (h0 : 0 < n) (g : Nat) (hg : v.ownBlock = some g) : g < w.heap.size := by
  obtain ⟨ad, cap, h1, _, _, _, _, h6⟩ := h
  obtain ⟨b, o, e, hr⟩ := h6 h0
  rw [h1, e] at hg
  have : b = g := by simpa [Value.ownBlock] using hg
  subst this
  exact readAt_lt hr
set_option maxRecDepth 100000 in
set_option maxHeartbeats 6400000 in
theorem law_dmr_yes (v : Value) (L : List (OpM × Value)) (k : Int) (w : World) (hL : OpsR w v L) (hf : fewB L = true) (hk : k ≤ 200) :
    Calls Try.prog 5 #[.int .i64 k, v] w fun e w' => e = .returned (.bool true) ∧ Below w.heap.size w w' := by
  have hfew : L.length ≤ 100 := by
    unfold fewB at hf
    simp only [Bool.and_eq_true, decide_eq_true_eq] at hf
    exact hf.2
  obtain ⟨adl, cl, rfl, _⟩ := hL.r
  have HL := Lib.hid hL
  have Hfew := Lib.hid hfew
  have HF := Lib.hid hf
  have hk' : decide ((200 : Int) < k) = false := decide_eq_false (by omega)
  clear hL hfew
  go_enter Try.func5, Try.ntmps5
  go_wp2_with fail
  refine (dawake_any w).mono ?_
  rintro _ w1 ⟨rfl, hb1⟩
  have HB1 := Lib.hid hb1
  have hL1 := HL.out.below hb1
  clear hb1
  go_wp2_with fail
  have hc := few_any _ L w1 hL1
  rw [hf] at hc
  refine hc.mono ?_
  rintro _ w2 ⟨rfl, rfl⟩
  clear hc hL1 hf
  go_wp2_with fail
  refine (new_any w1 k (by omega)).mono ?_
  rintro _ w2 ⟨⟨p, rfl, hA⟩, hb2⟩
  have HA2 : Hid (DAt w2 w1.heap.size p k.toNat (newD k)) := hA
  have HB2 := Lib.hid (bt HB1.out hb2)
  clear hA hb2
  go_wp2_with fail
  refine (rdnew_any w2 p.has HA2.out.has_lt k (by omega)).mono ?_
  rintro _ w3 ⟨⟨v, rfl, a, b, c, rfl, hR⟩, hb3⟩
  obtain ⟨bl, ol, cl1, ad2, ad3, c2, c3, rfl, rfl, rfl⟩ := hR.open_
  have HA3 : Hid (DAt w3 w.heap.size p k.toNat (newD k)) := (HA2.out.below hb3).base HB1.out.size
  have HR3 := Lib.hid hR
  have HB3 := Lib.hid (bt HB2.out hb3)
  clear hR hb3 HA2 HB2 HB1
  unfold rV
  go_wp2_with fail
  obtain ⟨N, hN⟩ : ∃ N, k.toNat = N := ⟨_, rfl⟩
  have HN : Hid (N ≤ 5000) := by (show _ ≤ _; omega)
  have HN1 : Hid (max k 0 = (N : Int)) := by (show _ = _; omega)
  have hl0 : LP w (w3.alloc (.cells #[.slice (some ⟨bl, ol, none⟩) k.toNat cl1, .slice ad2 (newD k).op.length c2, .bool (newD k).down, .int .i64 (newD k).steps, .slice ad3 (newD k).plan.length c3] 46)) p w3.heap.size k.toNat (newD k) (.slice (some ⟨bl, ol, none⟩) k.toNat cl1) (.slice ad2 (newD k).op.length c2) (.slice ad3 (newD k).plan.length c3) 0 := LP.start HA3.out HR3.out HB3.out (by omega)
  rw [hN] at hl0
  rw [hN]
  have HLP0 : Hid (Loop2 w (w3.alloc (.cells #[.slice (some ⟨bl, ol, none⟩) N cl1, .slice ad2 (newD k).op.length c2, .bool (newD k).down, .int .i64 (newD k).steps, .slice ad3 (newD k).plan.length c3] 46)) p.B w3.heap.size N 0) := ⟨p, _, _, _, _, rfl, hl0⟩
  have HLlt : Hid (∀ g, (Value.slice adl L.length cl).ownBlock = some g → 0 < L.length → g < w.heap.size) := fun g hg h0 => HL.out.r.lt h0 g hg
  clear hN hl0 HA3 HR3 HB3
  generalize p.B = PB at *
  generalize w3.heap.size = bw at *
  go_loopw [7] (fun i wr => ∃ j : Nat, j ≤ L.length ∧ i = .int .i64 j ∧ Loop2 w wr PB bw N (2 * j)) (fun i _ => L.length - (intOf i).toNat)
  case atStart => exact ⟨0, Nat.zero_le _, rfl, HLP0.out⟩
  case round =>
    obtain ⟨j, hj, rfl, p, D, a, b, c, rfl, hlp⟩ := hrel
    have HLP := Lib.hid hlp
    have hfew := Hfew.out
    clear hlp HLP0
    by_cases hlt : j < L.length
    · obtain ⟨z, hz⟩ : ∃ z, L[j]'hlt = z := ⟨_, rfl⟩
      have hLr := HL.out.below HLP.out.both.bel
      have Hzok : Hid (OpOk w z) := HL.out.o _ (hz ▸ List.getElem_mem hlt)
      have HzF : Hid (okO z.1 = true) := few_at HF.out (hz ▸ List.getElem_mem hlt)
      obtain ⟨bo, oo, co, ad2o, cap2o, hv, _, _, hr, _⟩ := hLr.cell j hlt
      simp only [Value.slice.injEq, true_and] at hv
      obtain ⟨rfl, rfl⟩ := hv
      rw [hz] at hr
      have HrO := Lib.hid hr
      have hk0 : (0 : Int) ≤ (j : Int) := by omega
      have hk1 : (j : Int) < (L.length : Int) := by omega
      obtain ⟨bl, ol, cl1, ad2, ad3, c2, c3, rfl, rfl, rfl⟩ := HLP.out.both.r.open_
      have HS : Hid (∀ u : World, (readAt u bw 0 5 = some #[.slice (some ⟨bl, ol, none⟩) N cl1, .slice ad2 D.op.length c2, .bool D.down, .int .i64 D.steps, .slice ad3 D.plan.length c3] ∧ readAt u bo (oo + j * 4) 4 = some (oc z)) → u.cell? ⟨bw, 0, none⟩ = some (.slice (some ⟨bl, ol, none⟩) N cl1) ∧ u.cell? ⟨bw, 1, none⟩ = some (.slice ad2 D.op.length c2) ∧ u.cell? ⟨bw, 2, none⟩ = some (.bool D.down) ∧ u.cell? ⟨bw, 3, none⟩ = some (.int .i64 D.steps) ∧ u.cell? ⟨bw, 4, none⟩ = some (.slice ad3 D.plan.length c3) ∧
          u.cell? ⟨bo, oo + j * 4, none⟩ = some (.int .i64 z.1.kind) ∧ u.cell? ⟨bo, oo + j * 4 + 1, none⟩ = some (.int .i64 z.1.at_) ∧ u.cell? ⟨bo, oo + j * 4 + 2, none⟩ = some (.int .u8 (z.1.byte.toNat : Int)) ∧ u.cell? ⟨bo, oo + j * 4 + 3, none⟩ = some z.2) := fun u hu => by
        have hc := fun i v hv => readAt_cell hu.1 i v hv
        have hd := fun i v hv => readAt_cell hu.2 i v hv
        simp only [Nat.zero_add] at hc
        exact ⟨hc 0 _ rfl, hc 1 _ rfl, hc 2 _ rfl, hc 3 _ rfl, hc 4 _ rfl, hd 0 _ rfl, hd 1 _ rfl, hd 2 _ rfl, hd 3 _ rfl⟩
      clear hr hLr hz
      go_upto_region 11 with fail
      refine wp_region_tr (.take 0 (.take 1 (.take 2 (.take 3 (.take 4 (.take 5 (.run 6 (.take 7 (.take 8 (.pure 9 (.brk 10 (.take 11 .done)))))))))))) (fun u => readAt u bw 0 5 = some #[.slice (some ⟨bl, ol, none⟩) N cl1, .slice ad2 D.op.length c2, .bool D.down, .int .i64 D.steps, .slice ad3 D.plan.length c3] ∧ readAt u bo (oo + j * 4) 4 = some (oc z)) (by kernel_rfl) (by kernel_rfl) rfl (by kernel_rfl) ⟨HLP.out.box.r, HrO.out⟩ ?_
      have hb := (Below.refl wr.heap.size wr).drew
      have HLP1 := Lib.hid (HLP.out.below hb)
      have HrO1 := Lib.hid ((readAt_below hb (readAt_lt HrO.out) _ _).trans HrO.out)
      clear hb HLP HrO
      generalize wr.drew = wd at *
      repeat (first | (refine t_off rfl rfl ?_; simp only [List.getElem_toArray, List.getElem_cons_succ, List.getElem_cons_zero, Act.put, Act.eval, List.setIfInBounds_toArray, List.set_cons_zero, List.set_cons_succ, Array.getD_eq_getD_getElem?, List.getElem?_toArray, List.getElem?_cons_succ, List.getElem?_cons_zero, Option.getD_some]) | (refine t_move rfl _ rfl rfl ?_; simp only [List.getElem_toArray, List.getElem_cons_succ, List.getElem_cons_zero, Act.put, Act.eval, List.setIfInBounds_toArray, List.set_cons_zero, List.set_cons_succ, Array.getD_eq_getD_getElem?, List.getElem?_toArray, List.getElem?_cons_succ, List.getElem?_cons_zero, Option.getD_some]) | (refine t_assign rfl _ rfl rfl ?_; simp only [List.getElem_toArray, List.getElem_cons_succ, List.getElem_cons_zero, Act.put, Act.eval, List.setIfInBounds_toArray, List.set_cons_zero, List.set_cons_succ, Array.getD_eq_getD_getElem?, List.getElem?_toArray, List.getElem?_cons_succ, List.getElem?_cons_zero, Option.getD_some]) | (refine t_val rfl rfl ?_; apply Exists.intro; refine ⟨fun w' hC' => ?_, ?_⟩; (obtain ⟨b0, b1, b2, b3, b4, q0, q1, q2, q3⟩ := HS.out w' hC'; go_simp; (first | done | exact rfl)); simp only [List.getElem_toArray, List.getElem_cons_succ, List.getElem_cons_zero, Act.put, Act.eval, List.setIfInBounds_toArray, List.set_cons_zero, List.set_cons_succ, Array.getD_eq_getD_getElem?, List.getElem?_toArray, List.getElem?_cons_succ, List.getElem?_cons_zero, Option.getD_some]) | (refine p_off rfl rfl ?_; simp only [List.getElem_toArray, List.getElem_cons_succ, List.getElem_cons_zero, Act.put, Act.eval, List.setIfInBounds_toArray, List.set_cons_zero, List.set_cons_succ, Array.getD_eq_getD_getElem?, List.getElem?_toArray, List.getElem?_cons_succ, List.getElem?_cons_zero, Option.getD_some]) | (refine p_val rfl rfl ?_; apply Exists.intro; refine ⟨fun w' => ?_, ?_⟩; (go_simp; (first | done | exact rfl)); simp only [List.getElem_toArray, List.getElem_cons_succ, List.getElem_cons_zero, Act.put, Act.eval, List.setIfInBounds_toArray, List.set_cons_zero, List.set_cons_succ, Array.getD_eq_getD_getElem?, List.getElem?_toArray, List.getElem?_cons_succ, List.getElem?_cons_zero, Option.getD_some]))
      refine r_call rfl rfl ?_; apply Exists.intro; apply Exists.intro; refine ⟨?_, ?_⟩; (go_simp; exact ⟨rfl, rfl⟩)
      refine (play_any (fun x => x = bw) w wd p N (2 * j) D _ _ _ z HLP1.out.both HLP1.out.ok (by omega) HN.out (by have := HLP1.out.pl; omega) Hzok.out HzF.out).mono ?_
      rintro _ u1 hN
      obtain ⟨p2, bl2, ol2, cl2, ad22, c22, ad32, c32, rfl, hB2, hK2, hh2, hbox, hLP⟩ := HLP1.out.played hN
      have hrO : readAt u1 bo (oo + j * 4) 4 = some (oc z) := (rd_same (hK2.block _ (readAt_lt HrO1.out) (fun hx => by have h1 := HLP1.out.both.d.ok.lo _ hx; have h2 := HLlt.out; have h3 : bo < w.heap.size := h2 _ rfl (by omega); omega)) _ _).trans HrO1.out
      obtain ⟨D2, hD2⟩ : ∃ D2, playD D z.1 = D2 := ⟨_, rfl⟩
      rw [hD2] at hLP
      simp only [hD2]
      refine ⟨_, rfl, _, fun _ h => h, ⟨hbox.r, hrO⟩, ?_⟩; simp only [List.getElem_toArray, List.getElem_cons_succ, List.getElem_cons_zero, Act.put, Act.eval, List.setIfInBounds_toArray, List.set_cons_zero, List.set_cons_succ, Array.getD_eq_getD_getElem?, List.getElem?_toArray, List.getElem?_cons_succ, List.getElem?_cons_zero, Option.getD_some]
      clear hrO
      have HD2 := Lib.hid hD2
      have HB2p := Lib.hid hB2
      have HK2 := Lib.hid hK2
      have Hh2 := Lib.hid hh2
      have Hbox := Lib.hid hbox
      have HLP2 := Lib.hid hLP
      clear hN hD2 hB2 hK2 hh2 hbox hLP
      repeat (first | (refine t_off rfl rfl ?_; simp only [List.getElem_toArray, List.getElem_cons_succ, List.getElem_cons_zero, Act.put, Act.eval, List.setIfInBounds_toArray, List.set_cons_zero, List.set_cons_succ, Array.getD_eq_getD_getElem?, List.getElem?_toArray, List.getElem?_cons_succ, List.getElem?_cons_zero, Option.getD_some]) | (refine t_move rfl _ rfl rfl ?_; simp only [List.getElem_toArray, List.getElem_cons_succ, List.getElem_cons_zero, Act.put, Act.eval, List.setIfInBounds_toArray, List.set_cons_zero, List.set_cons_succ, Array.getD_eq_getD_getElem?, List.getElem?_toArray, List.getElem?_cons_succ, List.getElem?_cons_zero, Option.getD_some]) | (refine t_assign rfl _ rfl rfl ?_; simp only [List.getElem_toArray, List.getElem_cons_succ, List.getElem_cons_zero, Act.put, Act.eval, List.setIfInBounds_toArray, List.set_cons_zero, List.set_cons_succ, Array.getD_eq_getD_getElem?, List.getElem?_toArray, List.getElem?_cons_succ, List.getElem?_cons_zero, Option.getD_some]) | (refine t_val rfl rfl ?_; apply Exists.intro; refine ⟨fun w' hC' => ?_, ?_⟩; (obtain ⟨b0, b1, b2, b3, b4, q0, q1, q2, q3⟩ := HS.out w' hC'; go_simp; (first | done | exact rfl)); simp only [List.getElem_toArray, List.getElem_cons_succ, List.getElem_cons_zero, Act.put, Act.eval, List.setIfInBounds_toArray, List.set_cons_zero, List.set_cons_succ, Array.getD_eq_getD_getElem?, List.getElem?_toArray, List.getElem?_cons_succ, List.getElem?_cons_zero, Option.getD_some]) | (refine p_off rfl rfl ?_; simp only [List.getElem_toArray, List.getElem_cons_succ, List.getElem_cons_zero, Act.put, Act.eval, List.setIfInBounds_toArray, List.set_cons_zero, List.set_cons_succ, Array.getD_eq_getD_getElem?, List.getElem?_toArray, List.getElem?_cons_succ, List.getElem?_cons_zero, Option.getD_some]) | (refine p_val rfl rfl ?_; apply Exists.intro; refine ⟨fun w' => ?_, ?_⟩; (go_simp; (first | done | exact rfl)); simp only [List.getElem_toArray, List.getElem_cons_succ, List.getElem_cons_zero, Act.put, Act.eval, List.setIfInBounds_toArray, List.set_cons_zero, List.set_cons_succ, Array.getD_eq_getD_getElem?, List.getElem?_toArray, List.getElem?_cons_succ, List.getElem?_cons_zero, Option.getD_some]))
      obtain ⟨e0, e1, e2, e3, e4⟩ := Hbox.out.free
      obtain ⟨b0, b1, b2, b3, b4⟩ := Hbox.out.cells
      refine b_any rfl rfl (fun K hK => ?_)
      go_simp
      refine hK _ _ (fun _ => True) trivial ?_
      clear hK K e0 e1 e2 e3 e4 b0 b1 b2 b3 b4
      try simp only [List.getElem_toArray, List.getElem_cons_succ, List.getElem_cons_zero, Act.put, Act.eval, List.setIfInBounds_toArray, List.set_cons_zero, List.set_cons_succ, Array.getD_eq_getD_getElem?, List.getElem?_toArray, List.getElem?_cons_succ, List.getElem?_cons_zero, Option.getD_some]
      repeat (first | (refine t_off rfl rfl ?_; simp only [List.getElem_toArray, List.getElem_cons_succ, List.getElem_cons_zero, Act.put, Act.eval, List.setIfInBounds_toArray, List.set_cons_zero, List.set_cons_succ, Array.getD_eq_getD_getElem?, List.getElem?_toArray, List.getElem?_cons_succ, List.getElem?_cons_zero, Option.getD_some]) | (refine t_move rfl _ rfl rfl ?_; simp only [List.getElem_toArray, List.getElem_cons_succ, List.getElem_cons_zero, Act.put, Act.eval, List.setIfInBounds_toArray, List.set_cons_zero, List.set_cons_succ, Array.getD_eq_getD_getElem?, List.getElem?_toArray, List.getElem?_cons_succ, List.getElem?_cons_zero, Option.getD_some]) | (refine t_assign rfl _ rfl rfl ?_; simp only [List.getElem_toArray, List.getElem_cons_succ, List.getElem_cons_zero, Act.put, Act.eval, List.setIfInBounds_toArray, List.set_cons_zero, List.set_cons_succ, Array.getD_eq_getD_getElem?, List.getElem?_toArray, List.getElem?_cons_succ, List.getElem?_cons_zero, Option.getD_some]) | (refine t_val rfl rfl ?_; apply Exists.intro; refine ⟨fun w' hC' => ?_, ?_⟩; (skip; go_simp; (first | done | exact rfl)); simp only [List.getElem_toArray, List.getElem_cons_succ, List.getElem_cons_zero, Act.put, Act.eval, List.setIfInBounds_toArray, List.set_cons_zero, List.set_cons_succ, Array.getD_eq_getD_getElem?, List.getElem?_toArray, List.getElem?_cons_succ, List.getElem?_cons_zero, Option.getD_some]) | (refine p_off rfl rfl ?_; simp only [List.getElem_toArray, List.getElem_cons_succ, List.getElem_cons_zero, Act.put, Act.eval, List.setIfInBounds_toArray, List.set_cons_zero, List.set_cons_succ, Array.getD_eq_getD_getElem?, List.getElem?_toArray, List.getElem?_cons_succ, List.getElem?_cons_zero, Option.getD_some]) | (refine p_val rfl rfl ?_; apply Exists.intro; refine ⟨fun w' => ?_, ?_⟩; (go_simp; (first | done | exact rfl)); simp only [List.getElem_toArray, List.getElem_cons_succ, List.getElem_cons_zero, Act.put, Act.eval, List.setIfInBounds_toArray, List.set_cons_zero, List.set_cons_succ, Array.getD_eq_getD_getElem?, List.getElem?_toArray, List.getElem?_cons_succ, List.getElem?_cons_zero, Option.getD_some]))
      refine t_done ?_
      have hkP := put5_kb (Z := fun x => x = bw) u1 bw (.slice (some ⟨bl2, ol2, none⟩) N cl2) (.slice ad22 D2.op.length c22) (.bool D2.down) (.int .i64 D2.steps) (.slice ad32 D2.plan.length c32) rfl
      have hLP := HLP2.out
      clear HLP2
      unfold put5 at hkP hLP
      have HkP := Lib.hid hkP
      have HLP := Lib.hid hLP
      clear hkP hLP HLP1 Hbox
      generalize ((((u1.setCell ⟨bw, 0, none⟩ (.slice (some ⟨bl2, ol2, none⟩) N cl2)).setCell ⟨bw, 1, none⟩ (.slice ad22 D2.op.length c22)).setCell ⟨bw, 2, none⟩ (.bool D2.down)).setCell ⟨bw, 3, none⟩ (.int .i64 D2.steps)).setCell ⟨bw, 4, none⟩ (.slice ad32 D2.plan.length c32) = wp at *
      clear HS HzF Hzok HrO1
      obtain ⟨b0, b1, b2, b3, b4⟩ := HLP.out.box.cells
      go_wp2_with fail
      clear b0 b1 b2 b3 b4
      have hst := state_any wp w.heap.size p2 _ N (2 * j + 2) D2 _ _ _ HLP.out.both.d HLP.out.both.r HLP.out.ok (by omega) HN.out
      rw [HB2p.out] at hst
      unfold rV at hst
      refine hst.mono ?_
      rintro _ u5 ⟨rfl, hb5⟩
      have HLP5 := Lib.hid (HLP.out.below hb5)
      clear hb5 HLP hst
      go_wp2
      go_round
      case rel => exact ⟨j + 1, by omega, by go_num, p2, D2, _, _, _, HB2p.out, HLP5.out⟩
      case measure => simp [intOf]; omega
    · obtain rfl : j = L.length := by omega
      go_wp2_with fail
      refine (size_any wr HLP.out.both.d).mono ?_
      rintro _ _ ⟨rfl, rfl⟩
      have hmx := HN1.out
      go_wp2
      · go_ret
        refine ⟨?_, HLP.out.both.bel⟩
        show Ending.returned (Value.bool ((N : Int) == 0)) = _
        rw [show ((N : Int) == 0) = true by simp; omega]
      · go_ret
        refine ⟨?_, HLP.out.both.bel⟩
        show Ending.returned (Value.bool ((N : Int) == k)) = _
        rw [show ((N : Int) == k) = true by simp; omega]
set_option maxRecDepth 100000 in
set_option maxHeartbeats 1600000 in
theorem law_dmr_no (v : Value) (L : List (OpM × Value)) (k : Int) (w : World) (hL : OpsR w v L) (hno : 200 < k ∨ (¬ 200 < k ∧ fewB L = false)) :
    Calls Try.prog 5 #[.int .i64 k, v] w fun e w' => e = .returned (.bool true) ∧ Below w.heap.size w w' := by
  obtain ⟨adl, cl, rfl, _⟩ := hL.r
  have HL := Lib.hid hL
  clear hL
  rcases hno with h | ⟨h, hf⟩
  · have d : decide ((200 : Int) < k) = true := decide_eq_true h
    go_enter Try.func5, Try.ntmps5
    go_wp2_with fail
    refine (dawake_any w).mono ?_
    rintro _ w1 ⟨rfl, hb1⟩
    have HB1 := Lib.hid hb1
    clear hb1
    go_wp2_with fail
    refine (dawake_any _).mono ?_
    rintro _ w3 ⟨rfl, hb3⟩
    have HB3 := Lib.hid (bt HB1.out hb3)
    clear hb3
    go_wp2
    go_ret
    exact ⟨rfl, HB3.out⟩
  · have d : decide ((200 : Int) < k) = false := decide_eq_false h
    go_enter Try.func5, Try.ntmps5
    go_wp2_with fail
    refine (dawake_any w).mono ?_
    rintro _ w1 ⟨rfl, hb1⟩
    have HB1 := Lib.hid hb1
    have hL1 := HL.out.below hb1
    clear hb1
    go_wp2_with fail
    have hc := few_any _ L w1 hL1
    rw [hf] at hc
    refine hc.mono ?_
    rintro _ w2 ⟨rfl, rfl⟩
    clear hc hL1 hf
    go_wp2_with fail
    refine (dawake_any _).mono ?_
    rintro _ w3 ⟨rfl, hb3⟩
    have HB3 := Lib.hid (bt HB1.out hb3)
    clear hb3
    go_wp2
    go_ret
    exact ⟨rfl, HB3.out⟩
theorem law_dmr (v : Value) (L : List (OpM × Value)) (k : Int) (w : World) (hL : OpsR w v L) :
    Calls Try.prog 5 #[.int .i64 k, v] w fun e w' => e = .returned (.bool true) ∧ Below w.heap.size w w' := by
  by_cases h : 200 < k
  · exact law_dmr_no v L k w hL (.inl h)
  · cases hf : fewB L with
    | false => exact law_dmr_no v L k w hL (.inr ⟨h, hf⟩)
    | true => exact law_dmr_yes v L k w hL hf (by omega)
end Go.Proofs.Ytjedlcfeobhjnaa
