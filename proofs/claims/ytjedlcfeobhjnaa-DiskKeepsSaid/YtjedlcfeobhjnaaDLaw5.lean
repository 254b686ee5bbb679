/- The law DiskKeeps returns true. Conditions: the slices read as operations. -/
import Derived.Test.YtjedlcfeobhjnaaPlay
import Derived.Test.YtjedlcfeobhjnaaState
import Derived.Test.YtjedlcfeobhjnaaRNew
set_option linter.unusedSimpArgs false
set_option linter.unusedVariables false
namespace Go.Proofs.Ytjedlcfeobhjnaa
open Go.RowKit Go.ChangeMaps

/-! ### plain law -/
theorem step1_other (L : List Sec) (p : Int × Sec) (c : Int) (i : Nat) (h : p.1.toNat ≠ i) : (step1 L p c)[i]? = L[i]? := by
  unfold step1; rw [List.getElem?_set_ne h]
theorem crashK_other (L : List Sec) (V : List (Int × Sec)) (C : Nat → Int) (i : Nat) (h : ∀ p ∈ V, p.1.toNat ≠ i) : ∀ k, k ≤ V.length → (crashK L V C k)[i]? = L[i]?
  | 0, _ => rfl
  | k + 1, hk => by
    have hm : V.getD k (0, zsec) ∈ V := by
      rw [List.getD_eq_getElem?_getD, List.getElem?_eq_getElem (show k < V.length by omega)]
      exact List.getElem_mem _
    show (step1 (crashK L V C k) (V.getD k (0, zsec)) (C k))[i]? = _
    rw [step1_other _ _ _ _ (h _ hm)]
    exact crashK_other L V C i h k (by omega)
/-- The sectors that are not written are as they were. -/
structure KeepI (D : DM) (T : List Sec) (V : List Bool) : Prop where
  len : V.length = 6
  st : ∀ i : Nat, V[i]? = some false → D.st[i]? = T[i]?
  op : ∀ i : Nat, V[i]? = some false → ∀ p ∈ D.op, p.1.toNat ≠ i
def wroteV (V : List Bool) (q : OpM) : List Bool := if q.kind = 1 ∧ 0 ≤ q.at_ ∧ q.at_ < 6 then V.set q.at_.toNat true else V
theorem KeepI.same {D E : DM} {T : List Sec} {V : List Bool} (h : KeepI D T V) (hs : E.st = D.st) (ho : E.op = D.op) : KeepI E T V :=
  ⟨h.len, fun i hi => by rw [hs]; exact h.st i hi, fun i hi => by rw [ho]; exact h.op i hi⟩
theorem KeepI.crash {D : DM} {T : List Sec} {V : List Bool} (h : KeepI D T V) (C : Nat → Int) (E : DM) (hs : E.st = crashK D.st D.op C D.op.length) (ho : E.op = []) : KeepI E T V :=
  ⟨h.len, fun i hi => by rw [hs, crashK_other _ _ _ _ (h.op i hi) _ (Nat.le_refl _)]; exact h.st i hi, fun i hi p hp => by rw [ho] at hp; cases hp⟩
theorem KeepI.less {D : DM} {T : List Sec} {V : List Bool} (h : KeepI D T V) (k : Nat) : KeepI D T (V.set k true) := by
  have hg : ∀ i : Nat, (V.set k true)[i]? = some false → V[i]? = some false := fun i hi => by
    rw [List.getElem?_set] at hi
    split at hi
    · split at hi <;> cases hi
    · exact hi
  exact ⟨by simpa using h.len, fun i hi => h.st i (hg i hi), fun i hi => h.op i (hg i hi)⟩
theorem KeepI.add {D : DM} {T : List Sec} {V : List Bool} (h : KeepI D T V) (k : Int) (x : Sec) (hk : hasD D k = true) (hD : D.st.length = 6) : KeepI (addD D k x) T (V.set k.toNat true) := by
  simp only [hasD, Bool.and_eq_true, decide_eq_true_eq, hD] at hk
  have h1 := h.less k.toNat
  refine ⟨h1.len, fun i hi => by rw [addD_st]; exact h1.st i hi, fun i hi p hp => ?_⟩
  have hx : (addD D k x).op = D.op ++ [(k, x)] ∨ (addD D k x).op = D.op := by
    unfold addD
    split
    · exact .inl rfl
    · exact .inr rfl
  have hki : k.toNat ≠ i := fun e => by
    subst e
    rw [List.getElem?_set] at hi
    simp only [if_true] at hi
    split at hi <;> cases hi
  rcases hx with hx | hx
  · rw [hx] at hp
    rcases List.mem_append.1 hp with hp | hp
    · exact h1.op i hi p hp
    · obtain rfl : p = (k, x) := by simpa using hp
      exact hki
  · rw [hx] at hp; exact h1.op i hi p hp
theorem addD_no (D : DM) (k : Int) (x : Sec) (hk : hasD D k = false) : addD D k x = D := by unfold addD; rw [hk]; rfl
theorem KeepI.play {D : DM} {T : List Sec} {V : List Bool} (h : KeepI D T V) (q : OpM) (hD : D.st.length = 6) : KeepI (playD D q) T (wroteV V q) := by
  by_cases k1 : q.kind = 1
  · have e1 : playD D q = (writeD D q.at_ (fill q.byte)).1 := by unfold playD; rw [if_neg (by omega), if_pos k1]
    rw [e1]
    have ht : hasD (tickD D) q.at_ = hasD D q.at_ := rfl
    by_cases hh : hasD D q.at_ = true
    · have hr : 0 ≤ q.at_ ∧ q.at_ < 6 := by have := hh; simp only [hasD, Bool.and_eq_true, decide_eq_true_eq, hD] at this; omega
      have e2 : wroteV V q = V.set q.at_.toNat true := by unfold wroteV; rw [if_pos ⟨k1, hr⟩]
      rw [e2]
      have ha : KeepI (addD (tickD D) q.at_ (fill q.byte)) T (V.set q.at_.toNat true) := (h.same (E := tickD D) rfl rfl).add q.at_ (fill q.byte) hh hD
      unfold writeD
      split
      · exact h.less _
      · split
        · exact ha.crash _ _ rfl rfl
        · split
          · exact (h.less _).same rfl rfl
          · exact ha
    · have hh' : hasD D q.at_ = false := by simpa using hh
      have hw : KeepI D T (wroteV V q) := by
        unfold wroteV; split
        · exact h.less _
        · exact h
      unfold writeD
      rw [addD_no (tickD D) q.at_ (fill q.byte) hh']
      split
      · exact hw
      · split
        · exact (hw.same (E := tickD D) rfl rfl).crash _ _ rfl rfl
        · split
          · exact hw.same rfl rfl
          · exact hw.same rfl rfl
  · have e2 : wroteV V q = V := by unfold wroteV; rw [if_neg (fun h => k1 h.1)]
    rw [e2]
    unfold playD
    rw [if_neg k1]
    split
    · exact h
    · split
      · unfold syncD
        split
        · exact h
        · split
          · exact (h.same (E := tickD D) rfl rfl).crash _ _ rfl rfl
          · split
            · exact h.same rfl rfl
            · exact (h.same (E := tickD D) rfl rfl).crash _ _ rfl rfl
      · have hp : ∀ k c l, KeepI (planD D k c l) T V := fun k c l => by unfold planD; split <;> exact h.same rfl rfl
        split
        · exact hp _ _ _
        · split
          · exact hp _ _ _
          · split
            · exact h.crash _ _ rfl rfl
            · exact h.same rfl rfl
theorem KeepI.end_ {D : DM} {T : List Sec} {V : List Bool} (h : KeepI D T V) (i : Nat) (hi : V[i]? = some false) : (crashD D []).st[i]? = T[i]? := (h.crash (cutAt []) (crashD D []) rfl rfl).st i hi
theorem KeepI.start (D : DM) (hD : D.op = []) : KeepI D D.st (List.replicate 6 false) := ⟨rfl, fun i _ => rfl, fun i _ p hp => by rw [hD] at hp; cases hp⟩
theorem sync_ok (D : DM) (h : (syncD D).2 = 0) : (syncD D).1.op = [] := by
  unfold syncD at h ⊢
  split at h
  · cases h
  · split at h
    · cases h
    · split at h
      · cases h
      · rename_i h1 _ h2 h3
        simp [h1, h3, flushD]

/-! ### memory -/
theorem cell_block {w u : World} {b : Nat} (h : u.heap[b]? = w.heap[b]?) (i : Nat) : u.cell? ⟨b, i, none⟩ = w.cell? ⟨b, i, none⟩ ∧ u.frozen? ⟨b, i, none⟩ = w.frozen? ⟨b, i, none⟩ := by
  constructor
  · simp [World.cell?, h]
  · simp [World.frozen?, h]
/-- As LP, the two values apart. -/
structure LQ (Z : Nat → Prop) (w0 wr : World) (p : DP) (bw n : Nat) (D R : DM) (a b c : Value) (m : Nat) : Prop where
  both : Both2 Z w0 wr p n D R a b c
  box : C5 wr bw a b (.bool R.down) (.int .i64 R.steps) c
  bp : ¬ p.has bw
  ok : OkD D n m
  okR : OkD R n m
  pl : R.plan.length ≤ m
  bb : w0.heap.size ≤ bw
  zb : Z bw
section
variable {Z : Nat → Prop} {w0 wr u u' : World} {p : DP} {bw n m : Nat} {D D' R R' : DM} {a b c : Value}
theorem LQ.below (h : LQ Z w0 wr p bw n D R a b c m) (hb : Below wr.heap.size wr u) : LQ Z w0 u p bw n D R a b c m :=
  ⟨⟨h.both.bel.trans (hb.mono h.both.bel.size), h.both.d.below hb, h.both.r.below hb, fun x hx => Nat.lt_of_lt_of_le (h.both.zl x hx) hb.size⟩, h.box.below hb, h.bp, h.ok, h.okR, h.pl, h.bb, h.zb⟩
/-- Another block of Z has been changed. -/
theorem LQ.kb (h : LQ Z w0 wr p bw n D R a b c m) {g : Nat} (hk : Kb (fun x => x = g) wr u) (hz : Z g) (hp : ¬ p.has g) (hb : bw ≠ g) (hl : w0.heap.size ≤ g) : LQ Z w0 u p bw n D R a b c m :=
  ⟨⟨h.both.bel.trans (hk.below (fun x hx => by subst hx; exact hl) h.both.bel.size), h.both.d.kb hk (fun x h1 h2 => hp (h2 ▸ h1)), h.both.r.kb ⟨hk.os, hk.tape, hk.output, hk.size, fun x h1 h2 => hk.block x h1 (fun e => h2 (.inr (e ▸ hz)))⟩ (fun x hx => .inl hx), fun x hx => Nat.lt_of_lt_of_le (h.both.zl x hx) hk.size⟩, h.box.kb hk hb, h.bp, h.ok, h.okR, h.pl, h.bb, h.zb⟩
theorem LQ.played {same : Prop} {e : Ending} {q : OpM} (h : LQ Z w0 wr p bw n D R a b c m) (hn : PNext2 Z w0 wr p n (playD D q) (playD R q) same e u) :
    ∃ t p' bl ol cl ad2 c2 ad3 c3, e = .returned (.tuple #[.agg #[.slice (some ⟨bl, ol, none⟩) n cl, .slice ad2 (playD R q).op.length c2, .bool (playD R q).down, .int .i64 (playD R q).steps, .slice ad3 (playD R q).plan.length c3], .bool t]) ∧ p'.B = p.B ∧ Kb p.has wr u ∧ (∀ b, p'.has b → p.has b ∨ wr.heap.size ≤ b) ∧ C5 u bw a b (.bool R.down) (.int .i64 R.steps) c ∧
      LQ Z w0 (put5 u bw (.slice (some ⟨bl, ol, none⟩) n cl) (.slice ad2 (playD R q).op.length c2) (.bool (playD R q).down) (.int .i64 (playD R q).steps) (.slice ad3 (playD R q).plan.length c3)) p' bw n (playD D q) (playD R q) (.slice (some ⟨bl, ol, none⟩) n cl) (.slice ad2 (playD R q).op.length c2) (.slice ad3 (playD R q).plan.length c3) (m + 2) := by
  obtain ⟨t, p', a', b', c', he, _, hB, hBo, hK, hh⟩ := hn
  obtain ⟨bl, ol, cl, ad2, ad3, c2, c3, rfl, rfl, rfl⟩ := hBo.r.open_
  have hbox : C5 u bw a b (.bool R.down) (.int .i64 R.steps) c := h.box.kb hK h.bp
  have hbp : ¬ p'.has bw := fun hx => by
    rcases hh bw hx with h1 | h1
    · exact h.bp h1
    · have := h.box.lt; omega
  have hk := put5_kb (Z := fun x => x = bw) u bw (.slice (some ⟨bl, ol, none⟩) n cl) (.slice ad2 (playD R q).op.length c2) (.bool (playD R q).down) (.int .i64 (playD R q).steps) (.slice ad3 (playD R q).plan.length c3) rfl
  refine ⟨t, p', bl, ol, cl, ad2, c2, ad3, c3, he, hB, hK, hh, hbox, ⟨hBo.bel.trans (hk.below (fun x hx => by subst hx; exact h.bb) hBo.bel.size), hBo.d.kb hk (fun x h1 h2 => hbp (h2 ▸ h1)), ?_, fun x hx => Nat.lt_of_lt_of_le (hBo.zl x hx) hk.size⟩, hbox.put _ _ _ _ _, hbp, h.ok.play q, h.okR.play q, Nat.le_trans (plan_play R q) (by have := h.pl; omega), h.bb, h.zb⟩
  exact hBo.r.kb ⟨hk.os, hk.tape, hk.output, hk.size, fun x h1 h2 => hk.block x h1 (fun e => h2 (.inr (e ▸ h.zb)))⟩ (fun x hx => .inl hx)
end
/-- The sectors read ahead, and which sectors have been written. -/
structure K6 (wr : World) (p : DP) (bw g1 br : Nat) (T : List Sec) (V : List Bool) : Prop where
  old : readAt wr g1 0 (6 * 64) = some (flat av T).toArray
  wr_ : ∀ i : Nat, i < 6 → wr.cell? ⟨br, i, none⟩ = some (.bool (V.getD i false)) ∧ wr.frozen? ⟨br, i, none⟩ = false
  rl : br < wr.heap.size
  pg : ¬ p.has g1
  pr : ¬ p.has br
  gb : g1 ≠ bw
  gr : g1 ≠ br
  rb : br ≠ bw
theorem K6.kept {wr u : World} {p p' : DP} {bw g1 br : Nat} {T : List Sec} {V : List Bool} (h : K6 wr p bw g1 br T V) {X : Nat → Prop} (hk : Kb X wr u) (h1 : ¬ X g1) (h2 : ¬ X br) (hp : ∀ b, p'.has b → p.has b ∨ wr.heap.size ≤ b) : K6 u p' bw g1 br T V := by
  have hl := readAt_lt h.old
  refine ⟨(rd_same (hk.block _ hl h1) 0 _).trans h.old, fun i hi => ?_, Nat.lt_of_lt_of_le h.rl hk.size, fun hx => ?_, fun hx => ?_, h.gb, h.gr, h.rb⟩
  · obtain ⟨e1, e2⟩ := cell_block (hk.block _ h.rl h2) i
    rw [e1, e2]; exact h.wr_ i hi
  · rcases hp _ hx with h3 | h3
    · exact h.pg h3
    · omega
  · rcases hp _ hx with h3 | h3
    · exact h.pr h3
    · have := h.rl; omega
theorem K6.set {wr : World} {p : DP} {bw g1 br : Nat} {T : List Sec} {V : List Bool} (h : K6 wr p bw g1 br T V) (k : Nat) (hk : k < 6) (hV : V.length = 6) : K6 (wr.setCell ⟨br, k, none⟩ (.bool true)) p bw g1 br T (V.set k true) := by
  have hkb : Kb (fun x => x = br) wr (wr.setCell ⟨br, k, none⟩ (.bool true)) := (Kb.refl _ _).setC _ _ rfl
  refine ⟨(rd_same (hkb.block _ (readAt_lt h.old) h.gr) 0 _).trans h.old, fun i hi => ?_, Nat.lt_of_lt_of_le h.rl hkb.size, h.pg, h.pr, h.gb, h.gr, h.rb⟩
  obtain ⟨e1, e2⟩ := h.wr_ i hi
  obtain ⟨e3, e4⟩ := h.wr_ k hk
  refine ⟨?_, by simpa [go_sem] using e2⟩
  by_cases e : i = k
  · subst e
    simp [go_sem, e1, List.getD, hV, hi]
  · simp [go_sem, e1, e, Ne.symm e, List.getD, List.getElem?_set]
def Loop6 (w0 wr : World) (PB bw br g1 m : Nat) (T : List Sec) : Prop := ∃ p D R a b c V, p.B = PB ∧ LQ (fun x => x = bw ∨ x = br) w0 wr p bw 6 D R a b c m ∧ KeepI D T V ∧ K6 wr p bw g1 br T V ∧ w0.heap.size ≤ br
/-- One row of two rows of rows. -/
theorem row_at {w : World} {g : Nat} {T : List Sec} (h : readAt w g 0 (6 * 64) = some (flat av T).toArray) (hT : T.length = 6) (i : Nat) (hi : i < 6) : readAt w g (i * 64) 64 = some (av (T[i]'(by omega))) := by
  rw [readAt_sub h (i * 64) 64 (by omega) (by omega), Nat.sub_zero, flat_get av 64 size_av T i (by omega)]
structure L7 (w0 w : World) (g1 g2 br : Nat) (T1 T2 : List Sec) (V : List Bool) : Prop where
  r1 : readAt w g1 0 (6 * 64) = some (flat av T1).toArray
  r2 : readAt w g2 0 (6 * 64) = some (flat av T2).toArray
  wv : ∀ i : Nat, i < 6 → w.cell? ⟨br, i, none⟩ = some (.bool (V.getD i false))
  bel : Below w0.heap.size w0 w

set_option maxRecDepth 100000 in
set_option maxHeartbeats 12800000 in
theorem law_dkp_yes (v v2 : Value) (L M : List (OpM × Value)) (w : World) (hL : OpsR w v L) (hf : fewB L = true) (hM : OpsR w v2 M) (hf2 : fewB M = true) :
    Calls Try.prog 4 #[v, v2] w fun e w' => e = .returned (.bool true) ∧ Below w.heap.size w w' := by
  have hfl : ∀ L : List (OpM × Value), fewB L = true → L.length ≤ 100 := fun L hf => by
    unfold fewB at hf
    simp only [Bool.and_eq_true, decide_eq_true_eq] at hf
    exact hf.2
  have Hfew := Lib.hid (hfl L hf)
  have HfewM := Lib.hid (hfl M hf2)
  obtain ⟨adl, cl, rfl, _⟩ := hL.r
  obtain ⟨adm, cm, rfl, _⟩ := hM.r
  have HL := Lib.hid hL
  have HF := Lib.hid hf
  have HM := Lib.hid hM
  have HFM := Lib.hid hf2
  have HLlt : Hid (∀ g, (Value.slice adl L.length cl).ownBlock = some g → 0 < L.length → g < w.heap.size) := fun g hg h0 => HL.out.r.lt h0 g hg
  have HMlt : Hid (∀ g, (Value.slice adm M.length cm).ownBlock = some g → 0 < M.length → g < w.heap.size) := fun g hg h0 => HM.out.r.lt h0 g hg
  clear hL hM hfl
  go_enter Try.func4, Try.ntmps4
  go_wp2_with fail
  refine (dawake_any w).mono ?_
  rintro _ w1 ⟨rfl, hb1⟩
  have HB1 := Lib.hid hb1
  clear hb1
  go_wp2_with fail
  have hc := few_any _ L w1 (HL.out.below HB1.out)
  rw [hf] at hc
  refine hc.mono ?_
  rintro _ w2 ⟨rfl, rfl⟩
  clear hc hf
  go_wp2_with fail
  have hc := few_any _ M w1 (HM.out.below HB1.out)
  rw [hf2] at hc
  refine hc.mono ?_
  rintro _ w2 ⟨rfl, rfl⟩
  clear hc hf2
  go_wp2_with fail
  refine (new_any w1 6 (by omega)).mono ?_
  rintro _ w2 ⟨⟨p, rfl, hA⟩, hb2⟩
  have HA2 : Hid (DAt w2 w1.heap.size p 6 (newD 6)) := hA
  have HB2 := Lib.hid (bt HB1.out hb2)
  clear hA hb2
  go_wp2_with fail
  refine (rdnew_any w2 p.has HA2.out.has_lt 6 (by omega)).mono ?_
  rintro _ w4 ⟨⟨v, rfl, a, b, c, rfl, hR⟩, hb4⟩
  obtain ⟨bl, ol, cl1, ad2, ad3, c2, c3, rfl, rfl, rfl⟩ := hR.open_
  have HA4 : Hid (DAt w4 w.heap.size p (6 : Int).toNat (newD 6)) := (HA2.out.below hb4).base HB1.out.size
  have HR4 := Lib.hid hR
  have HB4 := Lib.hid (bt HB2.out hb4)
  clear hR hb4 HA2 HB2 HB1
  unfold rV
  go_wp2_with fail
  have hl0 := LP.start HA4.out HR4.out HB4.out (by omega)
  have HLP0 : Hid (Loop2 w _ p.B w4.heap.size 6 0) := ⟨p, _, _, _, _, rfl, hl0⟩
  clear hl0 HA4 HR4 HB4
  generalize p.B = PB at *
  generalize w4.heap.size = bw at *
  have HN : Hid (6 ≤ 5000) := by (show _ ≤ _; omega)
  go_loopw [7] (fun i wr => ∃ j : Nat, j ≤ L.length ∧ i = .int .i64 j ∧ Loop2 w wr PB bw 6 (2 * j)) (fun i _ => L.length - (intOf i).toNat)
  case atStart => exact ⟨0, Nat.zero_le _, rfl, HLP0.out⟩
  case round =>
    obtain ⟨j, hj, rfl, p, D, a, b, c, rfl, hlp⟩ := hrel
    have HLP := Lib.hid hlp
    have hfew := Hfew.out
    clear hlp HLP0
    by_cases hlt : j < L.length
    · have htr := True.intro
      obtain ⟨z, hz⟩ : ∃ z, L[j]'hlt = z := ⟨_, rfl⟩
      have hLr := HL.out.below HLP.out.both.bel
      have Hzok : Hid (OpOk w z) := HL.out.o _ (hz ▸ List.getElem_mem hlt)
      have HzF : Hid (okO z.1 = true) := few_at HF.out (hz ▸ List.getElem_mem hlt)
      obtain ⟨bo, oo, co, ad2o, cap2o, hv, _, _, hr, _⟩ := hLr.cell j hlt
      simp only [Value.slice.injEq, true_and] at hv
      obtain ⟨rfl, rfl⟩ := hv
      rw [hz] at hr
      have HrO := Lib.hid hr
      have hk0 : (0 : Int) ≤ (j : Int) := by omega
      have hk1 : (j : Int) < (L.length : Int) := by omega
      obtain ⟨bl, ol, cl1, ad2, ad3, c2, c3, rfl, rfl, rfl⟩ := HLP.out.both.r.open_
      have HS : Hid (∀ u : World, (readAt u bw 0 5 = some #[.slice (some ⟨bl, ol, none⟩) 6 cl1, .slice ad2 D.op.length c2, .bool D.down, .int .i64 D.steps, .slice ad3 D.plan.length c3] ∧ readAt u bo (oo + j * 4) 4 = some (oc z)) → u.cell? ⟨bw, 0, none⟩ = some (.slice (some ⟨bl, ol, none⟩) 6 cl1) ∧ u.cell? ⟨bw, 1, none⟩ = some (.slice ad2 D.op.length c2) ∧ u.cell? ⟨bw, 2, none⟩ = some (.bool D.down) ∧ u.cell? ⟨bw, 3, none⟩ = some (.int .i64 D.steps) ∧ u.cell? ⟨bw, 4, none⟩ = some (.slice ad3 D.plan.length c3) ∧
          u.cell? ⟨bo, oo + j * 4, none⟩ = some (.int .i64 z.1.kind) ∧ u.cell? ⟨bo, oo + j * 4 + 1, none⟩ = some (.int .i64 z.1.at_) ∧ u.cell? ⟨bo, oo + j * 4 + 2, none⟩ = some (.int .u8 (z.1.byte.toNat : Int)) ∧ u.cell? ⟨bo, oo + j * 4 + 3, none⟩ = some z.2) := fun u hu => by
        have hc := fun i v hv => readAt_cell hu.1 i v hv
        have hd := fun i v hv => readAt_cell hu.2 i v hv
        simp only [Nat.zero_add] at hc
        exact ⟨hc 0 _ rfl, hc 1 _ rfl, hc 2 _ rfl, hc 3 _ rfl, hc 4 _ rfl, hd 0 _ rfl, hd 1 _ rfl, hd 2 _ rfl, hd 3 _ rfl⟩
      have hz0 := hz
      clear hr hLr hz
      try clear hz0
      go_upto_region 10 with fail
      refine wp_region_tr (.take 0 (.take 1 (.take 2 (.take 3 (.take 4 (.take 5 (.run 6 (.take 7 (.take 8 (.pure 9 (.brk 10 .done))))))))))) (fun u => readAt u bw 0 5 = some #[.slice (some ⟨bl, ol, none⟩) 6 cl1, .slice ad2 D.op.length c2, .bool D.down, .int .i64 D.steps, .slice ad3 D.plan.length c3] ∧ readAt u bo (oo + j * 4) 4 = some (oc z)) (by kernel_rfl) (by kernel_rfl) rfl (by kernel_rfl) ⟨HLP.out.box.r, HrO.out⟩ ?_
      have hb := (Below.refl wr.heap.size wr).drew
      have HLP1 := Lib.hid (HLP.out.below hb)
      have HrO1 := Lib.hid ((readAt_below hb (readAt_lt HrO.out) _ _).trans HrO.out)
      have Hbd := Lib.hid hb
      clear hb HLP HrO
      generalize wr.drew = wd at *
      repeat (first | (refine t_off rfl rfl ?_; simp only [List.getElem_toArray, List.getElem_cons_succ, List.getElem_cons_zero, Act.put, Act.eval, List.setIfInBounds_toArray, List.set_cons_zero, List.set_cons_succ, Array.getD_eq_getD_getElem?, List.getElem?_toArray, List.getElem?_cons_succ, List.getElem?_cons_zero, Option.getD_some]) | (refine t_move rfl _ rfl rfl ?_; simp only [List.getElem_toArray, List.getElem_cons_succ, List.getElem_cons_zero, Act.put, Act.eval, List.setIfInBounds_toArray, List.set_cons_zero, List.set_cons_succ, Array.getD_eq_getD_getElem?, List.getElem?_toArray, List.getElem?_cons_succ, List.getElem?_cons_zero, Option.getD_some]) | (refine t_assign rfl _ rfl rfl ?_; simp only [List.getElem_toArray, List.getElem_cons_succ, List.getElem_cons_zero, Act.put, Act.eval, List.setIfInBounds_toArray, List.set_cons_zero, List.set_cons_succ, Array.getD_eq_getD_getElem?, List.getElem?_toArray, List.getElem?_cons_succ, List.getElem?_cons_zero, Option.getD_some]) | (refine t_val rfl rfl ?_; apply Exists.intro; refine ⟨fun w' hC' => ?_, ?_⟩; (obtain ⟨b0, b1, b2, b3, b4, q0, q1, q2, q3⟩ := HS.out w' hC'; go_simp; (first | done | exact rfl)); simp only [List.getElem_toArray, List.getElem_cons_succ, List.getElem_cons_zero, Act.put, Act.eval, List.setIfInBounds_toArray, List.set_cons_zero, List.set_cons_succ, Array.getD_eq_getD_getElem?, List.getElem?_toArray, List.getElem?_cons_succ, List.getElem?_cons_zero, Option.getD_some]) | (refine p_off rfl rfl ?_; simp only [List.getElem_toArray, List.getElem_cons_succ, List.getElem_cons_zero, Act.put, Act.eval, List.setIfInBounds_toArray, List.set_cons_zero, List.set_cons_succ, Array.getD_eq_getD_getElem?, List.getElem?_toArray, List.getElem?_cons_succ, List.getElem?_cons_zero, Option.getD_some]) | (refine p_val rfl rfl ?_; apply Exists.intro; refine ⟨fun w' => ?_, ?_⟩; (go_simp; (first | done | exact rfl)); simp only [List.getElem_toArray, List.getElem_cons_succ, List.getElem_cons_zero, Act.put, Act.eval, List.setIfInBounds_toArray, List.set_cons_zero, List.set_cons_succ, Array.getD_eq_getD_getElem?, List.getElem?_toArray, List.getElem?_cons_succ, List.getElem?_cons_zero, Option.getD_some]))
      refine r_call rfl rfl ?_; apply Exists.intro; apply Exists.intro; refine ⟨?_, ?_⟩; (go_simp; exact ⟨rfl, rfl⟩)
      refine (play_any (fun x => x = bw) w wd p 6 (2 * j) D _ _ _ z HLP1.out.both HLP1.out.ok (by omega) HN.out (by have := HLP1.out.pl; omega) Hzok.out HzF.out).mono ?_
      rintro _ u1 hN
      obtain ⟨p2, bl2, ol2, cl2, ad22, c22, ad32, c32, rfl, hB2, hK2, hh2, hbox, hLP⟩ := HLP1.out.played hN
      have hrO : readAt u1 bo (oo + j * 4) 4 = some (oc z) := (rd_same (hK2.block _ (readAt_lt HrO1.out) (fun hx => by have h1 := HLP1.out.both.d.ok.lo _ hx; have h2 := HLlt.out; have h3 : bo < w.heap.size := h2 _ rfl (by omega); omega)) _ _).trans HrO1.out
      obtain ⟨D2, hD2⟩ : ∃ D2, playD D z.1 = D2 := ⟨_, rfl⟩
      rw [hD2] at hLP
      simp only [hD2]
      refine ⟨_, rfl, _, fun _ h => h, ⟨hbox.r, hrO⟩, ?_⟩; simp only [List.getElem_toArray, List.getElem_cons_succ, List.getElem_cons_zero, Act.put, Act.eval, List.setIfInBounds_toArray, List.set_cons_zero, List.set_cons_succ, Array.getD_eq_getD_getElem?, List.getElem?_toArray, List.getElem?_cons_succ, List.getElem?_cons_zero, Option.getD_some]
      clear hrO
      have HD2 := Lib.hid hD2
      have HB2p := Lib.hid hB2
      have HK2 := Lib.hid hK2
      have Hh2 := Lib.hid hh2
      have Hbox := Lib.hid hbox
      have HLP2 := Lib.hid hLP
      clear hN hD2 hB2 hK2 hh2 hbox hLP
      repeat (first | (refine t_off rfl rfl ?_; simp only [List.getElem_toArray, List.getElem_cons_succ, List.getElem_cons_zero, Act.put, Act.eval, List.setIfInBounds_toArray, List.set_cons_zero, List.set_cons_succ, Array.getD_eq_getD_getElem?, List.getElem?_toArray, List.getElem?_cons_succ, List.getElem?_cons_zero, Option.getD_some]) | (refine t_move rfl _ rfl rfl ?_; simp only [List.getElem_toArray, List.getElem_cons_succ, List.getElem_cons_zero, Act.put, Act.eval, List.setIfInBounds_toArray, List.set_cons_zero, List.set_cons_succ, Array.getD_eq_getD_getElem?, List.getElem?_toArray, List.getElem?_cons_succ, List.getElem?_cons_zero, Option.getD_some]) | (refine t_assign rfl _ rfl rfl ?_; simp only [List.getElem_toArray, List.getElem_cons_succ, List.getElem_cons_zero, Act.put, Act.eval, List.setIfInBounds_toArray, List.set_cons_zero, List.set_cons_succ, Array.getD_eq_getD_getElem?, List.getElem?_toArray, List.getElem?_cons_succ, List.getElem?_cons_zero, Option.getD_some]) | (refine t_val rfl rfl ?_; apply Exists.intro; refine ⟨fun w' hC' => ?_, ?_⟩; (obtain ⟨b0, b1, b2, b3, b4, q0, q1, q2, q3⟩ := HS.out w' hC'; go_simp; (first | done | exact rfl)); simp only [List.getElem_toArray, List.getElem_cons_succ, List.getElem_cons_zero, Act.put, Act.eval, List.setIfInBounds_toArray, List.set_cons_zero, List.set_cons_succ, Array.getD_eq_getD_getElem?, List.getElem?_toArray, List.getElem?_cons_succ, List.getElem?_cons_zero, Option.getD_some]) | (refine p_off rfl rfl ?_; simp only [List.getElem_toArray, List.getElem_cons_succ, List.getElem_cons_zero, Act.put, Act.eval, List.setIfInBounds_toArray, List.set_cons_zero, List.set_cons_succ, Array.getD_eq_getD_getElem?, List.getElem?_toArray, List.getElem?_cons_succ, List.getElem?_cons_zero, Option.getD_some]) | (refine p_val rfl rfl ?_; apply Exists.intro; refine ⟨fun w' => ?_, ?_⟩; (go_simp; (first | done | exact rfl)); simp only [List.getElem_toArray, List.getElem_cons_succ, List.getElem_cons_zero, Act.put, Act.eval, List.setIfInBounds_toArray, List.set_cons_zero, List.set_cons_succ, Array.getD_eq_getD_getElem?, List.getElem?_toArray, List.getElem?_cons_succ, List.getElem?_cons_zero, Option.getD_some]))
      obtain ⟨e0, e1, e2, e3, e4⟩ := Hbox.out.free
      obtain ⟨b0, b1, b2, b3, b4⟩ := Hbox.out.cells
      refine b_any rfl rfl (fun K hK => ?_)
      go_simp
      refine hK _ _ (fun _ => True) trivial ?_
      clear hK K e0 e1 e2 e3 e4 b0 b1 b2 b3 b4
      try simp only [List.getElem_toArray, List.getElem_cons_succ, List.getElem_cons_zero, Act.put, Act.eval, List.setIfInBounds_toArray, List.set_cons_zero, List.set_cons_succ, Array.getD_eq_getD_getElem?, List.getElem?_toArray, List.getElem?_cons_succ, List.getElem?_cons_zero, Option.getD_some]
      repeat (first | (refine t_off rfl rfl ?_; simp only [List.getElem_toArray, List.getElem_cons_succ, List.getElem_cons_zero, Act.put, Act.eval, List.setIfInBounds_toArray, List.set_cons_zero, List.set_cons_succ, Array.getD_eq_getD_getElem?, List.getElem?_toArray, List.getElem?_cons_succ, List.getElem?_cons_zero, Option.getD_some]) | (refine t_move rfl _ rfl rfl ?_; simp only [List.getElem_toArray, List.getElem_cons_succ, List.getElem_cons_zero, Act.put, Act.eval, List.setIfInBounds_toArray, List.set_cons_zero, List.set_cons_succ, Array.getD_eq_getD_getElem?, List.getElem?_toArray, List.getElem?_cons_succ, List.getElem?_cons_zero, Option.getD_some]) | (refine t_assign rfl _ rfl rfl ?_; simp only [List.getElem_toArray, List.getElem_cons_succ, List.getElem_cons_zero, Act.put, Act.eval, List.setIfInBounds_toArray, List.set_cons_zero, List.set_cons_succ, Array.getD_eq_getD_getElem?, List.getElem?_toArray, List.getElem?_cons_succ, List.getElem?_cons_zero, Option.getD_some]) | (refine t_val rfl rfl ?_; apply Exists.intro; refine ⟨fun w' hC' => ?_, ?_⟩; (skip; go_simp; (first | done | exact rfl)); simp only [List.getElem_toArray, List.getElem_cons_succ, List.getElem_cons_zero, Act.put, Act.eval, List.setIfInBounds_toArray, List.set_cons_zero, List.set_cons_succ, Array.getD_eq_getD_getElem?, List.getElem?_toArray, List.getElem?_cons_succ, List.getElem?_cons_zero, Option.getD_some]) | (refine p_off rfl rfl ?_; simp only [List.getElem_toArray, List.getElem_cons_succ, List.getElem_cons_zero, Act.put, Act.eval, List.setIfInBounds_toArray, List.set_cons_zero, List.set_cons_succ, Array.getD_eq_getD_getElem?, List.getElem?_toArray, List.getElem?_cons_succ, List.getElem?_cons_zero, Option.getD_some]) | (refine p_val rfl rfl ?_; apply Exists.intro; refine ⟨fun w' => ?_, ?_⟩; (go_simp; (first | done | exact rfl)); simp only [List.getElem_toArray, List.getElem_cons_succ, List.getElem_cons_zero, Act.put, Act.eval, List.setIfInBounds_toArray, List.set_cons_zero, List.set_cons_succ, Array.getD_eq_getD_getElem?, List.getElem?_toArray, List.getElem?_cons_succ, List.getElem?_cons_zero, Option.getD_some]))
      refine t_done ?_
      have hkP := put5_kb (Z := fun x => x = bw) u1 bw (.slice (some ⟨bl2, ol2, none⟩) 6 cl2) (.slice ad22 D2.op.length c22) (.bool D2.down) (.int .i64 D2.steps) (.slice ad32 D2.plan.length c32) rfl
      have hLP := HLP2.out
      clear HLP2
      unfold put5 at hkP hLP
      have HkP := Lib.hid hkP
      have HLP := Lib.hid hLP
      clear hkP hLP HLP1 Hbox
      generalize ((((u1.setCell ⟨bw, 0, none⟩ (.slice (some ⟨bl2, ol2, none⟩) 6 cl2)).setCell ⟨bw, 1, none⟩ (.slice ad22 D2.op.length c22)).setCell ⟨bw, 2, none⟩ (.bool D2.down)).setCell ⟨bw, 3, none⟩ (.int .i64 D2.steps)).setCell ⟨bw, 4, none⟩ (.slice ad32 D2.plan.length c32) = wp at *
      clear HS HzF Hzok HrO1
      go_wp2
      go_round
      case rel => exact ⟨j + 1, by omega, by go_num, p2, D2, _, _, _, HB2p.out, HLP.out⟩
      case measure => simp [intOf]; omega
    · obtain rfl : j = L.length := by omega
      obtain ⟨bl, ol, cl1, ad2, ad3, c2, c3, rfl, rfl, rfl⟩ := HLP.out.both.r.open_
      have HS0 : Hid ((syncD D).2 = 0 ∨ (syncD D).2 = 11 ∨ (syncD D).2 = 12) := by
        unfold Hid syncD
        split
        · exact .inr (.inr rfl)
        · split
          · exact .inr (.inr rfl)
          · split
            · exact .inr (.inl rfl)
            · exact .inl rfl
      go_wp2_with fail
      have hcall := dsync_any wr (2 * L.length) HLP.out.both.d HLP.out.ok (by omega) (by omega) HLP.out.both.bel.size
      have HOkE : Hid (OkD (syncD D).1 6 (2 * L.length + 2)) := by
        have h1 := HLP.out.ok.play ⟨2, 0, 0, []⟩
        exact h1
      have HOp : Hid ((syncD D).2 = 0 → (syncD D).1.op = []) := sync_ok D
      generalize (syncD D).2 = cd at *
      generalize (syncD D).1 = E at *
      refine hcall.mono ?_
      rintro _ u1 ⟨rfl, p3, hB3, hA3, hK3, hh3⟩
      have HBel : Hid (Below w.heap.size w u1) := HLP.out.both.bel.trans (hK3.below HLP.out.both.d.ok.lo HLP.out.both.bel.size)
      rcases HS0.out with rfl | rfl | rfl
      rotate_left
      · rw [show errV 11 0 = codeV 11 from rfl]
        unfold codeV
        clear hcall
        go_wp2
        go_ret
        exact ⟨rfl, HBel.out⟩
      · rw [show errV 12 0 = codeV 12 from rfl]
        unfold codeV
        clear hcall
        go_wp2
        go_ret
        exact ⟨rfl, HBel.out⟩
      · rw [show errV 0 0 = Value.nilIface from rfl]
        have HA3 := Lib.hid hA3
        have HB3 := Lib.hid hB3
        have HK3 := Lib.hid hK3
        have Hh3 := Lib.hid hh3
        have HOpE : Hid (E.op = []) := HOp.out rfl
        clear hcall hA3 hB3 hK3 hh3 HS0 HOp
        go_wp2_with fail
        have hcall := stable_any u1 HA3.out HOkE.out.len (by omega)
        rw [HB3.out] at hcall
        refine hcall.mono ?_
        rintro _ u2 ⟨⟨vs, rfl, ho⟩, hb2⟩
        obtain ⟨g1, cap1, rfl, hg1, hg2, hg3, _, hrd, _⟩ := ho
        have Hg1 := Lib.hid hg1
        have Hrd := Lib.hid hrd
        have Hb2 := Lib.hid hb2
        have HgL : Hid (g1 < u2.heap.size) := readAt_lt hrd
        clear hcall hg1 hrd hb2 hg2 hg3
        go_wp2_with fail
        have HL6 : Hid (Loop6 w (u2.alloc (.cells #[.bool false, .bool false, .bool false, .bool false, .bool false, .bool false] 50)) p.B bw u2.heap.size g1 (2 * L.length + 2 + 2 * 0) E.st) := by
          have hb3 := ba (.cells #[.bool false, .bool false, .bool false, .bool false, .bool false, .bool false] 50) (Below.refl u2.heap.size u2)
          have hb13 := bt Hb2.out hb3
          have hs1 := HK3.out.size
          have hs2 := Hb2.out.size
          have hlw := HLP.out.box.lt
          have hg := Hg1.out
          have hgl := HgL.out
          have hbp : ¬ p3.has bw := fun hx => by
            rcases Hh3.out _ hx with h1 | h1
            · exact HLP.out.bp h1
            · omega
          refine ⟨p3, E, D, _, _, _, List.replicate 6 false, HB3.out, ⟨⟨HBel.out.trans (hb13.mono HBel.out.size), HA3.out.below hb13, HLP.out.both.r.kb (X' := PZ p3 (fun x => x = bw ∨ x = u2.heap.size)) (Kb.trans (X := PZ p (fun x => x = bw)) (Y := PZ p (fun x => x = bw)) ⟨HK3.out.os, HK3.out.tape, HK3.out.output, HK3.out.size, fun x h1 h2 => HK3.out.block x h1 (fun e => h2 (.inl e))⟩ (Kb.of_below hb13) (fun i hi => .inl hi)) (fun x hx => ?_), fun x hx => ?_⟩, (HLP.out.box.kb HK3.out HLP.out.bp).below hb13, hbp, HOkE.out, HLP.out.ok.more (by omega), Nat.le_trans HLP.out.pl (by omega), HLP.out.bb, .inl rfl⟩, KeepI.start E HOpE.out, ⟨(readAt_below hb3 HgL.out _ _).trans Hrd.out, fun i hi => ?_, by simp, fun hx => ?_, fun hx => ?_, by omega, by omega, by omega⟩, Nat.le_trans HBel.out.size hs2⟩
          · rcases hx with hx | hx | hx
            · rcases Hh3.out x hx with h1 | h1
              · exact .inl (.inl h1)
              · exact .inr h1
            · exact .inl (.inr hx)
            · exact .inr (by omega)
          · have h9 : x < u2.heap.size + 1 := by rcases hx with rfl | rfl <;> omega
            simpa using h9
          · refine ⟨?_, by simp [go_sem]⟩
            match i, hi with
            | 0, _ => simp [go_sem]
            | 1, _ => simp [go_sem]
            | 2, _ => simp [go_sem]
            | 3, _ => simp [go_sem]
            | 4, _ => simp [go_sem]
            | 5, _ => simp [go_sem]
          · have := HA3.out.has_lt _ hx; omega
          · have := HA3.out.has_lt _ hx; omega
        have HEst : Hid (E.st.length = 6) := HOkE.out.len
        clear HLP HA3 HB3 HK3 Hh3 HOpE HOkE Hrd Hb2 HgL Hg1 HBel
        generalize u2.heap.size = br at *
        generalize p.B = PB at *
        go_loopw [10] (fun i wr => ∃ j : Nat, j ≤ M.length ∧ i = .int .i64 j ∧ Loop6 w wr PB bw br g1 (2 * L.length + 2 + 2 * j) E.st) (fun i _ => M.length - (intOf i).toNat)
        case atStart => exact ⟨0, Nat.zero_le _, rfl, HL6.out⟩
        case round =>
          obtain ⟨j, hj, rfl, p, D, R, a, b, c, V, rfl, hlq, hki, hk6, hlo⟩ := hrel
          have HLP := Lib.hid hlq
          have HKI := Lib.hid hki
          have HK6 := Lib.hid hk6
          have Hlo := Lib.hid hlo
          have HLP0 : Hid (D.st.length = 6) := hlq.ok.len
          have hfewM := HfewM.out
          clear hlq hki hk6 hlo HL6
          by_cases hlt : j < M.length
          · have hj0 : (0 : Int) ≤ (j : Int) := by omega
            by_cases k1 : (M[j]'hlt).1.kind = 1
            · have K1 := Lib.hid k1
              clear k1
              by_cases k2 : (M[j]'hlt).1.at_ < 0
              · have K2 := Lib.hid k2
                clear k2
                have htr := True.intro
                obtain ⟨z, hz⟩ : ∃ z, M[j]'hlt = z := ⟨_, rfl⟩
                have hLr := HM.out.below HLP.out.both.bel
                have Hzok : Hid (OpOk w z) := HM.out.o _ (hz ▸ List.getElem_mem hlt)
                have HzF : Hid (okO z.1 = true) := few_at HFM.out (hz ▸ List.getElem_mem hlt)
                obtain ⟨bo, oo, co, ad2o, cap2o, hv, _, _, hr, _⟩ := hLr.cell j hlt
                simp only [Value.slice.injEq, true_and] at hv
                obtain ⟨rfl, rfl⟩ := hv
                rw [hz] at hr
                have HrO := Lib.hid hr
                have hk0 : (0 : Int) ≤ (j : Int) := by omega
                have hk1 : (j : Int) < (M.length : Int) := by omega
                obtain ⟨bl, ol, cl1, ad2, ad3, c2, c3, rfl, rfl, rfl⟩ := HLP.out.both.r.open_
                have HS : Hid (∀ u : World, (readAt u bw 0 5 = some #[.slice (some ⟨bl, ol, none⟩) 6 cl1, .slice ad2 R.op.length c2, .bool R.down, .int .i64 R.steps, .slice ad3 R.plan.length c3] ∧ readAt u bo (oo + j * 4) 4 = some (oc z)) → u.cell? ⟨bw, 0, none⟩ = some (.slice (some ⟨bl, ol, none⟩) 6 cl1) ∧ u.cell? ⟨bw, 1, none⟩ = some (.slice ad2 R.op.length c2) ∧ u.cell? ⟨bw, 2, none⟩ = some (.bool R.down) ∧ u.cell? ⟨bw, 3, none⟩ = some (.int .i64 R.steps) ∧ u.cell? ⟨bw, 4, none⟩ = some (.slice ad3 R.plan.length c3) ∧
                    u.cell? ⟨bo, oo + j * 4, none⟩ = some (.int .i64 z.1.kind) ∧ u.cell? ⟨bo, oo + j * 4 + 1, none⟩ = some (.int .i64 z.1.at_) ∧ u.cell? ⟨bo, oo + j * 4 + 2, none⟩ = some (.int .u8 (z.1.byte.toNat : Int)) ∧ u.cell? ⟨bo, oo + j * 4 + 3, none⟩ = some z.2) := fun u hu => by
                  have hc := fun i v hv => readAt_cell hu.1 i v hv
                  have hd := fun i v hv => readAt_cell hu.2 i v hv
                  simp only [Nat.zero_add] at hc
                  exact ⟨hc 0 _ rfl, hc 1 _ rfl, hc 2 _ rfl, hc 3 _ rfl, hc 4 _ rfl, hd 0 _ rfl, hd 1 _ rfl, hd 2 _ rfl, hd 3 _ rfl⟩
                have hz0 := hz
                clear hr hLr hz
                have d1 : (z.1.kind == 1) = true := by (have := K1.out; rw [hz0] at this; simpa using this)
                have d2 : decide ((0 : Int) ≤ z.1.at_) = false := by (have := K2.out; rw [hz0] at this; simpa using this)
                have HVz : Hid (wroteV V z.1 = V) := by (have := K2.out; rw [hz0] at this; unfold Hid wroteV; rw [if_neg (by omega)])
                clear hz0
                have q0 : wr.cell? ⟨bo, oo + j * 4, none⟩ = some (.int .i64 z.1.kind) := by (have h1 := readAt_cell HrO.out 0 _ rfl; rwa [Nat.add_zero] at h1)
                have q1 : wr.cell? ⟨bo, oo + j * 4 + 1, none⟩ = some (.int .i64 z.1.at_) := readAt_cell HrO.out 1 _ rfl
                try clear hz0
                go_upto_region 22 with fail
                clear q0 q1
                refine wp_region_tr (.take 0 (.take 1 (.take 2 (.take 3 (.take 4 (.take 5 (.run 6 (.take 7 (.take 8 (.pure 9 (.brk 10 .done))))))))))) (fun u => readAt u bw 0 5 = some #[.slice (some ⟨bl, ol, none⟩) 6 cl1, .slice ad2 R.op.length c2, .bool R.down, .int .i64 R.steps, .slice ad3 R.plan.length c3] ∧ readAt u bo (oo + j * 4) 4 = some (oc z)) (by kernel_rfl) (by kernel_rfl) rfl (by kernel_rfl) ⟨HLP.out.box.r, HrO.out⟩ ?_
                have hb := (Below.refl wr.heap.size wr).drew
                have HLP1 := Lib.hid (HLP.out.below hb)
                have HrO1 := Lib.hid ((readAt_below hb (readAt_lt HrO.out) _ _).trans HrO.out)
                have Hbd := Lib.hid hb
                clear hb HLP HrO
                generalize wr.drew = wd at *
                repeat (first | (refine t_off rfl rfl ?_; simp only [List.getElem_toArray, List.getElem_cons_succ, List.getElem_cons_zero, Act.put, Act.eval, List.setIfInBounds_toArray, List.set_cons_zero, List.set_cons_succ, Array.getD_eq_getD_getElem?, List.getElem?_toArray, List.getElem?_cons_succ, List.getElem?_cons_zero, Option.getD_some]) | (refine t_move rfl _ rfl rfl ?_; simp only [List.getElem_toArray, List.getElem_cons_succ, List.getElem_cons_zero, Act.put, Act.eval, List.setIfInBounds_toArray, List.set_cons_zero, List.set_cons_succ, Array.getD_eq_getD_getElem?, List.getElem?_toArray, List.getElem?_cons_succ, List.getElem?_cons_zero, Option.getD_some]) | (refine t_assign rfl _ rfl rfl ?_; simp only [List.getElem_toArray, List.getElem_cons_succ, List.getElem_cons_zero, Act.put, Act.eval, List.setIfInBounds_toArray, List.set_cons_zero, List.set_cons_succ, Array.getD_eq_getD_getElem?, List.getElem?_toArray, List.getElem?_cons_succ, List.getElem?_cons_zero, Option.getD_some]) | (refine t_val rfl rfl ?_; apply Exists.intro; refine ⟨fun w' hC' => ?_, ?_⟩; (obtain ⟨b0, b1, b2, b3, b4, q0, q1, q2, q3⟩ := HS.out w' hC'; go_simp; (first | done | exact rfl)); simp only [List.getElem_toArray, List.getElem_cons_succ, List.getElem_cons_zero, Act.put, Act.eval, List.setIfInBounds_toArray, List.set_cons_zero, List.set_cons_succ, Array.getD_eq_getD_getElem?, List.getElem?_toArray, List.getElem?_cons_succ, List.getElem?_cons_zero, Option.getD_some]) | (refine p_off rfl rfl ?_; simp only [List.getElem_toArray, List.getElem_cons_succ, List.getElem_cons_zero, Act.put, Act.eval, List.setIfInBounds_toArray, List.set_cons_zero, List.set_cons_succ, Array.getD_eq_getD_getElem?, List.getElem?_toArray, List.getElem?_cons_succ, List.getElem?_cons_zero, Option.getD_some]) | (refine p_val rfl rfl ?_; apply Exists.intro; refine ⟨fun w' => ?_, ?_⟩; (go_simp; (first | done | exact rfl)); simp only [List.getElem_toArray, List.getElem_cons_succ, List.getElem_cons_zero, Act.put, Act.eval, List.setIfInBounds_toArray, List.set_cons_zero, List.set_cons_succ, Array.getD_eq_getD_getElem?, List.getElem?_toArray, List.getElem?_cons_succ, List.getElem?_cons_zero, Option.getD_some]))
                refine r_call rfl rfl ?_; apply Exists.intro; apply Exists.intro; refine ⟨?_, ?_⟩; (go_simp; exact ⟨rfl, rfl⟩)
                refine (play_any2 (fun x => x = bw ∨ x = br) w wd p 6 (2 * L.length + 2 + 2 * j) D R _ _ _ z HLP1.out.both HLP1.out.ok HLP1.out.okR (by omega) HN.out (by have := HLP1.out.pl; omega) Hzok.out HzF.out).mono ?_
                rintro _ u1 hN
                obtain ⟨tb, p2, bl2, ol2, cl2, ad22, c22, ad32, c32, rfl, hB2, hK2, hh2, hbox, hLP⟩ := HLP1.out.played hN
                have hrO : readAt u1 bo (oo + j * 4) 4 = some (oc z) := (rd_same (hK2.block _ (readAt_lt HrO1.out) (fun hx => by have h1 := HLP1.out.both.d.ok.lo _ hx; have h2 := HMlt.out; have h3 : bo < w.heap.size := h2 _ rfl (by omega); omega)) _ _).trans HrO1.out
                obtain ⟨D2, hD2⟩ : ∃ D2, playD D z.1 = D2 := ⟨_, rfl⟩
                obtain ⟨R2, hR2⟩ : ∃ R2, playD R z.1 = R2 := ⟨_, rfl⟩
                rw [hD2, hR2] at hLP
                simp only [hR2]
                refine ⟨_, rfl, _, fun _ h => h, ⟨hbox.r, hrO⟩, ?_⟩; simp only [List.getElem_toArray, List.getElem_cons_succ, List.getElem_cons_zero, Act.put, Act.eval, List.setIfInBounds_toArray, List.set_cons_zero, List.set_cons_succ, Array.getD_eq_getD_getElem?, List.getElem?_toArray, List.getElem?_cons_succ, List.getElem?_cons_zero, Option.getD_some]
                clear hrO
                have HD2 := Lib.hid hD2
                have HB2p := Lib.hid hB2
                have HK2 := Lib.hid hK2
                have Hh2 := Lib.hid hh2
                have Hbox := Lib.hid hbox
                have HLP2 := Lib.hid hLP
                clear hN hD2 hR2 hB2 hK2 hh2 hbox hLP
                repeat (first | (refine t_off rfl rfl ?_; simp only [List.getElem_toArray, List.getElem_cons_succ, List.getElem_cons_zero, Act.put, Act.eval, List.setIfInBounds_toArray, List.set_cons_zero, List.set_cons_succ, Array.getD_eq_getD_getElem?, List.getElem?_toArray, List.getElem?_cons_succ, List.getElem?_cons_zero, Option.getD_some]) | (refine t_move rfl _ rfl rfl ?_; simp only [List.getElem_toArray, List.getElem_cons_succ, List.getElem_cons_zero, Act.put, Act.eval, List.setIfInBounds_toArray, List.set_cons_zero, List.set_cons_succ, Array.getD_eq_getD_getElem?, List.getElem?_toArray, List.getElem?_cons_succ, List.getElem?_cons_zero, Option.getD_some]) | (refine t_assign rfl _ rfl rfl ?_; simp only [List.getElem_toArray, List.getElem_cons_succ, List.getElem_cons_zero, Act.put, Act.eval, List.setIfInBounds_toArray, List.set_cons_zero, List.set_cons_succ, Array.getD_eq_getD_getElem?, List.getElem?_toArray, List.getElem?_cons_succ, List.getElem?_cons_zero, Option.getD_some]) | (refine t_val rfl rfl ?_; apply Exists.intro; refine ⟨fun w' hC' => ?_, ?_⟩; (obtain ⟨b0, b1, b2, b3, b4, q0, q1, q2, q3⟩ := HS.out w' hC'; go_simp; (first | done | exact rfl)); simp only [List.getElem_toArray, List.getElem_cons_succ, List.getElem_cons_zero, Act.put, Act.eval, List.setIfInBounds_toArray, List.set_cons_zero, List.set_cons_succ, Array.getD_eq_getD_getElem?, List.getElem?_toArray, List.getElem?_cons_succ, List.getElem?_cons_zero, Option.getD_some]) | (refine p_off rfl rfl ?_; simp only [List.getElem_toArray, List.getElem_cons_succ, List.getElem_cons_zero, Act.put, Act.eval, List.setIfInBounds_toArray, List.set_cons_zero, List.set_cons_succ, Array.getD_eq_getD_getElem?, List.getElem?_toArray, List.getElem?_cons_succ, List.getElem?_cons_zero, Option.getD_some]) | (refine p_val rfl rfl ?_; apply Exists.intro; refine ⟨fun w' => ?_, ?_⟩; (go_simp; (first | done | exact rfl)); simp only [List.getElem_toArray, List.getElem_cons_succ, List.getElem_cons_zero, Act.put, Act.eval, List.setIfInBounds_toArray, List.set_cons_zero, List.set_cons_succ, Array.getD_eq_getD_getElem?, List.getElem?_toArray, List.getElem?_cons_succ, List.getElem?_cons_zero, Option.getD_some]))
                obtain ⟨e0, e1, e2, e3, e4⟩ := Hbox.out.free
                obtain ⟨b0, b1, b2, b3, b4⟩ := Hbox.out.cells
                refine b_any rfl rfl (fun K hK => ?_)
                go_simp
                refine hK _ _ (fun _ => True) trivial ?_
                clear hK K e0 e1 e2 e3 e4 b0 b1 b2 b3 b4
                try simp only [List.getElem_toArray, List.getElem_cons_succ, List.getElem_cons_zero, Act.put, Act.eval, List.setIfInBounds_toArray, List.set_cons_zero, List.set_cons_succ, Array.getD_eq_getD_getElem?, List.getElem?_toArray, List.getElem?_cons_succ, List.getElem?_cons_zero, Option.getD_some]
                repeat (first | (refine t_off rfl rfl ?_; simp only [List.getElem_toArray, List.getElem_cons_succ, List.getElem_cons_zero, Act.put, Act.eval, List.setIfInBounds_toArray, List.set_cons_zero, List.set_cons_succ, Array.getD_eq_getD_getElem?, List.getElem?_toArray, List.getElem?_cons_succ, List.getElem?_cons_zero, Option.getD_some]) | (refine t_move rfl _ rfl rfl ?_; simp only [List.getElem_toArray, List.getElem_cons_succ, List.getElem_cons_zero, Act.put, Act.eval, List.setIfInBounds_toArray, List.set_cons_zero, List.set_cons_succ, Array.getD_eq_getD_getElem?, List.getElem?_toArray, List.getElem?_cons_succ, List.getElem?_cons_zero, Option.getD_some]) | (refine t_assign rfl _ rfl rfl ?_; simp only [List.getElem_toArray, List.getElem_cons_succ, List.getElem_cons_zero, Act.put, Act.eval, List.setIfInBounds_toArray, List.set_cons_zero, List.set_cons_succ, Array.getD_eq_getD_getElem?, List.getElem?_toArray, List.getElem?_cons_succ, List.getElem?_cons_zero, Option.getD_some]) | (refine t_val rfl rfl ?_; apply Exists.intro; refine ⟨fun w' hC' => ?_, ?_⟩; (skip; go_simp; (first | done | exact rfl)); simp only [List.getElem_toArray, List.getElem_cons_succ, List.getElem_cons_zero, Act.put, Act.eval, List.setIfInBounds_toArray, List.set_cons_zero, List.set_cons_succ, Array.getD_eq_getD_getElem?, List.getElem?_toArray, List.getElem?_cons_succ, List.getElem?_cons_zero, Option.getD_some]) | (refine p_off rfl rfl ?_; simp only [List.getElem_toArray, List.getElem_cons_succ, List.getElem_cons_zero, Act.put, Act.eval, List.setIfInBounds_toArray, List.set_cons_zero, List.set_cons_succ, Array.getD_eq_getD_getElem?, List.getElem?_toArray, List.getElem?_cons_succ, List.getElem?_cons_zero, Option.getD_some]) | (refine p_val rfl rfl ?_; apply Exists.intro; refine ⟨fun w' => ?_, ?_⟩; (go_simp; (first | done | exact rfl)); simp only [List.getElem_toArray, List.getElem_cons_succ, List.getElem_cons_zero, Act.put, Act.eval, List.setIfInBounds_toArray, List.set_cons_zero, List.set_cons_succ, Array.getD_eq_getD_getElem?, List.getElem?_toArray, List.getElem?_cons_succ, List.getElem?_cons_zero, Option.getD_some]))
                refine t_done ?_
                have hkP := put5_kb (Z := fun x => x = bw) u1 bw (.slice (some ⟨bl2, ol2, none⟩) 6 cl2) (.slice ad22 R2.op.length c22) (.bool R2.down) (.int .i64 R2.steps) (.slice ad32 R2.plan.length c32) rfl
                have hLP := HLP2.out
                clear HLP2
                unfold put5 at hkP hLP
                have HkP := Lib.hid hkP
                have HLP := Lib.hid hLP
                clear hkP hLP HLP1 Hbox
                generalize ((((u1.setCell ⟨bw, 0, none⟩ (.slice (some ⟨bl2, ol2, none⟩) 6 cl2)).setCell ⟨bw, 1, none⟩ (.slice ad22 R2.op.length c22)).setCell ⟨bw, 2, none⟩ (.bool R2.down)).setCell ⟨bw, 3, none⟩ (.int .i64 R2.steps)).setCell ⟨bw, 4, none⟩ (.slice ad32 R2.plan.length c32) = wp at *
                clear HS HzF Hzok HrO1
                have hK1 := HK6.out.kept (p' := p) (X := fun _ => False) (Kb.of_below Hbd.out) (fun h => h) (fun h => h) (fun b hb => .inl hb)
                have hK2 := hK1.kept (p' := p2) HK2.out HK6.out.pg HK6.out.pr Hh2.out
                have hK3 := hK2.kept (p' := p2) HkP.out HK6.out.gb HK6.out.rb (fun b hb => .inl hb)
                have HKI2 : Hid (KeepI D2 E.st (wroteV V z.1)) := by (show KeepI _ _ _; rw [← HD2.out]; exact HKI.out.play z.1 HLP0.out)
                rw [HVz.out] at HKI2
                have HK63 := Lib.hid hK3
                clear hK1 hK2 hK3 HK6 HKI
                go_wp2
                go_round
                case rel => exact ⟨j + 1, by omega, by go_num, p2, D2, R2, _, _, _, _, HB2p.out, HLP.out, HKI2.out, HK63.out, Hlo.out⟩
                case measure => simp [intOf]; omega
              · have K2 := Lib.hid k2
                clear k2
                by_cases k3 : 6 ≤ (M[j]'hlt).1.at_
                · have K3 := Lib.hid k3
                  clear k3
                  have htr := True.intro
                  obtain ⟨z, hz⟩ : ∃ z, M[j]'hlt = z := ⟨_, rfl⟩
                  have hLr := HM.out.below HLP.out.both.bel
                  have Hzok : Hid (OpOk w z) := HM.out.o _ (hz ▸ List.getElem_mem hlt)
                  have HzF : Hid (okO z.1 = true) := few_at HFM.out (hz ▸ List.getElem_mem hlt)
                  obtain ⟨bo, oo, co, ad2o, cap2o, hv, _, _, hr, _⟩ := hLr.cell j hlt
                  simp only [Value.slice.injEq, true_and] at hv
                  obtain ⟨rfl, rfl⟩ := hv
                  rw [hz] at hr
                  have HrO := Lib.hid hr
                  have hk0 : (0 : Int) ≤ (j : Int) := by omega
                  have hk1 : (j : Int) < (M.length : Int) := by omega
                  obtain ⟨bl, ol, cl1, ad2, ad3, c2, c3, rfl, rfl, rfl⟩ := HLP.out.both.r.open_
                  have HS : Hid (∀ u : World, (readAt u bw 0 5 = some #[.slice (some ⟨bl, ol, none⟩) 6 cl1, .slice ad2 R.op.length c2, .bool R.down, .int .i64 R.steps, .slice ad3 R.plan.length c3] ∧ readAt u bo (oo + j * 4) 4 = some (oc z)) → u.cell? ⟨bw, 0, none⟩ = some (.slice (some ⟨bl, ol, none⟩) 6 cl1) ∧ u.cell? ⟨bw, 1, none⟩ = some (.slice ad2 R.op.length c2) ∧ u.cell? ⟨bw, 2, none⟩ = some (.bool R.down) ∧ u.cell? ⟨bw, 3, none⟩ = some (.int .i64 R.steps) ∧ u.cell? ⟨bw, 4, none⟩ = some (.slice ad3 R.plan.length c3) ∧
                      u.cell? ⟨bo, oo + j * 4, none⟩ = some (.int .i64 z.1.kind) ∧ u.cell? ⟨bo, oo + j * 4 + 1, none⟩ = some (.int .i64 z.1.at_) ∧ u.cell? ⟨bo, oo + j * 4 + 2, none⟩ = some (.int .u8 (z.1.byte.toNat : Int)) ∧ u.cell? ⟨bo, oo + j * 4 + 3, none⟩ = some z.2) := fun u hu => by
                    have hc := fun i v hv => readAt_cell hu.1 i v hv
                    have hd := fun i v hv => readAt_cell hu.2 i v hv
                    simp only [Nat.zero_add] at hc
                    exact ⟨hc 0 _ rfl, hc 1 _ rfl, hc 2 _ rfl, hc 3 _ rfl, hc 4 _ rfl, hd 0 _ rfl, hd 1 _ rfl, hd 2 _ rfl, hd 3 _ rfl⟩
                  have hz0 := hz
                  clear hr hLr hz
                  have d1 : (z.1.kind == 1) = true := by (have := K1.out; rw [hz0] at this; simpa using this)
                  have d2 : decide ((0 : Int) ≤ z.1.at_) = true := by (have := K2.out; rw [hz0] at this; simpa using this)
                  have d3 : decide (z.1.at_ < (6 : Int)) = false := by (have := K3.out; rw [hz0] at this; simpa using this)
                  have HVz : Hid (wroteV V z.1 = V) := by (have := K3.out; rw [hz0] at this; unfold Hid wroteV; rw [if_neg (by omega)])
                  clear hz0
                  have q0 : wr.cell? ⟨bo, oo + j * 4, none⟩ = some (.int .i64 z.1.kind) := by (have h1 := readAt_cell HrO.out 0 _ rfl; rwa [Nat.add_zero] at h1)
                  have q1 : wr.cell? ⟨bo, oo + j * 4 + 1, none⟩ = some (.int .i64 z.1.at_) := readAt_cell HrO.out 1 _ rfl
                  try clear hz0
                  go_upto_region 22 with fail
                  clear q0 q1
                  refine wp_region_tr (.take 0 (.take 1 (.take 2 (.take 3 (.take 4 (.take 5 (.run 6 (.take 7 (.take 8 (.pure 9 (.brk 10 .done))))))))))) (fun u => readAt u bw 0 5 = some #[.slice (some ⟨bl, ol, none⟩) 6 cl1, .slice ad2 R.op.length c2, .bool R.down, .int .i64 R.steps, .slice ad3 R.plan.length c3] ∧ readAt u bo (oo + j * 4) 4 = some (oc z)) (by kernel_rfl) (by kernel_rfl) rfl (by kernel_rfl) ⟨HLP.out.box.r, HrO.out⟩ ?_
                  have hb := (Below.refl wr.heap.size wr).drew
                  have HLP1 := Lib.hid (HLP.out.below hb)
                  have HrO1 := Lib.hid ((readAt_below hb (readAt_lt HrO.out) _ _).trans HrO.out)
                  have Hbd := Lib.hid hb
                  clear hb HLP HrO
                  generalize wr.drew = wd at *
                  repeat (first | (refine t_off rfl rfl ?_; simp only [List.getElem_toArray, List.getElem_cons_succ, List.getElem_cons_zero, Act.put, Act.eval, List.setIfInBounds_toArray, List.set_cons_zero, List.set_cons_succ, Array.getD_eq_getD_getElem?, List.getElem?_toArray, List.getElem?_cons_succ, List.getElem?_cons_zero, Option.getD_some]) | (refine t_move rfl _ rfl rfl ?_; simp only [List.getElem_toArray, List.getElem_cons_succ, List.getElem_cons_zero, Act.put, Act.eval, List.setIfInBounds_toArray, List.set_cons_zero, List.set_cons_succ, Array.getD_eq_getD_getElem?, List.getElem?_toArray, List.getElem?_cons_succ, List.getElem?_cons_zero, Option.getD_some]) | (refine t_assign rfl _ rfl rfl ?_; simp only [List.getElem_toArray, List.getElem_cons_succ, List.getElem_cons_zero, Act.put, Act.eval, List.setIfInBounds_toArray, List.set_cons_zero, List.set_cons_succ, Array.getD_eq_getD_getElem?, List.getElem?_toArray, List.getElem?_cons_succ, List.getElem?_cons_zero, Option.getD_some]) | (refine t_val rfl rfl ?_; apply Exists.intro; refine ⟨fun w' hC' => ?_, ?_⟩; (obtain ⟨b0, b1, b2, b3, b4, q0, q1, q2, q3⟩ := HS.out w' hC'; go_simp; (first | done | exact rfl)); simp only [List.getElem_toArray, List.getElem_cons_succ, List.getElem_cons_zero, Act.put, Act.eval, List.setIfInBounds_toArray, List.set_cons_zero, List.set_cons_succ, Array.getD_eq_getD_getElem?, List.getElem?_toArray, List.getElem?_cons_succ, List.getElem?_cons_zero, Option.getD_some]) | (refine p_off rfl rfl ?_; simp only [List.getElem_toArray, List.getElem_cons_succ, List.getElem_cons_zero, Act.put, Act.eval, List.setIfInBounds_toArray, List.set_cons_zero, List.set_cons_succ, Array.getD_eq_getD_getElem?, List.getElem?_toArray, List.getElem?_cons_succ, List.getElem?_cons_zero, Option.getD_some]) | (refine p_val rfl rfl ?_; apply Exists.intro; refine ⟨fun w' => ?_, ?_⟩; (go_simp; (first | done | exact rfl)); simp only [List.getElem_toArray, List.getElem_cons_succ, List.getElem_cons_zero, Act.put, Act.eval, List.setIfInBounds_toArray, List.set_cons_zero, List.set_cons_succ, Array.getD_eq_getD_getElem?, List.getElem?_toArray, List.getElem?_cons_succ, List.getElem?_cons_zero, Option.getD_some]))
                  refine r_call rfl rfl ?_; apply Exists.intro; apply Exists.intro; refine ⟨?_, ?_⟩; (go_simp; exact ⟨rfl, rfl⟩)
                  refine (play_any2 (fun x => x = bw ∨ x = br) w wd p 6 (2 * L.length + 2 + 2 * j) D R _ _ _ z HLP1.out.both HLP1.out.ok HLP1.out.okR (by omega) HN.out (by have := HLP1.out.pl; omega) Hzok.out HzF.out).mono ?_
                  rintro _ u1 hN
                  obtain ⟨tb, p2, bl2, ol2, cl2, ad22, c22, ad32, c32, rfl, hB2, hK2, hh2, hbox, hLP⟩ := HLP1.out.played hN
                  have hrO : readAt u1 bo (oo + j * 4) 4 = some (oc z) := (rd_same (hK2.block _ (readAt_lt HrO1.out) (fun hx => by have h1 := HLP1.out.both.d.ok.lo _ hx; have h2 := HMlt.out; have h3 : bo < w.heap.size := h2 _ rfl (by omega); omega)) _ _).trans HrO1.out
                  obtain ⟨D2, hD2⟩ : ∃ D2, playD D z.1 = D2 := ⟨_, rfl⟩
                  obtain ⟨R2, hR2⟩ : ∃ R2, playD R z.1 = R2 := ⟨_, rfl⟩
                  rw [hD2, hR2] at hLP
                  simp only [hR2]
                  refine ⟨_, rfl, _, fun _ h => h, ⟨hbox.r, hrO⟩, ?_⟩; simp only [List.getElem_toArray, List.getElem_cons_succ, List.getElem_cons_zero, Act.put, Act.eval, List.setIfInBounds_toArray, List.set_cons_zero, List.set_cons_succ, Array.getD_eq_getD_getElem?, List.getElem?_toArray, List.getElem?_cons_succ, List.getElem?_cons_zero, Option.getD_some]
                  clear hrO
                  have HD2 := Lib.hid hD2
                  have HB2p := Lib.hid hB2
                  have HK2 := Lib.hid hK2
                  have Hh2 := Lib.hid hh2
                  have Hbox := Lib.hid hbox
                  have HLP2 := Lib.hid hLP
                  clear hN hD2 hR2 hB2 hK2 hh2 hbox hLP
                  repeat (first | (refine t_off rfl rfl ?_; simp only [List.getElem_toArray, List.getElem_cons_succ, List.getElem_cons_zero, Act.put, Act.eval, List.setIfInBounds_toArray, List.set_cons_zero, List.set_cons_succ, Array.getD_eq_getD_getElem?, List.getElem?_toArray, List.getElem?_cons_succ, List.getElem?_cons_zero, Option.getD_some]) | (refine t_move rfl _ rfl rfl ?_; simp only [List.getElem_toArray, List.getElem_cons_succ, List.getElem_cons_zero, Act.put, Act.eval, List.setIfInBounds_toArray, List.set_cons_zero, List.set_cons_succ, Array.getD_eq_getD_getElem?, List.getElem?_toArray, List.getElem?_cons_succ, List.getElem?_cons_zero, Option.getD_some]) | (refine t_assign rfl _ rfl rfl ?_; simp only [List.getElem_toArray, List.getElem_cons_succ, List.getElem_cons_zero, Act.put, Act.eval, List.setIfInBounds_toArray, List.set_cons_zero, List.set_cons_succ, Array.getD_eq_getD_getElem?, List.getElem?_toArray, List.getElem?_cons_succ, List.getElem?_cons_zero, Option.getD_some]) | (refine t_val rfl rfl ?_; apply Exists.intro; refine ⟨fun w' hC' => ?_, ?_⟩; (obtain ⟨b0, b1, b2, b3, b4, q0, q1, q2, q3⟩ := HS.out w' hC'; go_simp; (first | done | exact rfl)); simp only [List.getElem_toArray, List.getElem_cons_succ, List.getElem_cons_zero, Act.put, Act.eval, List.setIfInBounds_toArray, List.set_cons_zero, List.set_cons_succ, Array.getD_eq_getD_getElem?, List.getElem?_toArray, List.getElem?_cons_succ, List.getElem?_cons_zero, Option.getD_some]) | (refine p_off rfl rfl ?_; simp only [List.getElem_toArray, List.getElem_cons_succ, List.getElem_cons_zero, Act.put, Act.eval, List.setIfInBounds_toArray, List.set_cons_zero, List.set_cons_succ, Array.getD_eq_getD_getElem?, List.getElem?_toArray, List.getElem?_cons_succ, List.getElem?_cons_zero, Option.getD_some]) | (refine p_val rfl rfl ?_; apply Exists.intro; refine ⟨fun w' => ?_, ?_⟩; (go_simp; (first | done | exact rfl)); simp only [List.getElem_toArray, List.getElem_cons_succ, List.getElem_cons_zero, Act.put, Act.eval, List.setIfInBounds_toArray, List.set_cons_zero, List.set_cons_succ, Array.getD_eq_getD_getElem?, List.getElem?_toArray, List.getElem?_cons_succ, List.getElem?_cons_zero, Option.getD_some]))
                  obtain ⟨e0, e1, e2, e3, e4⟩ := Hbox.out.free
                  obtain ⟨b0, b1, b2, b3, b4⟩ := Hbox.out.cells
                  refine b_any rfl rfl (fun K hK => ?_)
                  go_simp
                  refine hK _ _ (fun _ => True) trivial ?_
                  clear hK K e0 e1 e2 e3 e4 b0 b1 b2 b3 b4
                  try simp only [List.getElem_toArray, List.getElem_cons_succ, List.getElem_cons_zero, Act.put, Act.eval, List.setIfInBounds_toArray, List.set_cons_zero, List.set_cons_succ, Array.getD_eq_getD_getElem?, List.getElem?_toArray, List.getElem?_cons_succ, List.getElem?_cons_zero, Option.getD_some]
                  repeat (first | (refine t_off rfl rfl ?_; simp only [List.getElem_toArray, List.getElem_cons_succ, List.getElem_cons_zero, Act.put, Act.eval, List.setIfInBounds_toArray, List.set_cons_zero, List.set_cons_succ, Array.getD_eq_getD_getElem?, List.getElem?_toArray, List.getElem?_cons_succ, List.getElem?_cons_zero, Option.getD_some]) | (refine t_move rfl _ rfl rfl ?_; simp only [List.getElem_toArray, List.getElem_cons_succ, List.getElem_cons_zero, Act.put, Act.eval, List.setIfInBounds_toArray, List.set_cons_zero, List.set_cons_succ, Array.getD_eq_getD_getElem?, List.getElem?_toArray, List.getElem?_cons_succ, List.getElem?_cons_zero, Option.getD_some]) | (refine t_assign rfl _ rfl rfl ?_; simp only [List.getElem_toArray, List.getElem_cons_succ, List.getElem_cons_zero, Act.put, Act.eval, List.setIfInBounds_toArray, List.set_cons_zero, List.set_cons_succ, Array.getD_eq_getD_getElem?, List.getElem?_toArray, List.getElem?_cons_succ, List.getElem?_cons_zero, Option.getD_some]) | (refine t_val rfl rfl ?_; apply Exists.intro; refine ⟨fun w' hC' => ?_, ?_⟩; (skip; go_simp; (first | done | exact rfl)); simp only [List.getElem_toArray, List.getElem_cons_succ, List.getElem_cons_zero, Act.put, Act.eval, List.setIfInBounds_toArray, List.set_cons_zero, List.set_cons_succ, Array.getD_eq_getD_getElem?, List.getElem?_toArray, List.getElem?_cons_succ, List.getElem?_cons_zero, Option.getD_some]) | (refine p_off rfl rfl ?_; simp only [List.getElem_toArray, List.getElem_cons_succ, List.getElem_cons_zero, Act.put, Act.eval, List.setIfInBounds_toArray, List.set_cons_zero, List.set_cons_succ, Array.getD_eq_getD_getElem?, List.getElem?_toArray, List.getElem?_cons_succ, List.getElem?_cons_zero, Option.getD_some]) | (refine p_val rfl rfl ?_; apply Exists.intro; refine ⟨fun w' => ?_, ?_⟩; (go_simp; (first | done | exact rfl)); simp only [List.getElem_toArray, List.getElem_cons_succ, List.getElem_cons_zero, Act.put, Act.eval, List.setIfInBounds_toArray, List.set_cons_zero, List.set_cons_succ, Array.getD_eq_getD_getElem?, List.getElem?_toArray, List.getElem?_cons_succ, List.getElem?_cons_zero, Option.getD_some]))
                  refine t_done ?_
                  have hkP := put5_kb (Z := fun x => x = bw) u1 bw (.slice (some ⟨bl2, ol2, none⟩) 6 cl2) (.slice ad22 R2.op.length c22) (.bool R2.down) (.int .i64 R2.steps) (.slice ad32 R2.plan.length c32) rfl
                  have hLP := HLP2.out
                  clear HLP2
                  unfold put5 at hkP hLP
                  have HkP := Lib.hid hkP
                  have HLP := Lib.hid hLP
                  clear hkP hLP HLP1 Hbox
                  generalize ((((u1.setCell ⟨bw, 0, none⟩ (.slice (some ⟨bl2, ol2, none⟩) 6 cl2)).setCell ⟨bw, 1, none⟩ (.slice ad22 R2.op.length c22)).setCell ⟨bw, 2, none⟩ (.bool R2.down)).setCell ⟨bw, 3, none⟩ (.int .i64 R2.steps)).setCell ⟨bw, 4, none⟩ (.slice ad32 R2.plan.length c32) = wp at *
                  clear HS HzF Hzok HrO1
                  have hK1 := HK6.out.kept (p' := p) (X := fun _ => False) (Kb.of_below Hbd.out) (fun h => h) (fun h => h) (fun b hb => .inl hb)
                  have hK2 := hK1.kept (p' := p2) HK2.out HK6.out.pg HK6.out.pr Hh2.out
                  have hK3 := hK2.kept (p' := p2) HkP.out HK6.out.gb HK6.out.rb (fun b hb => .inl hb)
                  have HKI2 : Hid (KeepI D2 E.st (wroteV V z.1)) := by (show KeepI _ _ _; rw [← HD2.out]; exact HKI.out.play z.1 HLP0.out)
                  rw [HVz.out] at HKI2
                  have HK63 := Lib.hid hK3
                  clear hK1 hK2 hK3 HK6 HKI
                  go_wp2
                  go_round
                  case rel => exact ⟨j + 1, by omega, by go_num, p2, D2, R2, _, _, _, _, HB2p.out, HLP.out, HKI2.out, HK63.out, Hlo.out⟩
                  case measure => simp [intOf]; omega
                · have K3 := Lib.hid k3
                  clear k3
                  have htr := True.intro
                  obtain ⟨z, hz⟩ : ∃ z, M[j]'hlt = z := ⟨_, rfl⟩
                  have hLr := HM.out.below HLP.out.both.bel
                  have Hzok : Hid (OpOk w z) := HM.out.o _ (hz ▸ List.getElem_mem hlt)
                  have HzF : Hid (okO z.1 = true) := few_at HFM.out (hz ▸ List.getElem_mem hlt)
                  obtain ⟨bo, oo, co, ad2o, cap2o, hv, _, _, hr, _⟩ := hLr.cell j hlt
                  simp only [Value.slice.injEq, true_and] at hv
                  obtain ⟨rfl, rfl⟩ := hv
                  rw [hz] at hr
                  have HrO := Lib.hid hr
                  have hk0 : (0 : Int) ≤ (j : Int) := by omega
                  have hk1 : (j : Int) < (M.length : Int) := by omega
                  obtain ⟨bl, ol, cl1, ad2, ad3, c2, c3, rfl, rfl, rfl⟩ := HLP.out.both.r.open_
                  have HS : Hid (∀ u : World, (readAt u bw 0 5 = some #[.slice (some ⟨bl, ol, none⟩) 6 cl1, .slice ad2 R.op.length c2, .bool R.down, .int .i64 R.steps, .slice ad3 R.plan.length c3] ∧ readAt u bo (oo + j * 4) 4 = some (oc z)) → u.cell? ⟨bw, 0, none⟩ = some (.slice (some ⟨bl, ol, none⟩) 6 cl1) ∧ u.cell? ⟨bw, 1, none⟩ = some (.slice ad2 R.op.length c2) ∧ u.cell? ⟨bw, 2, none⟩ = some (.bool R.down) ∧ u.cell? ⟨bw, 3, none⟩ = some (.int .i64 R.steps) ∧ u.cell? ⟨bw, 4, none⟩ = some (.slice ad3 R.plan.length c3) ∧
                      u.cell? ⟨bo, oo + j * 4, none⟩ = some (.int .i64 z.1.kind) ∧ u.cell? ⟨bo, oo + j * 4 + 1, none⟩ = some (.int .i64 z.1.at_) ∧ u.cell? ⟨bo, oo + j * 4 + 2, none⟩ = some (.int .u8 (z.1.byte.toNat : Int)) ∧ u.cell? ⟨bo, oo + j * 4 + 3, none⟩ = some z.2) := fun u hu => by
                    have hc := fun i v hv => readAt_cell hu.1 i v hv
                    have hd := fun i v hv => readAt_cell hu.2 i v hv
                    simp only [Nat.zero_add] at hc
                    exact ⟨hc 0 _ rfl, hc 1 _ rfl, hc 2 _ rfl, hc 3 _ rfl, hc 4 _ rfl, hd 0 _ rfl, hd 1 _ rfl, hd 2 _ rfl, hd 3 _ rfl⟩
                  have hz0 := hz
                  clear hr hLr hz
                  obtain ⟨k, hk, hk6⟩ : ∃ k : Nat, z.1.at_ = (k : Int) ∧ k < 6 := by
                    have h2 := K2.out
                    have h3 := K3.out
                    rw [hz0] at h2 h3
                    obtain ⟨k, hk⟩ := Int.eq_ofNat_of_zero_le (show 0 ≤ z.1.at_ by omega)
                    exact ⟨k, hk, by omega⟩
                  have d1 : (z.1.kind == 1) = true := by (have := K1.out; rw [hz0] at this; simpa using this)
                  have d2 : decide ((0 : Int) ≤ (k : Int)) = true := decide_eq_true (by omega)
                  have d3 : decide ((k : Int) < (6 : Int)) = true := decide_eq_true (by omega)
                  have HVz : Hid (wroteV V z.1 = V.set k true) := by (have := K1.out; rw [hz0] at this; unfold Hid wroteV; rw [if_pos ⟨this, by omega, by omega⟩, hk]; rfl)
                  have q0 : wr.cell? ⟨bo, oo + j * 4, none⟩ = some (.int .i64 z.1.kind) := by (have h1 := readAt_cell HrO.out 0 _ rfl; rwa [Nat.add_zero] at h1)
                  have q1 : wr.cell? ⟨bo, oo + j * 4 + 1, none⟩ = some (.int .i64 (k : Int)) := by (rw [← hk]; exact readAt_cell HrO.out 1 _ rfl)
                  obtain ⟨wc, wf⟩ := HK6.out.wr_ k hk6
                  have hk0i : (0 : Int) ≤ (k : Int) := by omega
                  have hk6i : (k : Int) < 6 := by omega
                  clear hz0 hk
                  try clear hz0
                  go_upto_region 22 with fail
                  have hkS : Kb (fun x => x = br) wr (wr.setCell ⟨br, k, none⟩ (.bool true)) := (Kb.refl _ _).setC _ _ rfl
                  have HLPs := Lib.hid (HLP.out.kb hkS (.inr rfl) HK6.out.pr (Ne.symm HK6.out.rb) Hlo.out)
                  have HrOs := Lib.hid ((rd_same (hkS.block _ (readAt_lt HrO.out) (fun e => by have h2 := HMlt.out; have h3 : bo < w.heap.size := h2 _ rfl (by omega); have h4 := Hlo.out; omega)) _ _).trans HrO.out)
                  have HK6s := Lib.hid (HK6.out.set k hk6 HKI.out.len)
                  clear hkS HLP HrO HK6 q0 q1 wc wf
                  have HLP := HLPs
                  have HrO := HrOs
                  have HK6 := HK6s
                  clear HLPs HrOs HK6s
                  generalize wr.setCell ⟨br, k, none⟩ (.bool true) = wr at *
                  refine wp_region_tr (.take 0 (.take 1 (.take 2 (.take 3 (.take 4 (.take 5 (.run 6 (.take 7 (.take 8 (.pure 9 (.brk 10 .done))))))))))) (fun u => readAt u bw 0 5 = some #[.slice (some ⟨bl, ol, none⟩) 6 cl1, .slice ad2 R.op.length c2, .bool R.down, .int .i64 R.steps, .slice ad3 R.plan.length c3] ∧ readAt u bo (oo + j * 4) 4 = some (oc z)) (by kernel_rfl) (by kernel_rfl) rfl (by kernel_rfl) ⟨HLP.out.box.r, HrO.out⟩ ?_
                  have hb := (Below.refl wr.heap.size wr).drew
                  have HLP1 := Lib.hid (HLP.out.below hb)
                  have HrO1 := Lib.hid ((readAt_below hb (readAt_lt HrO.out) _ _).trans HrO.out)
                  have Hbd := Lib.hid hb
                  clear hb HLP HrO
                  generalize wr.drew = wd at *
                  repeat (first | (refine t_off rfl rfl ?_; simp only [List.getElem_toArray, List.getElem_cons_succ, List.getElem_cons_zero, Act.put, Act.eval, List.setIfInBounds_toArray, List.set_cons_zero, List.set_cons_succ, Array.getD_eq_getD_getElem?, List.getElem?_toArray, List.getElem?_cons_succ, List.getElem?_cons_zero, Option.getD_some]) | (refine t_move rfl _ rfl rfl ?_; simp only [List.getElem_toArray, List.getElem_cons_succ, List.getElem_cons_zero, Act.put, Act.eval, List.setIfInBounds_toArray, List.set_cons_zero, List.set_cons_succ, Array.getD_eq_getD_getElem?, List.getElem?_toArray, List.getElem?_cons_succ, List.getElem?_cons_zero, Option.getD_some]) | (refine t_assign rfl _ rfl rfl ?_; simp only [List.getElem_toArray, List.getElem_cons_succ, List.getElem_cons_zero, Act.put, Act.eval, List.setIfInBounds_toArray, List.set_cons_zero, List.set_cons_succ, Array.getD_eq_getD_getElem?, List.getElem?_toArray, List.getElem?_cons_succ, List.getElem?_cons_zero, Option.getD_some]) | (refine t_val rfl rfl ?_; apply Exists.intro; refine ⟨fun w' hC' => ?_, ?_⟩; (obtain ⟨b0, b1, b2, b3, b4, q0, q1, q2, q3⟩ := HS.out w' hC'; go_simp; (first | done | exact rfl)); simp only [List.getElem_toArray, List.getElem_cons_succ, List.getElem_cons_zero, Act.put, Act.eval, List.setIfInBounds_toArray, List.set_cons_zero, List.set_cons_succ, Array.getD_eq_getD_getElem?, List.getElem?_toArray, List.getElem?_cons_succ, List.getElem?_cons_zero, Option.getD_some]) | (refine p_off rfl rfl ?_; simp only [List.getElem_toArray, List.getElem_cons_succ, List.getElem_cons_zero, Act.put, Act.eval, List.setIfInBounds_toArray, List.set_cons_zero, List.set_cons_succ, Array.getD_eq_getD_getElem?, List.getElem?_toArray, List.getElem?_cons_succ, List.getElem?_cons_zero, Option.getD_some]) | (refine p_val rfl rfl ?_; apply Exists.intro; refine ⟨fun w' => ?_, ?_⟩; (go_simp; (first | done | exact rfl)); simp only [List.getElem_toArray, List.getElem_cons_succ, List.getElem_cons_zero, Act.put, Act.eval, List.setIfInBounds_toArray, List.set_cons_zero, List.set_cons_succ, Array.getD_eq_getD_getElem?, List.getElem?_toArray, List.getElem?_cons_succ, List.getElem?_cons_zero, Option.getD_some]))
                  refine r_call rfl rfl ?_; apply Exists.intro; apply Exists.intro; refine ⟨?_, ?_⟩; (go_simp; exact ⟨rfl, rfl⟩)
                  refine (play_any2 (fun x => x = bw ∨ x = br) w wd p 6 (2 * L.length + 2 + 2 * j) D R _ _ _ z HLP1.out.both HLP1.out.ok HLP1.out.okR (by omega) HN.out (by have := HLP1.out.pl; omega) Hzok.out HzF.out).mono ?_
                  rintro _ u1 hN
                  obtain ⟨tb, p2, bl2, ol2, cl2, ad22, c22, ad32, c32, rfl, hB2, hK2, hh2, hbox, hLP⟩ := HLP1.out.played hN
                  have hrO : readAt u1 bo (oo + j * 4) 4 = some (oc z) := (rd_same (hK2.block _ (readAt_lt HrO1.out) (fun hx => by have h1 := HLP1.out.both.d.ok.lo _ hx; have h2 := HMlt.out; have h3 : bo < w.heap.size := h2 _ rfl (by omega); omega)) _ _).trans HrO1.out
                  obtain ⟨D2, hD2⟩ : ∃ D2, playD D z.1 = D2 := ⟨_, rfl⟩
                  obtain ⟨R2, hR2⟩ : ∃ R2, playD R z.1 = R2 := ⟨_, rfl⟩
                  rw [hD2, hR2] at hLP
                  simp only [hR2]
                  refine ⟨_, rfl, _, fun _ h => h, ⟨hbox.r, hrO⟩, ?_⟩; simp only [List.getElem_toArray, List.getElem_cons_succ, List.getElem_cons_zero, Act.put, Act.eval, List.setIfInBounds_toArray, List.set_cons_zero, List.set_cons_succ, Array.getD_eq_getD_getElem?, List.getElem?_toArray, List.getElem?_cons_succ, List.getElem?_cons_zero, Option.getD_some]
                  clear hrO
                  have HD2 := Lib.hid hD2
                  have HB2p := Lib.hid hB2
                  have HK2 := Lib.hid hK2
                  have Hh2 := Lib.hid hh2
                  have Hbox := Lib.hid hbox
                  have HLP2 := Lib.hid hLP
                  clear hN hD2 hR2 hB2 hK2 hh2 hbox hLP
                  repeat (first | (refine t_off rfl rfl ?_; simp only [List.getElem_toArray, List.getElem_cons_succ, List.getElem_cons_zero, Act.put, Act.eval, List.setIfInBounds_toArray, List.set_cons_zero, List.set_cons_succ, Array.getD_eq_getD_getElem?, List.getElem?_toArray, List.getElem?_cons_succ, List.getElem?_cons_zero, Option.getD_some]) | (refine t_move rfl _ rfl rfl ?_; simp only [List.getElem_toArray, List.getElem_cons_succ, List.getElem_cons_zero, Act.put, Act.eval, List.setIfInBounds_toArray, List.set_cons_zero, List.set_cons_succ, Array.getD_eq_getD_getElem?, List.getElem?_toArray, List.getElem?_cons_succ, List.getElem?_cons_zero, Option.getD_some]) | (refine t_assign rfl _ rfl rfl ?_; simp only [List.getElem_toArray, List.getElem_cons_succ, List.getElem_cons_zero, Act.put, Act.eval, List.setIfInBounds_toArray, List.set_cons_zero, List.set_cons_succ, Array.getD_eq_getD_getElem?, List.getElem?_toArray, List.getElem?_cons_succ, List.getElem?_cons_zero, Option.getD_some]) | (refine t_val rfl rfl ?_; apply Exists.intro; refine ⟨fun w' hC' => ?_, ?_⟩; (obtain ⟨b0, b1, b2, b3, b4, q0, q1, q2, q3⟩ := HS.out w' hC'; go_simp; (first | done | exact rfl)); simp only [List.getElem_toArray, List.getElem_cons_succ, List.getElem_cons_zero, Act.put, Act.eval, List.setIfInBounds_toArray, List.set_cons_zero, List.set_cons_succ, Array.getD_eq_getD_getElem?, List.getElem?_toArray, List.getElem?_cons_succ, List.getElem?_cons_zero, Option.getD_some]) | (refine p_off rfl rfl ?_; simp only [List.getElem_toArray, List.getElem_cons_succ, List.getElem_cons_zero, Act.put, Act.eval, List.setIfInBounds_toArray, List.set_cons_zero, List.set_cons_succ, Array.getD_eq_getD_getElem?, List.getElem?_toArray, List.getElem?_cons_succ, List.getElem?_cons_zero, Option.getD_some]) | (refine p_val rfl rfl ?_; apply Exists.intro; refine ⟨fun w' => ?_, ?_⟩; (go_simp; (first | done | exact rfl)); simp only [List.getElem_toArray, List.getElem_cons_succ, List.getElem_cons_zero, Act.put, Act.eval, List.setIfInBounds_toArray, List.set_cons_zero, List.set_cons_succ, Array.getD_eq_getD_getElem?, List.getElem?_toArray, List.getElem?_cons_succ, List.getElem?_cons_zero, Option.getD_some]))
                  obtain ⟨e0, e1, e2, e3, e4⟩ := Hbox.out.free
                  obtain ⟨b0, b1, b2, b3, b4⟩ := Hbox.out.cells
                  refine b_any rfl rfl (fun K hK => ?_)
                  go_simp
                  refine hK _ _ (fun _ => True) trivial ?_
                  clear hK K e0 e1 e2 e3 e4 b0 b1 b2 b3 b4
                  try simp only [List.getElem_toArray, List.getElem_cons_succ, List.getElem_cons_zero, Act.put, Act.eval, List.setIfInBounds_toArray, List.set_cons_zero, List.set_cons_succ, Array.getD_eq_getD_getElem?, List.getElem?_toArray, List.getElem?_cons_succ, List.getElem?_cons_zero, Option.getD_some]
                  repeat (first | (refine t_off rfl rfl ?_; simp only [List.getElem_toArray, List.getElem_cons_succ, List.getElem_cons_zero, Act.put, Act.eval, List.setIfInBounds_toArray, List.set_cons_zero, List.set_cons_succ, Array.getD_eq_getD_getElem?, List.getElem?_toArray, List.getElem?_cons_succ, List.getElem?_cons_zero, Option.getD_some]) | (refine t_move rfl _ rfl rfl ?_; simp only [List.getElem_toArray, List.getElem_cons_succ, List.getElem_cons_zero, Act.put, Act.eval, List.setIfInBounds_toArray, List.set_cons_zero, List.set_cons_succ, Array.getD_eq_getD_getElem?, List.getElem?_toArray, List.getElem?_cons_succ, List.getElem?_cons_zero, Option.getD_some]) | (refine t_assign rfl _ rfl rfl ?_; simp only [List.getElem_toArray, List.getElem_cons_succ, List.getElem_cons_zero, Act.put, Act.eval, List.setIfInBounds_toArray, List.set_cons_zero, List.set_cons_succ, Array.getD_eq_getD_getElem?, List.getElem?_toArray, List.getElem?_cons_succ, List.getElem?_cons_zero, Option.getD_some]) | (refine t_val rfl rfl ?_; apply Exists.intro; refine ⟨fun w' hC' => ?_, ?_⟩; (skip; go_simp; (first | done | exact rfl)); simp only [List.getElem_toArray, List.getElem_cons_succ, List.getElem_cons_zero, Act.put, Act.eval, List.setIfInBounds_toArray, List.set_cons_zero, List.set_cons_succ, Array.getD_eq_getD_getElem?, List.getElem?_toArray, List.getElem?_cons_succ, List.getElem?_cons_zero, Option.getD_some]) | (refine p_off rfl rfl ?_; simp only [List.getElem_toArray, List.getElem_cons_succ, List.getElem_cons_zero, Act.put, Act.eval, List.setIfInBounds_toArray, List.set_cons_zero, List.set_cons_succ, Array.getD_eq_getD_getElem?, List.getElem?_toArray, List.getElem?_cons_succ, List.getElem?_cons_zero, Option.getD_some]) | (refine p_val rfl rfl ?_; apply Exists.intro; refine ⟨fun w' => ?_, ?_⟩; (go_simp; (first | done | exact rfl)); simp only [List.getElem_toArray, List.getElem_cons_succ, List.getElem_cons_zero, Act.put, Act.eval, List.setIfInBounds_toArray, List.set_cons_zero, List.set_cons_succ, Array.getD_eq_getD_getElem?, List.getElem?_toArray, List.getElem?_cons_succ, List.getElem?_cons_zero, Option.getD_some]))
                  refine t_done ?_
                  have hkP := put5_kb (Z := fun x => x = bw) u1 bw (.slice (some ⟨bl2, ol2, none⟩) 6 cl2) (.slice ad22 R2.op.length c22) (.bool R2.down) (.int .i64 R2.steps) (.slice ad32 R2.plan.length c32) rfl
                  have hLP := HLP2.out
                  clear HLP2
                  unfold put5 at hkP hLP
                  have HkP := Lib.hid hkP
                  have HLP := Lib.hid hLP
                  clear hkP hLP HLP1 Hbox
                  generalize ((((u1.setCell ⟨bw, 0, none⟩ (.slice (some ⟨bl2, ol2, none⟩) 6 cl2)).setCell ⟨bw, 1, none⟩ (.slice ad22 R2.op.length c22)).setCell ⟨bw, 2, none⟩ (.bool R2.down)).setCell ⟨bw, 3, none⟩ (.int .i64 R2.steps)).setCell ⟨bw, 4, none⟩ (.slice ad32 R2.plan.length c32) = wp at *
                  clear HS HzF Hzok HrO1
                  have hK1 := HK6.out.kept (p' := p) (X := fun _ => False) (Kb.of_below Hbd.out) (fun h => h) (fun h => h) (fun b hb => .inl hb)
                  have hK2 := hK1.kept (p' := p2) HK2.out HK6.out.pg HK6.out.pr Hh2.out
                  have hK3 := hK2.kept (p' := p2) HkP.out HK6.out.gb HK6.out.rb (fun b hb => .inl hb)
                  have HKI2 : Hid (KeepI D2 E.st (wroteV V z.1)) := by (show KeepI _ _ _; rw [← HD2.out]; exact HKI.out.play z.1 HLP0.out)
                  rw [HVz.out] at HKI2
                  have HK63 := Lib.hid hK3
                  clear hK1 hK2 hK3 HK6 HKI
                  go_wp2
                  go_round
                  case rel => exact ⟨j + 1, by omega, by go_num, p2, D2, R2, _, _, _, _, HB2p.out, HLP.out, HKI2.out, HK63.out, Hlo.out⟩
                  case measure => simp [intOf]; omega
            · have K1 := Lib.hid k1
              clear k1
              have htr := True.intro
              obtain ⟨z, hz⟩ : ∃ z, M[j]'hlt = z := ⟨_, rfl⟩
              have hLr := HM.out.below HLP.out.both.bel
              have Hzok : Hid (OpOk w z) := HM.out.o _ (hz ▸ List.getElem_mem hlt)
              have HzF : Hid (okO z.1 = true) := few_at HFM.out (hz ▸ List.getElem_mem hlt)
              obtain ⟨bo, oo, co, ad2o, cap2o, hv, _, _, hr, _⟩ := hLr.cell j hlt
              simp only [Value.slice.injEq, true_and] at hv
              obtain ⟨rfl, rfl⟩ := hv
              rw [hz] at hr
              have HrO := Lib.hid hr
              have hk0 : (0 : Int) ≤ (j : Int) := by omega
              have hk1 : (j : Int) < (M.length : Int) := by omega
              obtain ⟨bl, ol, cl1, ad2, ad3, c2, c3, rfl, rfl, rfl⟩ := HLP.out.both.r.open_
              have HS : Hid (∀ u : World, (readAt u bw 0 5 = some #[.slice (some ⟨bl, ol, none⟩) 6 cl1, .slice ad2 R.op.length c2, .bool R.down, .int .i64 R.steps, .slice ad3 R.plan.length c3] ∧ readAt u bo (oo + j * 4) 4 = some (oc z)) → u.cell? ⟨bw, 0, none⟩ = some (.slice (some ⟨bl, ol, none⟩) 6 cl1) ∧ u.cell? ⟨bw, 1, none⟩ = some (.slice ad2 R.op.length c2) ∧ u.cell? ⟨bw, 2, none⟩ = some (.bool R.down) ∧ u.cell? ⟨bw, 3, none⟩ = some (.int .i64 R.steps) ∧ u.cell? ⟨bw, 4, none⟩ = some (.slice ad3 R.plan.length c3) ∧
                  u.cell? ⟨bo, oo + j * 4, none⟩ = some (.int .i64 z.1.kind) ∧ u.cell? ⟨bo, oo + j * 4 + 1, none⟩ = some (.int .i64 z.1.at_) ∧ u.cell? ⟨bo, oo + j * 4 + 2, none⟩ = some (.int .u8 (z.1.byte.toNat : Int)) ∧ u.cell? ⟨bo, oo + j * 4 + 3, none⟩ = some z.2) := fun u hu => by
                have hc := fun i v hv => readAt_cell hu.1 i v hv
                have hd := fun i v hv => readAt_cell hu.2 i v hv
                simp only [Nat.zero_add] at hc
                exact ⟨hc 0 _ rfl, hc 1 _ rfl, hc 2 _ rfl, hc 3 _ rfl, hc 4 _ rfl, hd 0 _ rfl, hd 1 _ rfl, hd 2 _ rfl, hd 3 _ rfl⟩
              have hz0 := hz
              clear hr hLr hz
              have d1 : (z.1.kind == 1) = false := by (have := K1.out; rw [hz0] at this; simpa using this)
              have HVz : Hid (wroteV V z.1 = V) := by (have := K1.out; rw [hz0] at this; unfold Hid wroteV; rw [if_neg (fun h => this h.1)])
              clear hz0
              have q0 : wr.cell? ⟨bo, oo + j * 4, none⟩ = some (.int .i64 z.1.kind) := by (have h1 := readAt_cell HrO.out 0 _ rfl; rwa [Nat.add_zero] at h1)
              have q1 : wr.cell? ⟨bo, oo + j * 4 + 1, none⟩ = some (.int .i64 z.1.at_) := readAt_cell HrO.out 1 _ rfl
              try clear hz0
              go_upto_region 22 with fail
              clear q0 q1
              refine wp_region_tr (.take 0 (.take 1 (.take 2 (.take 3 (.take 4 (.take 5 (.run 6 (.take 7 (.take 8 (.pure 9 (.brk 10 .done))))))))))) (fun u => readAt u bw 0 5 = some #[.slice (some ⟨bl, ol, none⟩) 6 cl1, .slice ad2 R.op.length c2, .bool R.down, .int .i64 R.steps, .slice ad3 R.plan.length c3] ∧ readAt u bo (oo + j * 4) 4 = some (oc z)) (by kernel_rfl) (by kernel_rfl) rfl (by kernel_rfl) ⟨HLP.out.box.r, HrO.out⟩ ?_
              have hb := (Below.refl wr.heap.size wr).drew
              have HLP1 := Lib.hid (HLP.out.below hb)
              have HrO1 := Lib.hid ((readAt_below hb (readAt_lt HrO.out) _ _).trans HrO.out)
              have Hbd := Lib.hid hb
              clear hb HLP HrO
              generalize wr.drew = wd at *
              repeat (first | (refine t_off rfl rfl ?_; simp only [List.getElem_toArray, List.getElem_cons_succ, List.getElem_cons_zero, Act.put, Act.eval, List.setIfInBounds_toArray, List.set_cons_zero, List.set_cons_succ, Array.getD_eq_getD_getElem?, List.getElem?_toArray, List.getElem?_cons_succ, List.getElem?_cons_zero, Option.getD_some]) | (refine t_move rfl _ rfl rfl ?_; simp only [List.getElem_toArray, List.getElem_cons_succ, List.getElem_cons_zero, Act.put, Act.eval, List.setIfInBounds_toArray, List.set_cons_zero, List.set_cons_succ, Array.getD_eq_getD_getElem?, List.getElem?_toArray, List.getElem?_cons_succ, List.getElem?_cons_zero, Option.getD_some]) | (refine t_assign rfl _ rfl rfl ?_; simp only [List.getElem_toArray, List.getElem_cons_succ, List.getElem_cons_zero, Act.put, Act.eval, List.setIfInBounds_toArray, List.set_cons_zero, List.set_cons_succ, Array.getD_eq_getD_getElem?, List.getElem?_toArray, List.getElem?_cons_succ, List.getElem?_cons_zero, Option.getD_some]) | (refine t_val rfl rfl ?_; apply Exists.intro; refine ⟨fun w' hC' => ?_, ?_⟩; (obtain ⟨b0, b1, b2, b3, b4, q0, q1, q2, q3⟩ := HS.out w' hC'; go_simp; (first | done | exact rfl)); simp only [List.getElem_toArray, List.getElem_cons_succ, List.getElem_cons_zero, Act.put, Act.eval, List.setIfInBounds_toArray, List.set_cons_zero, List.set_cons_succ, Array.getD_eq_getD_getElem?, List.getElem?_toArray, List.getElem?_cons_succ, List.getElem?_cons_zero, Option.getD_some]) | (refine p_off rfl rfl ?_; simp only [List.getElem_toArray, List.getElem_cons_succ, List.getElem_cons_zero, Act.put, Act.eval, List.setIfInBounds_toArray, List.set_cons_zero, List.set_cons_succ, Array.getD_eq_getD_getElem?, List.getElem?_toArray, List.getElem?_cons_succ, List.getElem?_cons_zero, Option.getD_some]) | (refine p_val rfl rfl ?_; apply Exists.intro; refine ⟨fun w' => ?_, ?_⟩; (go_simp; (first | done | exact rfl)); simp only [List.getElem_toArray, List.getElem_cons_succ, List.getElem_cons_zero, Act.put, Act.eval, List.setIfInBounds_toArray, List.set_cons_zero, List.set_cons_succ, Array.getD_eq_getD_getElem?, List.getElem?_toArray, List.getElem?_cons_succ, List.getElem?_cons_zero, Option.getD_some]))
              refine r_call rfl rfl ?_; apply Exists.intro; apply Exists.intro; refine ⟨?_, ?_⟩; (go_simp; exact ⟨rfl, rfl⟩)
              refine (play_any2 (fun x => x = bw ∨ x = br) w wd p 6 (2 * L.length + 2 + 2 * j) D R _ _ _ z HLP1.out.both HLP1.out.ok HLP1.out.okR (by omega) HN.out (by have := HLP1.out.pl; omega) Hzok.out HzF.out).mono ?_
              rintro _ u1 hN
              obtain ⟨tb, p2, bl2, ol2, cl2, ad22, c22, ad32, c32, rfl, hB2, hK2, hh2, hbox, hLP⟩ := HLP1.out.played hN
              have hrO : readAt u1 bo (oo + j * 4) 4 = some (oc z) := (rd_same (hK2.block _ (readAt_lt HrO1.out) (fun hx => by have h1 := HLP1.out.both.d.ok.lo _ hx; have h2 := HMlt.out; have h3 : bo < w.heap.size := h2 _ rfl (by omega); omega)) _ _).trans HrO1.out
              obtain ⟨D2, hD2⟩ : ∃ D2, playD D z.1 = D2 := ⟨_, rfl⟩
              obtain ⟨R2, hR2⟩ : ∃ R2, playD R z.1 = R2 := ⟨_, rfl⟩
              rw [hD2, hR2] at hLP
              simp only [hR2]
              refine ⟨_, rfl, _, fun _ h => h, ⟨hbox.r, hrO⟩, ?_⟩; simp only [List.getElem_toArray, List.getElem_cons_succ, List.getElem_cons_zero, Act.put, Act.eval, List.setIfInBounds_toArray, List.set_cons_zero, List.set_cons_succ, Array.getD_eq_getD_getElem?, List.getElem?_toArray, List.getElem?_cons_succ, List.getElem?_cons_zero, Option.getD_some]
              clear hrO
              have HD2 := Lib.hid hD2
              have HB2p := Lib.hid hB2
              have HK2 := Lib.hid hK2
              have Hh2 := Lib.hid hh2
              have Hbox := Lib.hid hbox
              have HLP2 := Lib.hid hLP
              clear hN hD2 hR2 hB2 hK2 hh2 hbox hLP
              repeat (first | (refine t_off rfl rfl ?_; simp only [List.getElem_toArray, List.getElem_cons_succ, List.getElem_cons_zero, Act.put, Act.eval, List.setIfInBounds_toArray, List.set_cons_zero, List.set_cons_succ, Array.getD_eq_getD_getElem?, List.getElem?_toArray, List.getElem?_cons_succ, List.getElem?_cons_zero, Option.getD_some]) | (refine t_move rfl _ rfl rfl ?_; simp only [List.getElem_toArray, List.getElem_cons_succ, List.getElem_cons_zero, Act.put, Act.eval, List.setIfInBounds_toArray, List.set_cons_zero, List.set_cons_succ, Array.getD_eq_getD_getElem?, List.getElem?_toArray, List.getElem?_cons_succ, List.getElem?_cons_zero, Option.getD_some]) | (refine t_assign rfl _ rfl rfl ?_; simp only [List.getElem_toArray, List.getElem_cons_succ, List.getElem_cons_zero, Act.put, Act.eval, List.setIfInBounds_toArray, List.set_cons_zero, List.set_cons_succ, Array.getD_eq_getD_getElem?, List.getElem?_toArray, List.getElem?_cons_succ, List.getElem?_cons_zero, Option.getD_some]) | (refine t_val rfl rfl ?_; apply Exists.intro; refine ⟨fun w' hC' => ?_, ?_⟩; (obtain ⟨b0, b1, b2, b3, b4, q0, q1, q2, q3⟩ := HS.out w' hC'; go_simp; (first | done | exact rfl)); simp only [List.getElem_toArray, List.getElem_cons_succ, List.getElem_cons_zero, Act.put, Act.eval, List.setIfInBounds_toArray, List.set_cons_zero, List.set_cons_succ, Array.getD_eq_getD_getElem?, List.getElem?_toArray, List.getElem?_cons_succ, List.getElem?_cons_zero, Option.getD_some]) | (refine p_off rfl rfl ?_; simp only [List.getElem_toArray, List.getElem_cons_succ, List.getElem_cons_zero, Act.put, Act.eval, List.setIfInBounds_toArray, List.set_cons_zero, List.set_cons_succ, Array.getD_eq_getD_getElem?, List.getElem?_toArray, List.getElem?_cons_succ, List.getElem?_cons_zero, Option.getD_some]) | (refine p_val rfl rfl ?_; apply Exists.intro; refine ⟨fun w' => ?_, ?_⟩; (go_simp; (first | done | exact rfl)); simp only [List.getElem_toArray, List.getElem_cons_succ, List.getElem_cons_zero, Act.put, Act.eval, List.setIfInBounds_toArray, List.set_cons_zero, List.set_cons_succ, Array.getD_eq_getD_getElem?, List.getElem?_toArray, List.getElem?_cons_succ, List.getElem?_cons_zero, Option.getD_some]))
              obtain ⟨e0, e1, e2, e3, e4⟩ := Hbox.out.free
              obtain ⟨b0, b1, b2, b3, b4⟩ := Hbox.out.cells
              refine b_any rfl rfl (fun K hK => ?_)
              go_simp
              refine hK _ _ (fun _ => True) trivial ?_
              clear hK K e0 e1 e2 e3 e4 b0 b1 b2 b3 b4
              try simp only [List.getElem_toArray, List.getElem_cons_succ, List.getElem_cons_zero, Act.put, Act.eval, List.setIfInBounds_toArray, List.set_cons_zero, List.set_cons_succ, Array.getD_eq_getD_getElem?, List.getElem?_toArray, List.getElem?_cons_succ, List.getElem?_cons_zero, Option.getD_some]
              repeat (first | (refine t_off rfl rfl ?_; simp only [List.getElem_toArray, List.getElem_cons_succ, List.getElem_cons_zero, Act.put, Act.eval, List.setIfInBounds_toArray, List.set_cons_zero, List.set_cons_succ, Array.getD_eq_getD_getElem?, List.getElem?_toArray, List.getElem?_cons_succ, List.getElem?_cons_zero, Option.getD_some]) | (refine t_move rfl _ rfl rfl ?_; simp only [List.getElem_toArray, List.getElem_cons_succ, List.getElem_cons_zero, Act.put, Act.eval, List.setIfInBounds_toArray, List.set_cons_zero, List.set_cons_succ, Array.getD_eq_getD_getElem?, List.getElem?_toArray, List.getElem?_cons_succ, List.getElem?_cons_zero, Option.getD_some]) | (refine t_assign rfl _ rfl rfl ?_; simp only [List.getElem_toArray, List.getElem_cons_succ, List.getElem_cons_zero, Act.put, Act.eval, List.setIfInBounds_toArray, List.set_cons_zero, List.set_cons_succ, Array.getD_eq_getD_getElem?, List.getElem?_toArray, List.getElem?_cons_succ, List.getElem?_cons_zero, Option.getD_some]) | (refine t_val rfl rfl ?_; apply Exists.intro; refine ⟨fun w' hC' => ?_, ?_⟩; (skip; go_simp; (first | done | exact rfl)); simp only [List.getElem_toArray, List.getElem_cons_succ, List.getElem_cons_zero, Act.put, Act.eval, List.setIfInBounds_toArray, List.set_cons_zero, List.set_cons_succ, Array.getD_eq_getD_getElem?, List.getElem?_toArray, List.getElem?_cons_succ, List.getElem?_cons_zero, Option.getD_some]) | (refine p_off rfl rfl ?_; simp only [List.getElem_toArray, List.getElem_cons_succ, List.getElem_cons_zero, Act.put, Act.eval, List.setIfInBounds_toArray, List.set_cons_zero, List.set_cons_succ, Array.getD_eq_getD_getElem?, List.getElem?_toArray, List.getElem?_cons_succ, List.getElem?_cons_zero, Option.getD_some]) | (refine p_val rfl rfl ?_; apply Exists.intro; refine ⟨fun w' => ?_, ?_⟩; (go_simp; (first | done | exact rfl)); simp only [List.getElem_toArray, List.getElem_cons_succ, List.getElem_cons_zero, Act.put, Act.eval, List.setIfInBounds_toArray, List.set_cons_zero, List.set_cons_succ, Array.getD_eq_getD_getElem?, List.getElem?_toArray, List.getElem?_cons_succ, List.getElem?_cons_zero, Option.getD_some]))
              refine t_done ?_
              have hkP := put5_kb (Z := fun x => x = bw) u1 bw (.slice (some ⟨bl2, ol2, none⟩) 6 cl2) (.slice ad22 R2.op.length c22) (.bool R2.down) (.int .i64 R2.steps) (.slice ad32 R2.plan.length c32) rfl
              have hLP := HLP2.out
              clear HLP2
              unfold put5 at hkP hLP
              have HkP := Lib.hid hkP
              have HLP := Lib.hid hLP
              clear hkP hLP HLP1 Hbox
              generalize ((((u1.setCell ⟨bw, 0, none⟩ (.slice (some ⟨bl2, ol2, none⟩) 6 cl2)).setCell ⟨bw, 1, none⟩ (.slice ad22 R2.op.length c22)).setCell ⟨bw, 2, none⟩ (.bool R2.down)).setCell ⟨bw, 3, none⟩ (.int .i64 R2.steps)).setCell ⟨bw, 4, none⟩ (.slice ad32 R2.plan.length c32) = wp at *
              clear HS HzF Hzok HrO1
              have hK1 := HK6.out.kept (p' := p) (X := fun _ => False) (Kb.of_below Hbd.out) (fun h => h) (fun h => h) (fun b hb => .inl hb)
              have hK2 := hK1.kept (p' := p2) HK2.out HK6.out.pg HK6.out.pr Hh2.out
              have hK3 := hK2.kept (p' := p2) HkP.out HK6.out.gb HK6.out.rb (fun b hb => .inl hb)
              have HKI2 : Hid (KeepI D2 E.st (wroteV V z.1)) := by (show KeepI _ _ _; rw [← HD2.out]; exact HKI.out.play z.1 HLP0.out)
              rw [HVz.out] at HKI2
              have HK63 := Lib.hid hK3
              clear hK1 hK2 hK3 HK6 HKI
              go_wp2
              go_round
              case rel => exact ⟨j + 1, by omega, by go_num, p2, D2, R2, _, _, _, _, HB2p.out, HLP.out, HKI2.out, HK63.out, Hlo.out⟩
              case measure => simp [intOf]; omega
          · obtain rfl : j = M.length := by omega
            go_wp2_with fail
            have hcall := dcrash_any wr (.slice none 0 0) [] (2 * L.length + 2 + 2 * M.length) HLP.out.both.d HLP.out.ok (by omega) (by omega) HLP.out.both.bel.size (nil_cuts wr)
            refine hcall.mono ?_
            rintro _ u3 ⟨rfl, p4, hB4, hA4, hK4, hh4⟩
            have HA4 := Lib.hid hA4
            have HB4 := Lib.hid hB4
            have HK64 := Lib.hid (HK6.out.kept (p' := p4) hK4 HK6.out.pg HK6.out.pr hh4)
            have HBel4 : Hid (Below w.heap.size w u3) := HLP.out.both.bel.trans (hK4.below HLP.out.both.d.ok.lo HLP.out.both.bel.size)
            have HT : Hid (∀ i : Nat, V[i]? = some false → (crashD D []).st[i]? = E.st[i]?) := HKI.out.end_
            have HVl : Hid (V.length = 6) := HKI.out.len
            have HEl : Hid (E.st.length = 6) := HEst.out
            have HDl : Hid ((crashD D []).st.length = 6) := (HLP.out.ok.crash []).len
            clear hcall hA4 hB4 hK4 hh4 HLP HKI HK6
            go_wp2_with fail
            have hcall := stable_any u3 HA4.out HDl.out (by omega)
            rw [HB4.out] at hcall
            refine hcall.mono ?_
            rintro _ u4 ⟨⟨vs, rfl, ho⟩, hb4⟩
            obtain ⟨g2, cap2, rfl, hg1, hg2, hg3, _, hrd, _⟩ := ho
            have HR2 := Lib.hid hrd
            have HR1 := Lib.hid ((readAt_below hb4 (readAt_lt HK64.out.old) _ _).trans HK64.out.old)
            have HW : Hid (∀ i : Nat, i < 6 → u4.cell? ⟨br, i, none⟩ = some (.bool (V.getD i false))) := fun i hi => by
              obtain ⟨e1, e2⟩ := cell_block (hb4.block _ HK64.out.rl) i
              rw [e1]; exact (HK64.out.wr_ i hi).1
            have HBel5 : Hid (Below w.heap.size w u4) := HBel4.out.trans (hb4.mono HBel4.out.size)
            generalize (crashD D []).st = T2 at *
            generalize E.st = T1 at *
            clear hcall hrd hb4 HK64 HA4 HB4 HBel4 hg1 hg2 hg3
            have HL7 : Hid (L7 w u4 g1 g2 br T1 T2 V) := ⟨HR1.out, HR2.out, HW.out, HBel5.out⟩
            clear HR1 HR2 HW HBel5
            go_wp2_with fail
            go_loopw [12] (fun i wr => ∃ j : Nat, j ≤ 6 ∧ i = .int .i64 j ∧ L7 w wr g1 g2 br T1 T2 V) (fun i _ => 6 - (intOf i).toNat)
            case atStart => exact ⟨0, Nat.zero_le _, rfl, HL7.out⟩
            case round =>
              obtain ⟨j, hj, rfl, hl7⟩ := hrel
              have HL8 := Lib.hid hl7
              clear hl7 HL7
              by_cases hlt : j < 6
              · have hk0 : (0 : Int) ≤ (j : Int) := by omega
                have hk1 : (j : Int) < 6 := by omega
                have HS : Hid (readAt wr g1 (j * 64) 64 = some (av (T1[j]'(by have := HEl.out; omega)))) := row_at HL8.out.r1 HEl.out j hlt
                have HS2 : Hid (readAt wr g2 (j * 64) 64 = some (av (T2[j]'(by have := HDl.out; omega)))) := row_at HL8.out.r2 HDl.out j hlt
                obtain ⟨x1, hx1⟩ : ∃ x, T1[j]'(by have := HEl.out; omega) = x := ⟨_, rfl⟩
                obtain ⟨x2, hx2⟩ : ∃ x, T2[j]'(by have := HDl.out; omega) = x := ⟨_, rfl⟩
                have hwv := HL8.out.wv j hlt
                have heq : V.getD j false = false → x2 = x1 := fun h => by
                  have h1 : V[j]? = some false := by
                    rw [List.getElem?_eq_getElem (show j < V.length by have := HVl.out; omega)]
                    congr 1
                    simpa [List.getD, List.getElem?_eq_getElem (show j < V.length by have := HVl.out; omega)] using h
                  have h2 := HT.out j h1
                  rw [List.getElem?_eq_getElem (show j < T2.length by have := HDl.out; omega), List.getElem?_eq_getElem (show j < T1.length by have := HEl.out; omega), Option.some.injEq] at h2
                  rw [← hx1, ← hx2]; exact h2
                rw [hx1] at HS
                rw [hx2] at HS2
                have Heq := Lib.hid heq
                have Hwv := Lib.hid hwv
                clear hx1 hx2 heq hwv
                have HL9 : Hid (L7 w wr.drew g1 g2 br T1 T2 V) := ⟨HL8.out.r1, HL8.out.r2, HL8.out.wv, HL8.out.bel.drew⟩
                clear HL8
                generalize V.getD j false = vb at *
                cases vb with
                | false =>
                  obtain rfl := Heq.out rfl
                  go_upto_region 28 with fail
                  refine wp_region_tr (.take 0 (.take 1 (.take 2 (.take 3 (.take 4 (.take 5 (.take 6 (.take 7 (.take 8 (.take 9 (.take 10 (.take 11 (.take 12 (.take 13 (.take 14 (.take 15 (.take 16 (.take 17 (.take 18 (.take 19 .done)))))))))))))))))))) (fun u => u.cell? ⟨br, j, none⟩ = some (.bool false) ∧ readAt u g2 (j * 64) 64 = some (av x2) ∧ readAt u g1 (j * 64) 64 = some (av x2)) (by kernel_rfl) (by kernel_rfl) rfl (by kernel_rfl) ⟨Hwv.out, HS2.out, HS.out⟩ ?_
                  repeat (first | (refine t_off rfl rfl ?_; simp only [List.getElem_toArray, List.getElem_cons_succ, List.getElem_cons_zero, Act.put, Act.eval, List.setIfInBounds_toArray, List.set_cons_zero, List.set_cons_succ, Array.getD_eq_getD_getElem?, List.getElem?_toArray, List.getElem?_cons_succ, List.getElem?_cons_zero, Option.getD_some]) | (refine t_move rfl _ rfl rfl ?_; simp only [List.getElem_toArray, List.getElem_cons_succ, List.getElem_cons_zero, Act.put, Act.eval, List.setIfInBounds_toArray, List.set_cons_zero, List.set_cons_succ, Array.getD_eq_getD_getElem?, List.getElem?_toArray, List.getElem?_cons_succ, List.getElem?_cons_zero, Option.getD_some]) | (refine t_assign rfl _ rfl rfl ?_; simp only [List.getElem_toArray, List.getElem_cons_succ, List.getElem_cons_zero, Act.put, Act.eval, List.setIfInBounds_toArray, List.set_cons_zero, List.set_cons_succ, Array.getD_eq_getD_getElem?, List.getElem?_toArray, List.getElem?_cons_succ, List.getElem?_cons_zero, Option.getD_some]) | (refine t_val rfl rfl ?_; apply Exists.intro; refine ⟨fun w' hC' => ?_, ?_⟩; (obtain ⟨hc1, hc2, hc3⟩ := hC'; go_simp; (first | done | exact rfl)); simp only [List.getElem_toArray, List.getElem_cons_succ, List.getElem_cons_zero, Act.put, Act.eval, List.setIfInBounds_toArray, List.set_cons_zero, List.set_cons_succ, Array.getD_eq_getD_getElem?, List.getElem?_toArray, List.getElem?_cons_succ, List.getElem?_cons_zero, Option.getD_some]) | (refine p_off rfl rfl ?_; simp only [List.getElem_toArray, List.getElem_cons_succ, List.getElem_cons_zero, Act.put, Act.eval, List.setIfInBounds_toArray, List.set_cons_zero, List.set_cons_succ, Array.getD_eq_getD_getElem?, List.getElem?_toArray, List.getElem?_cons_succ, List.getElem?_cons_zero, Option.getD_some]) | (refine p_val rfl rfl ?_; apply Exists.intro; refine ⟨fun w' => ?_, ?_⟩; (go_simp; (first | done | exact rfl)); simp only [List.getElem_toArray, List.getElem_cons_succ, List.getElem_cons_zero, Act.put, Act.eval, List.setIfInBounds_toArray, List.set_cons_zero, List.set_cons_succ, Array.getD_eq_getD_getElem?, List.getElem?_toArray, List.getElem?_cons_succ, List.getElem?_cons_zero, Option.getD_some]))
                  refine t_done ?_
                  clear Hwv HS2 HS
                  generalize wr.drew = wd at *
                  go_wp2
                  go_round
                  case rel => exact ⟨j + 1, by omega, by go_num, HL9.out⟩
                  case measure => simp [intOf]; omega
                | true =>
                  go_upto_region 28 with fail
                  refine wp_region_tr (.take 0 (.take 1 (.take 2 (.take 3 (.take 4 (.take 5 (.take 6 (.take 7 (.take 8 (.take 9 (.take 10 (.take 11 (.take 12 (.take 13 (.take 14 (.take 15 (.take 16 (.take 17 (.take 18 (.take 19 .done)))))))))))))))))))) (fun u => u.cell? ⟨br, j, none⟩ = some (.bool true)) (by kernel_rfl) (by kernel_rfl) rfl (by kernel_rfl) Hwv.out ?_
                  repeat (first | (refine t_off rfl rfl ?_; simp only [List.getElem_toArray, List.getElem_cons_succ, List.getElem_cons_zero, Act.put, Act.eval, List.setIfInBounds_toArray, List.set_cons_zero, List.set_cons_succ, Array.getD_eq_getD_getElem?, List.getElem?_toArray, List.getElem?_cons_succ, List.getElem?_cons_zero, Option.getD_some]) | (refine t_move rfl _ rfl rfl ?_; simp only [List.getElem_toArray, List.getElem_cons_succ, List.getElem_cons_zero, Act.put, Act.eval, List.setIfInBounds_toArray, List.set_cons_zero, List.set_cons_succ, Array.getD_eq_getD_getElem?, List.getElem?_toArray, List.getElem?_cons_succ, List.getElem?_cons_zero, Option.getD_some]) | (refine t_assign rfl _ rfl rfl ?_; simp only [List.getElem_toArray, List.getElem_cons_succ, List.getElem_cons_zero, Act.put, Act.eval, List.setIfInBounds_toArray, List.set_cons_zero, List.set_cons_succ, Array.getD_eq_getD_getElem?, List.getElem?_toArray, List.getElem?_cons_succ, List.getElem?_cons_zero, Option.getD_some]) | (refine t_val rfl rfl ?_; apply Exists.intro; refine ⟨fun w' hC' => ?_, ?_⟩; (have hc1 := hC'; go_simp; (first | done | exact rfl)); simp only [List.getElem_toArray, List.getElem_cons_succ, List.getElem_cons_zero, Act.put, Act.eval, List.setIfInBounds_toArray, List.set_cons_zero, List.set_cons_succ, Array.getD_eq_getD_getElem?, List.getElem?_toArray, List.getElem?_cons_succ, List.getElem?_cons_zero, Option.getD_some]) | (refine p_off rfl rfl ?_; simp only [List.getElem_toArray, List.getElem_cons_succ, List.getElem_cons_zero, Act.put, Act.eval, List.setIfInBounds_toArray, List.set_cons_zero, List.set_cons_succ, Array.getD_eq_getD_getElem?, List.getElem?_toArray, List.getElem?_cons_succ, List.getElem?_cons_zero, Option.getD_some]) | (refine p_val rfl rfl ?_; apply Exists.intro; refine ⟨fun w' => ?_, ?_⟩; (go_simp; (first | done | exact rfl)); simp only [List.getElem_toArray, List.getElem_cons_succ, List.getElem_cons_zero, Act.put, Act.eval, List.setIfInBounds_toArray, List.set_cons_zero, List.set_cons_succ, Array.getD_eq_getD_getElem?, List.getElem?_toArray, List.getElem?_cons_succ, List.getElem?_cons_zero, Option.getD_some]))
                  refine t_done ?_
                  clear Hwv HS2 HS
                  generalize wr.drew = wd at *
                  go_wp2
                  go_round
                  case rel => exact ⟨j + 1, by omega, by go_num, HL9.out⟩
                  case measure => simp [intOf]; omega
              · obtain rfl : j = 6 := by omega
                go_wp2
                go_ret
                exact ⟨rfl, HL8.out.bel⟩

set_option maxRecDepth 100000 in
set_option maxHeartbeats 1600000 in
theorem law_dkp (v v2 : Value) (L M : List (OpM × Value)) (w : World) (hL : OpsR w v L) (hM : OpsR w v2 M) :
    Calls Try.prog 4 #[v, v2] w fun e w' => e = .returned (.bool true) ∧ Below w.heap.size w w' := by
  cases hf : fewB L with
  | true =>
    cases hf2 : fewB M with
    | true => exact law_dkp_yes v v2 L M w hL hf hM hf2
    | false =>
      obtain ⟨adl, cl, rfl, _⟩ := hL.r
      obtain ⟨adm, cm, rfl, _⟩ := hM.r
      have HL := Lib.hid hL
      have HM := Lib.hid hM
      clear hL hM
      go_enter Try.func4, Try.ntmps4
      go_wp2_with fail
      refine (dawake_any w).mono ?_
      rintro _ w1 ⟨rfl, hb1⟩
      have HB1 := Lib.hid hb1
      clear hb1
      go_wp2_with fail
      have hc := few_any _ L w1 (HL.out.below HB1.out)
      rw [hf] at hc
      refine hc.mono ?_
      rintro _ w2 ⟨rfl, rfl⟩
      clear hc hf
      go_wp2_with fail
      have hc := few_any _ M w1 (HM.out.below HB1.out)
      rw [hf2] at hc
      refine hc.mono ?_
      rintro _ w2 ⟨rfl, rfl⟩
      clear hc hf2
      go_wp2_with fail
      refine (dawake_any _).mono ?_
      rintro _ w3 ⟨rfl, hb3⟩
      have HB3 := Lib.hid (bt HB1.out hb3)
      clear hb3
      go_wp2
      go_ret
      exact ⟨rfl, HB3.out⟩
  | false =>
    obtain ⟨adl, cl, rfl, _⟩ := hL.r
    have HL := Lib.hid hL
    clear hL
    go_enter Try.func4, Try.ntmps4
    go_wp2_with fail
    refine (dawake_any w).mono ?_
    rintro _ w1 ⟨rfl, hb1⟩
    have HB1 := Lib.hid hb1
    clear hb1
    go_wp2_with fail
    have hc := few_any _ L w1 (HL.out.below HB1.out)
    rw [hf] at hc
    refine hc.mono ?_
    rintro _ w2 ⟨rfl, rfl⟩
    clear hc hf
    go_wp2_with fail
    refine (dawake_any _).mono ?_
    rintro _ w3 ⟨rfl, hb3⟩
    have HB3 := Lib.hid (bt HB1.out hb3)
    clear hb3
    go_wp2
    go_ret
    exact ⟨rfl, HB3.out⟩
end Go.Proofs.Ytjedlcfeobhjnaa
