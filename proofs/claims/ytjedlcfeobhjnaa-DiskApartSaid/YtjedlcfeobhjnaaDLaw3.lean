/- The law DiskApart returns true. Conditions: the slice reads as operations. -/
import Derived.Test.YtjedlcfeobhjnaaPlay
import Derived.Test.YtjedlcfeobhjnaaState
import Derived.Test.YtjedlcfeobhjnaaRNew
set_option linter.unusedSimpArgs false
set_option linter.unusedVariables false
namespace Go.Proofs.Ytjedlcfeobhjnaa
open Go.RowKit Go.ChangeMaps

/-- The other disk, apart. -/
structure QAt (w0 w : World) (p q : DP) (bw : Nat) : Prop where
  d : DAt w w0.heap.size q 6 (newD 6)
  ne : ∀ b, p.has b → ¬ q.has b
  nb : ¬ q.has bw
theorem QAt.kept {w0 w u : World} {p p' q : DP} {bw : Nat} (h : QAt w0 w p q bw) {X : Nat → Prop} (hk : Kb X w u) (hX : ∀ b, q.has b → ¬ X b) (hp : ∀ b, p'.has b → p.has b ∨ w.heap.size ≤ b) : QAt w0 u p' q bw :=
  ⟨h.d.kb hk hX, fun b h1 h2 => by
    rcases hp b h1 with h3 | h3
    · exact h.ne b h3 h2
    · have := h.d.has_lt b h2; omega, h.nb⟩
def Loop3 (w0 wr : World) (PB QB bw m : Nat) : Prop := ∃ p q D a b c, p.B = PB ∧ q.B = QB ∧ LP w0 wr p bw 6 D a b c m ∧ QAt w0 wr p q bw
/-- The first bytes of six rows of 64 cells. -/
def SRow (w : World) (g : Nat) : Prop := ∀ i : Nat, i < 6 → (∃ x : Int, w.cell? ⟨g, i * 64, none⟩ = some (.int .u8 x)) ∧ w.frozen? ⟨g, i * 64, none⟩ = false
theorem SRow.made {w : World} {base : Nat} {v : Value} {T : List Sec} (h : Own w base v 6 64 (flat av T)) (hT : T.length = 6) : ∃ g c, v = .slice (some ⟨g, 0, none⟩) 6 c ∧ base ≤ g ∧ g < w.heap.size ∧ SRow w g := by
  have h0 := h
  obtain ⟨g, cap, hv, hb, hc, hm, _, hr, hk⟩ := h
  refine ⟨g, cap, hv, hb, readAt_lt hr, fun i hi => ⟨?_, ?_⟩⟩
  · obtain ⟨b, o, c, e, _, _, h1⟩ := h0.rd.at i hi
    rw [flat_get av 64 size_av T i (by omega)] at h1
    rw [hv] at e
    simp only [Value.slice.injEq, Option.some.injEq, Addr.mk.injEq, true_and, and_true] at e
    obtain ⟨⟨rfl, rfl⟩, rfl⟩ := e
    have h2 := readAt_cell h1 0 (.int .u8 ((T[i]'(by omega))[0].toNat : Int)) (by simp [av, B8])
    rw [Nat.zero_add, Nat.add_zero] at h2
    exact ⟨_, h2⟩
  · have := canAt_cell hk (i * 64)
    rwa [Nat.zero_add] at this
theorem SRow.set {w : World} {g : Nat} (h : SRow w g) (k : Nat) (hk : k < 6) (x : Int) : SRow (w.setCell ⟨g, k * 64, none⟩ (.int .u8 x)) g := by
  intro i hi
  refine ⟨?_, ?_⟩
  · obtain ⟨y, hy⟩ := (h i hi).1
    by_cases e : i = k
    · subst e; exact ⟨x, by simp [go_sem, hy]⟩
    · exact ⟨y, by simp [go_sem, hy, e, Ne.symm e]⟩
  simpa [go_sem] using (h i hi).2
structure L3At (w0 w : World) (p q : DP) (bw g : Nat) (D : DM) (a b c : Value) : Prop where
  bel : Below w0.heap.size w0 w
  d : DAt w w0.heap.size p 6 D
  r : RAt w (fun x => p.has x ∨ x = bw ∨ x = g) 6 D a b c
  box : C5 w bw a b (.bool D.down) (.int .i64 D.steps) c
  qa : QAt w0 w p q bw
  s : SRow w g
  pg : ¬ p.has g
  qg : ¬ q.has g
  bg : bw ≠ g
  lo : w0.heap.size ≤ g
theorem L3At.set {w0 w : World} {p q : DP} {bw g : Nat} {D : DM} {a b c : Value} (h : L3At w0 w p q bw g D a b c) (k : Nat) (hk : k < 6) (x : Int) : L3At w0 (w.setCell ⟨g, k * 64, none⟩ (.int .u8 x)) p q bw g D a b c := by
  have hK : Kb (fun b => b = g) w (w.setCell ⟨g, k * 64, none⟩ (.int .u8 x)) := (Kb.refl _ _).setC _ _ rfl
  refine ⟨h.bel.trans (hK.below (fun b hb => by subst hb; exact h.lo) h.bel.size), h.d.kb hK (fun b h1 h2 => h.pg (h2 ▸ h1)), ?_, h.box.kb hK h.bg, h.qa.kept hK (fun b h1 h2 => h.qg (h2 ▸ h1)) (fun b hb => .inl hb), h.s.set k hk x, h.pg, h.qg, h.bg, h.lo⟩
  exact h.r.kb ⟨hK.os, hK.tape, hK.output, hK.size, fun b h1 h2 => hK.block b h1 (fun e => h2 (.inr (.inr e)))⟩ (fun b hb => .inl hb)
theorem L3At.below {w0 w u : World} {p q : DP} {bw g : Nat} {D : DM} {a b c : Value} (h : L3At w0 w p q bw g D a b c) (hb : Below w.heap.size w u) (hs : SRow u g) : L3At w0 u p q bw g D a b c :=
  ⟨h.bel.trans (hb.mono h.bel.size), h.d.below hb, h.r.below hb, h.box.below hb, h.qa.kept (X := fun _ => False) (Kb.of_below hb) (fun _ _ h => h) (fun b hb => .inl hb), hs, h.pg, h.qg, h.bg, h.lo⟩
def Loop4 (w0 wr : World) (PB QB bw g : Nat) (D : DM) (a b c : Value) : Prop := ∃ p q, p.B = PB ∧ q.B = QB ∧ L3At w0 wr p q bw g D a b c

set_option maxRecDepth 100000 in
set_option maxHeartbeats 6400000 in
theorem law_dap_yes (v : Value) (L : List (OpM × Value)) (w : World) (hL : OpsR w v L) (hf : fewB L = true) :
    Calls Try.prog 6 #[v] w fun e w' => e = .returned (.bool true) ∧ Below w.heap.size w w' := by
  have hfew : L.length ≤ 100 := by
    unfold fewB at hf
    simp only [Bool.and_eq_true, decide_eq_true_eq] at hf
    exact hf.2
  obtain ⟨adl, cl, rfl, _⟩ := hL.r
  have HL := Lib.hid hL
  have Hfew := Lib.hid hfew
  have HF := Lib.hid hf
  have HLlt : Hid (∀ g, (Value.slice adl L.length cl).ownBlock = some g → 0 < L.length → g < w.heap.size) := fun g hg h0 => HL.out.r.lt h0 g hg
  clear hL hfew
  go_enter Try.func6, Try.ntmps6
  go_wp2_with fail
  refine (dawake_any w).mono ?_
  rintro _ w1 ⟨rfl, hb1⟩
  have HB1 := Lib.hid hb1
  have hL1 := HL.out.below hb1
  clear hb1
  go_wp2_with fail
  have hc := few_any _ L w1 hL1
  rw [hf] at hc
  refine hc.mono ?_
  rintro _ w2 ⟨rfl, rfl⟩
  clear hc hL1 hf
  go_wp2_with fail
  refine (new_any w1 6 (by omega)).mono ?_
  rintro _ w2 ⟨⟨p, rfl, hA⟩, hb2⟩
  have HA2 : Hid (DAt w2 w1.heap.size p 6 (newD 6)) := hA
  have HB2 := Lib.hid (bt HB1.out hb2)
  clear hA hb2
  go_wp2_with fail
  refine (new_any w2 6 (by omega)).mono ?_
  rintro _ w3 ⟨⟨q, rfl, hA⟩, hb3⟩
  have HE3 : Hid (DAt w3 w2.heap.size q 6 (newD 6)) := hA
  have HA3 : Hid (DAt w3 w.heap.size p 6 (newD 6)) := (HA2.out.below hb3).base HB1.out.size
  have HB3 := Lib.hid (bt HB2.out hb3)
  have Hne : Hid (∀ b, p.has b → ¬ q.has b) := fun b h1 h2 => by
    have h3 := HA2.out.has_lt b h1
    have h4 := HE3.out.ok.lo b h2
    omega
  have HE3b : Hid (DAt w3 w.heap.size q 6 (newD 6)) := HE3.out.base HB2.out.size
  clear hA hb3 HA2 HB2 HB1 HE3
  go_wp2_with fail
  refine (rdnew_any w3 p.has HA3.out.has_lt 6 (by omega)).mono ?_
  rintro _ w4 ⟨⟨v, rfl, a, b, c, rfl, hR⟩, hb4⟩
  obtain ⟨bl, ol, cl1, ad2, ad3, c2, c3, rfl, rfl, rfl⟩ := hR.open_
  have HA4 : Hid (DAt w4 w.heap.size p (6 : Int).toNat (newD 6)) := HA3.out.below hb4
  have HE4 := Lib.hid (HE3b.out.below hb4)
  have HR4 := Lib.hid hR
  have HB4 := Lib.hid (bt HB3.out hb4)
  clear hR hb4 HA3 HE3b HB3
  unfold rV
  go_wp2_with fail
  have hl0 := LP.start HA4.out HR4.out HB4.out (by omega)
  have hq0 : QAt w (w4.alloc (.cells #[.slice (some ⟨bl, ol, none⟩) (6 : Int).toNat cl1, .slice ad2 (newD 6).op.length c2, .bool (newD 6).down, .int .i64 (newD 6).steps, .slice ad3 (newD 6).plan.length c3] 46)) p q w4.heap.size :=
    ⟨HE4.out.below (ba _ (Below.refl _ _)), Hne.out, fun hx => by have := HE4.out.has_lt _ hx; omega⟩
  have HLP0 : Hid (Loop3 w _ p.B q.B w4.heap.size 0) := ⟨p, q, _, _, _, _, rfl, rfl, hl0, hq0⟩
  clear hl0 hq0 HA4 HE4 HR4 HB4 Hne
  generalize p.B = PB at *
  generalize q.B = QB at *
  generalize w4.heap.size = bw at *
  have HN : Hid (6 ≤ 5000) := by (show _ ≤ _; omega)
  go_loopw [6] (fun i wr => ∃ j : Nat, j ≤ L.length ∧ i = .int .i64 j ∧ Loop3 w wr PB QB bw (2 * j)) (fun i _ => L.length - (intOf i).toNat)
  case atStart => exact ⟨0, Nat.zero_le _, rfl, HLP0.out⟩
  case round =>
    obtain ⟨j, hj, rfl, p, q, D, a, b, c, rfl, rfl, hlp, hqa⟩ := hrel
    have HLP := Lib.hid hlp
    have HQ := Lib.hid hqa
    have hfew := Hfew.out
    clear hlp HLP0 hqa
    by_cases hlt : j < L.length
    · obtain ⟨z, hz⟩ : ∃ z, L[j]'hlt = z := ⟨_, rfl⟩
      have hLr := HL.out.below HLP.out.both.bel
      have Hzok : Hid (OpOk w z) := HL.out.o _ (hz ▸ List.getElem_mem hlt)
      have HzF : Hid (okO z.1 = true) := few_at HF.out (hz ▸ List.getElem_mem hlt)
      obtain ⟨bo, oo, co, ad2o, cap2o, hv, _, _, hr, _⟩ := hLr.cell j hlt
      simp only [Value.slice.injEq, true_and] at hv
      obtain ⟨rfl, rfl⟩ := hv
      rw [hz] at hr
      have HrO := Lib.hid hr
      have hk0 : (0 : Int) ≤ (j : Int) := by omega
      have hk1 : (j : Int) < (L.length : Int) := by omega
      obtain ⟨bl, ol, cl1, ad2, ad3, c2, c3, rfl, rfl, rfl⟩ := HLP.out.both.r.open_
      have HS : Hid (∀ u : World, (readAt u bw 0 5 = some #[.slice (some ⟨bl, ol, none⟩) 6 cl1, .slice ad2 D.op.length c2, .bool D.down, .int .i64 D.steps, .slice ad3 D.plan.length c3] ∧ readAt u bo (oo + j * 4) 4 = some (oc z)) → u.cell? ⟨bw, 0, none⟩ = some (.slice (some ⟨bl, ol, none⟩) 6 cl1) ∧ u.cell? ⟨bw, 1, none⟩ = some (.slice ad2 D.op.length c2) ∧ u.cell? ⟨bw, 2, none⟩ = some (.bool D.down) ∧ u.cell? ⟨bw, 3, none⟩ = some (.int .i64 D.steps) ∧ u.cell? ⟨bw, 4, none⟩ = some (.slice ad3 D.plan.length c3) ∧
          u.cell? ⟨bo, oo + j * 4, none⟩ = some (.int .i64 z.1.kind) ∧ u.cell? ⟨bo, oo + j * 4 + 1, none⟩ = some (.int .i64 z.1.at_) ∧ u.cell? ⟨bo, oo + j * 4 + 2, none⟩ = some (.int .u8 (z.1.byte.toNat : Int)) ∧ u.cell? ⟨bo, oo + j * 4 + 3, none⟩ = some z.2) := fun u hu => by
        have hc := fun i v hv => readAt_cell hu.1 i v hv
        have hd := fun i v hv => readAt_cell hu.2 i v hv
        simp only [Nat.zero_add] at hc
        exact ⟨hc 0 _ rfl, hc 1 _ rfl, hc 2 _ rfl, hc 3 _ rfl, hc 4 _ rfl, hd 0 _ rfl, hd 1 _ rfl, hd 2 _ rfl, hd 3 _ rfl⟩
      clear hr hLr hz
      go_upto_region 11 with fail
      refine wp_region_tr (.take 0 (.take 1 (.take 2 (.take 3 (.take 4 (.take 5 (.run 6 (.take 7 (.take 8 (.pure 9 (.brk 10 .done))))))))))) (fun u => readAt u bw 0 5 = some #[.slice (some ⟨bl, ol, none⟩) 6 cl1, .slice ad2 D.op.length c2, .bool D.down, .int .i64 D.steps, .slice ad3 D.plan.length c3] ∧ readAt u bo (oo + j * 4) 4 = some (oc z)) (by kernel_rfl) (by kernel_rfl) rfl (by kernel_rfl) ⟨HLP.out.box.r, HrO.out⟩ ?_
      have hb := (Below.refl wr.heap.size wr).drew
      have HLP1 := Lib.hid (HLP.out.below hb)
      have HrO1 := Lib.hid ((readAt_below hb (readAt_lt HrO.out) _ _).trans HrO.out)
      have Hbd := Lib.hid hb
      clear hb HLP HrO
      generalize wr.drew = wd at *
      repeat (first | (refine t_off rfl rfl ?_; simp only [List.getElem_toArray, List.getElem_cons_succ, List.getElem_cons_zero, Act.put, Act.eval, List.setIfInBounds_toArray, List.set_cons_zero, List.set_cons_succ, Array.getD_eq_getD_getElem?, List.getElem?_toArray, List.getElem?_cons_succ, List.getElem?_cons_zero, Option.getD_some]) | (refine t_move rfl _ rfl rfl ?_; simp only [List.getElem_toArray, List.getElem_cons_succ, List.getElem_cons_zero, Act.put, Act.eval, List.setIfInBounds_toArray, List.set_cons_zero, List.set_cons_succ, Array.getD_eq_getD_getElem?, List.getElem?_toArray, List.getElem?_cons_succ, List.getElem?_cons_zero, Option.getD_some]) | (refine t_assign rfl _ rfl rfl ?_; simp only [List.getElem_toArray, List.getElem_cons_succ, List.getElem_cons_zero, Act.put, Act.eval, List.setIfInBounds_toArray, List.set_cons_zero, List.set_cons_succ, Array.getD_eq_getD_getElem?, List.getElem?_toArray, List.getElem?_cons_succ, List.getElem?_cons_zero, Option.getD_some]) | (refine t_val rfl rfl ?_; apply Exists.intro; refine ⟨fun w' hC' => ?_, ?_⟩; (obtain ⟨b0, b1, b2, b3, b4, q0, q1, q2, q3⟩ := HS.out w' hC'; go_simp; (first | done | exact rfl)); simp only [List.getElem_toArray, List.getElem_cons_succ, List.getElem_cons_zero, Act.put, Act.eval, List.setIfInBounds_toArray, List.set_cons_zero, List.set_cons_succ, Array.getD_eq_getD_getElem?, List.getElem?_toArray, List.getElem?_cons_succ, List.getElem?_cons_zero, Option.getD_some]) | (refine p_off rfl rfl ?_; simp only [List.getElem_toArray, List.getElem_cons_succ, List.getElem_cons_zero, Act.put, Act.eval, List.setIfInBounds_toArray, List.set_cons_zero, List.set_cons_succ, Array.getD_eq_getD_getElem?, List.getElem?_toArray, List.getElem?_cons_succ, List.getElem?_cons_zero, Option.getD_some]) | (refine p_val rfl rfl ?_; apply Exists.intro; refine ⟨fun w' => ?_, ?_⟩; (go_simp; (first | done | exact rfl)); simp only [List.getElem_toArray, List.getElem_cons_succ, List.getElem_cons_zero, Act.put, Act.eval, List.setIfInBounds_toArray, List.set_cons_zero, List.set_cons_succ, Array.getD_eq_getD_getElem?, List.getElem?_toArray, List.getElem?_cons_succ, List.getElem?_cons_zero, Option.getD_some]))
      refine r_call rfl rfl ?_; apply Exists.intro; apply Exists.intro; refine ⟨?_, ?_⟩; (go_simp; exact ⟨rfl, rfl⟩)
      refine (play_any (fun x => x = bw) w wd p 6 (2 * j) D _ _ _ z HLP1.out.both HLP1.out.ok (by omega) HN.out (by have := HLP1.out.pl; omega) Hzok.out HzF.out).mono ?_
      rintro _ u1 hN
      obtain ⟨p2, bl2, ol2, cl2, ad22, c22, ad32, c32, rfl, hB2, hK2, hh2, hbox, hLP⟩ := HLP1.out.played hN
      have hrO : readAt u1 bo (oo + j * 4) 4 = some (oc z) := (rd_same (hK2.block _ (readAt_lt HrO1.out) (fun hx => by have h1 := HLP1.out.both.d.ok.lo _ hx; have h2 := HLlt.out; have h3 : bo < w.heap.size := h2 _ rfl (by omega); omega)) _ _).trans HrO1.out
      obtain ⟨D2, hD2⟩ : ∃ D2, playD D z.1 = D2 := ⟨_, rfl⟩
      rw [hD2] at hLP
      simp only [hD2]
      refine ⟨_, rfl, _, fun _ h => h, ⟨hbox.r, hrO⟩, ?_⟩; simp only [List.getElem_toArray, List.getElem_cons_succ, List.getElem_cons_zero, Act.put, Act.eval, List.setIfInBounds_toArray, List.set_cons_zero, List.set_cons_succ, Array.getD_eq_getD_getElem?, List.getElem?_toArray, List.getElem?_cons_succ, List.getElem?_cons_zero, Option.getD_some]
      clear hrO
      have HD2 := Lib.hid hD2
      have HB2p := Lib.hid hB2
      have HK2 := Lib.hid hK2
      have Hh2 := Lib.hid hh2
      have Hbox := Lib.hid hbox
      have HLP2 := Lib.hid hLP
      clear hN hD2 hB2 hK2 hh2 hbox hLP
      repeat (first | (refine t_off rfl rfl ?_; simp only [List.getElem_toArray, List.getElem_cons_succ, List.getElem_cons_zero, Act.put, Act.eval, List.setIfInBounds_toArray, List.set_cons_zero, List.set_cons_succ, Array.getD_eq_getD_getElem?, List.getElem?_toArray, List.getElem?_cons_succ, List.getElem?_cons_zero, Option.getD_some]) | (refine t_move rfl _ rfl rfl ?_; simp only [List.getElem_toArray, List.getElem_cons_succ, List.getElem_cons_zero, Act.put, Act.eval, List.setIfInBounds_toArray, List.set_cons_zero, List.set_cons_succ, Array.getD_eq_getD_getElem?, List.getElem?_toArray, List.getElem?_cons_succ, List.getElem?_cons_zero, Option.getD_some]) | (refine t_assign rfl _ rfl rfl ?_; simp only [List.getElem_toArray, List.getElem_cons_succ, List.getElem_cons_zero, Act.put, Act.eval, List.setIfInBounds_toArray, List.set_cons_zero, List.set_cons_succ, Array.getD_eq_getD_getElem?, List.getElem?_toArray, List.getElem?_cons_succ, List.getElem?_cons_zero, Option.getD_some]) | (refine t_val rfl rfl ?_; apply Exists.intro; refine ⟨fun w' hC' => ?_, ?_⟩; (obtain ⟨b0, b1, b2, b3, b4, q0, q1, q2, q3⟩ := HS.out w' hC'; go_simp; (first | done | exact rfl)); simp only [List.getElem_toArray, List.getElem_cons_succ, List.getElem_cons_zero, Act.put, Act.eval, List.setIfInBounds_toArray, List.set_cons_zero, List.set_cons_succ, Array.getD_eq_getD_getElem?, List.getElem?_toArray, List.getElem?_cons_succ, List.getElem?_cons_zero, Option.getD_some]) | (refine p_off rfl rfl ?_; simp only [List.getElem_toArray, List.getElem_cons_succ, List.getElem_cons_zero, Act.put, Act.eval, List.setIfInBounds_toArray, List.set_cons_zero, List.set_cons_succ, Array.getD_eq_getD_getElem?, List.getElem?_toArray, List.getElem?_cons_succ, List.getElem?_cons_zero, Option.getD_some]) | (refine p_val rfl rfl ?_; apply Exists.intro; refine ⟨fun w' => ?_, ?_⟩; (go_simp; (first | done | exact rfl)); simp only [List.getElem_toArray, List.getElem_cons_succ, List.getElem_cons_zero, Act.put, Act.eval, List.setIfInBounds_toArray, List.set_cons_zero, List.set_cons_succ, Array.getD_eq_getD_getElem?, List.getElem?_toArray, List.getElem?_cons_succ, List.getElem?_cons_zero, Option.getD_some]))
      obtain ⟨e0, e1, e2, e3, e4⟩ := Hbox.out.free
      obtain ⟨b0, b1, b2, b3, b4⟩ := Hbox.out.cells
      refine b_any rfl rfl (fun K hK => ?_)
      go_simp
      refine hK _ _ (fun _ => True) trivial ?_
      clear hK K e0 e1 e2 e3 e4 b0 b1 b2 b3 b4
      try simp only [List.getElem_toArray, List.getElem_cons_succ, List.getElem_cons_zero, Act.put, Act.eval, List.setIfInBounds_toArray, List.set_cons_zero, List.set_cons_succ, Array.getD_eq_getD_getElem?, List.getElem?_toArray, List.getElem?_cons_succ, List.getElem?_cons_zero, Option.getD_some]
      repeat (first | (refine t_off rfl rfl ?_; simp only [List.getElem_toArray, List.getElem_cons_succ, List.getElem_cons_zero, Act.put, Act.eval, List.setIfInBounds_toArray, List.set_cons_zero, List.set_cons_succ, Array.getD_eq_getD_getElem?, List.getElem?_toArray, List.getElem?_cons_succ, List.getElem?_cons_zero, Option.getD_some]) | (refine t_move rfl _ rfl rfl ?_; simp only [List.getElem_toArray, List.getElem_cons_succ, List.getElem_cons_zero, Act.put, Act.eval, List.setIfInBounds_toArray, List.set_cons_zero, List.set_cons_succ, Array.getD_eq_getD_getElem?, List.getElem?_toArray, List.getElem?_cons_succ, List.getElem?_cons_zero, Option.getD_some]) | (refine t_assign rfl _ rfl rfl ?_; simp only [List.getElem_toArray, List.getElem_cons_succ, List.getElem_cons_zero, Act.put, Act.eval, List.setIfInBounds_toArray, List.set_cons_zero, List.set_cons_succ, Array.getD_eq_getD_getElem?, List.getElem?_toArray, List.getElem?_cons_succ, List.getElem?_cons_zero, Option.getD_some]) | (refine t_val rfl rfl ?_; apply Exists.intro; refine ⟨fun w' hC' => ?_, ?_⟩; (skip; go_simp; (first | done | exact rfl)); simp only [List.getElem_toArray, List.getElem_cons_succ, List.getElem_cons_zero, Act.put, Act.eval, List.setIfInBounds_toArray, List.set_cons_zero, List.set_cons_succ, Array.getD_eq_getD_getElem?, List.getElem?_toArray, List.getElem?_cons_succ, List.getElem?_cons_zero, Option.getD_some]) | (refine p_off rfl rfl ?_; simp only [List.getElem_toArray, List.getElem_cons_succ, List.getElem_cons_zero, Act.put, Act.eval, List.setIfInBounds_toArray, List.set_cons_zero, List.set_cons_succ, Array.getD_eq_getD_getElem?, List.getElem?_toArray, List.getElem?_cons_succ, List.getElem?_cons_zero, Option.getD_some]) | (refine p_val rfl rfl ?_; apply Exists.intro; refine ⟨fun w' => ?_, ?_⟩; (go_simp; (first | done | exact rfl)); simp only [List.getElem_toArray, List.getElem_cons_succ, List.getElem_cons_zero, Act.put, Act.eval, List.setIfInBounds_toArray, List.set_cons_zero, List.set_cons_succ, Array.getD_eq_getD_getElem?, List.getElem?_toArray, List.getElem?_cons_succ, List.getElem?_cons_zero, Option.getD_some]))
      refine t_done ?_
      have hkP := put5_kb (Z := fun x => x = bw) u1 bw (.slice (some ⟨bl2, ol2, none⟩) 6 cl2) (.slice ad22 D2.op.length c22) (.bool D2.down) (.int .i64 D2.steps) (.slice ad32 D2.plan.length c32) rfl
      have hLP := HLP2.out
      clear HLP2
      unfold put5 at hkP hLP
      have HkP := Lib.hid hkP
      have HLP := Lib.hid hLP
      clear hkP hLP HLP1 Hbox
      generalize ((((u1.setCell ⟨bw, 0, none⟩ (.slice (some ⟨bl2, ol2, none⟩) 6 cl2)).setCell ⟨bw, 1, none⟩ (.slice ad22 D2.op.length c22)).setCell ⟨bw, 2, none⟩ (.bool D2.down)).setCell ⟨bw, 3, none⟩ (.int .i64 D2.steps)).setCell ⟨bw, 4, none⟩ (.slice ad32 D2.plan.length c32) = wp at *
      clear HS HzF Hzok HrO1
      have hQ1 := HQ.out.kept (p' := p) (X := fun _ => False) (Kb.of_below Hbd.out) (fun _ _ h => h) (fun b hb => .inl hb)
      have hQ2 := hQ1.kept (p' := p2) HK2.out (fun b h1 h2 => HQ.out.ne b h2 h1) Hh2.out
      have hQ3 := hQ2.kept (p' := p2) HkP.out (fun b h1 h2 => HQ.out.nb (h2 ▸ h1)) (fun b hb => .inl hb)
      have HQ3 := Lib.hid hQ3
      clear hQ1 hQ2 hQ3 HQ
      go_wp2
      go_round
      case rel => exact ⟨j + 1, by omega, by go_num, p2, q, D2, _, _, _, HB2p.out, rfl, HLP.out, HQ3.out⟩
      case measure => simp [intOf]; omega
    · obtain rfl : j = L.length := by omega
      go_wp2_with fail
      refine (stable_any wr HLP.out.both.d HLP.out.ok.len (by omega)).mono ?_
      rintro _ u1 ⟨⟨vs, rfl, ho⟩, hb⟩
      obtain ⟨g, cg, rfl, hg1, hg2, hs⟩ := SRow.made ho HLP.out.ok.len
      obtain ⟨bl, ol, cl1, ad2, ad3, c2, c3, rfl, rfl, rfl⟩ := HLP.out.both.r.open_
      have hl3 : L3At w u1 p q bw g D (.slice (some ⟨bl, ol, none⟩) 6 cl1) (.slice ad2 D.op.length c2) (.slice ad3 D.plan.length c3) := by
        have h1 := HLP.out.below hb
        have h2 := HQ.out.kept (p' := p) (X := fun _ => False) (Kb.of_below hb) (fun _ _ h => h) (fun b hb => .inl hb)
        refine ⟨h1.both.bel, h1.both.d, HLP.out.both.r.kb (Kb.of_below hb) (fun b hb1 => ?_), h1.box, h2, hs, fun hx => ?_, fun hx => ?_, fun e => ?_, Nat.le_trans HLP.out.both.bel.size hg1⟩
        · rcases hb1 with hb1 | hb1 | hb1
          · exact .inl (.inl hb1)
          · exact .inl (.inr hb1)
          · exact .inr (hb1 ▸ hg1)
        · have := HLP.out.both.d.has_lt g hx; omega
        · have := HQ.out.d.has_lt g hx; omega
        · have := HLP.out.box.lt; omega
      have HL4 : Hid (Loop4 w u1 p.B q.B bw g D (.slice (some ⟨bl, ol, none⟩) 6 cl1) (.slice ad2 D.op.length c2) (.slice ad3 D.plan.length c3)) := ⟨p, q, rfl, rfl, hl3⟩
      have HOk := Lib.hid HLP.out.ok
      clear ho hb hg1 hg2 hs hl3 HLP HQ
      generalize p.B = PB at *
      generalize q.B = QB at *
      go_wp2_with fail
      go_loopw [8] (fun i wr => ∃ j : Nat, j ≤ 6 ∧ i = .int .i64 j ∧ Loop4 w wr PB QB bw g D (.slice (some ⟨bl, ol, none⟩) 6 cl1) (.slice ad2 D.op.length c2) (.slice ad3 D.plan.length c3)) (fun i _ => 6 - (intOf i).toNat)
      case atStart => exact ⟨0, Nat.zero_le _, rfl, HL4.out⟩
      case round =>
        obtain ⟨j, hj, rfl, p, q, rfl, rfl, hl⟩ := hrel
        have HL5 := Lib.hid hl
        clear hl HL4
        by_cases hlt : j < 6
        · obtain ⟨⟨x, hx⟩, hfr⟩ := HL5.out.s j hlt
          have Hx := Lib.hid hx
          have hk0 : (0 : Int) ≤ (j : Int) := by omega
          have hk1 : (j : Int) < 6 := by omega
          clear hx hfr
          go_upto_region 16 with fail
          refine wp_region_tr (.take 0 (.take 1 (.take 2 (.take 3 (.take 4 (.take 5 (.take 6 (.take 7 (.brk 8 .done))))))))) (fun u => u.cell? ⟨g, j * 64, none⟩ = some (.int .u8 x)) (by kernel_rfl) (by kernel_rfl) rfl (by kernel_rfl) Hx.out ?_
          have hb := (Below.refl wr.heap.size wr).drew
          have HL6 : Hid (L3At w wr.drew p q bw g D (.slice (some ⟨bl, ol, none⟩) 6 cl1) (.slice ad2 D.op.length c2) (.slice ad3 D.plan.length c3)) := HL5.out.below hb HL5.out.s
          clear hb HL5
          have HcX : Hid (wr.drew.cell? ⟨g, j * 64, none⟩ = some (.int .u8 x)) := Hx.out
          clear Hx
          generalize wr.drew = wd at *
          repeat (first | (refine t_off rfl rfl ?_; simp only [List.getElem_toArray, List.getElem_cons_succ, List.getElem_cons_zero, Act.put, Act.eval, List.setIfInBounds_toArray, List.set_cons_zero, List.set_cons_succ, Array.getD_eq_getD_getElem?, List.getElem?_toArray, List.getElem?_cons_succ, List.getElem?_cons_zero, Option.getD_some]) | (refine t_move rfl _ rfl rfl ?_; simp only [List.getElem_toArray, List.getElem_cons_succ, List.getElem_cons_zero, Act.put, Act.eval, List.setIfInBounds_toArray, List.set_cons_zero, List.set_cons_succ, Array.getD_eq_getD_getElem?, List.getElem?_toArray, List.getElem?_cons_succ, List.getElem?_cons_zero, Option.getD_some]) | (refine t_assign rfl _ rfl rfl ?_; simp only [List.getElem_toArray, List.getElem_cons_succ, List.getElem_cons_zero, Act.put, Act.eval, List.setIfInBounds_toArray, List.set_cons_zero, List.set_cons_succ, Array.getD_eq_getD_getElem?, List.getElem?_toArray, List.getElem?_cons_succ, List.getElem?_cons_zero, Option.getD_some]) | (refine t_val rfl rfl ?_; apply Exists.intro; refine ⟨fun w' hC' => ?_, ?_⟩; (have hcx := hC'; go_simp; (first | done | exact rfl)); simp only [List.getElem_toArray, List.getElem_cons_succ, List.getElem_cons_zero, Act.put, Act.eval, List.setIfInBounds_toArray, List.set_cons_zero, List.set_cons_succ, Array.getD_eq_getD_getElem?, List.getElem?_toArray, List.getElem?_cons_succ, List.getElem?_cons_zero, Option.getD_some]) | (refine p_off rfl rfl ?_; simp only [List.getElem_toArray, List.getElem_cons_succ, List.getElem_cons_zero, Act.put, Act.eval, List.setIfInBounds_toArray, List.set_cons_zero, List.set_cons_succ, Array.getD_eq_getD_getElem?, List.getElem?_toArray, List.getElem?_cons_succ, List.getElem?_cons_zero, Option.getD_some]) | (refine p_val rfl rfl ?_; apply Exists.intro; refine ⟨fun w' => ?_, ?_⟩; (go_simp; (first | done | exact rfl)); simp only [List.getElem_toArray, List.getElem_cons_succ, List.getElem_cons_zero, Act.put, Act.eval, List.setIfInBounds_toArray, List.set_cons_zero, List.set_cons_succ, Array.getD_eq_getD_getElem?, List.getElem?_toArray, List.getElem?_cons_succ, List.getElem?_cons_zero, Option.getD_some]))
          have hfr := (HL6.out.s j hlt).2
          have hcx : wd.cell? ⟨g, j * 64, none⟩ = some (.int .u8 x) := HcX.out
          refine b_any rfl rfl (fun K hK => ?_)
          go_simp
          have hl7 := HL6.out.set j hlt (IntKind.u8.wrap (x + 1))
          refine hK _ _ (fun _ => True) trivial ?_
          have HL7 := Lib.hid hl7
          clear hK K hl7 hfr hcx HcX HL6
          try simp only [List.getElem_toArray, List.getElem_cons_succ, List.getElem_cons_zero, Act.put, Act.eval, List.setIfInBounds_toArray, List.set_cons_zero, List.set_cons_succ, Array.getD_eq_getD_getElem?, List.getElem?_toArray, List.getElem?_cons_succ, List.getElem?_cons_zero, Option.getD_some]
          refine t_done ?_
          go_wp2
          go_round
          case rel => exact ⟨j + 1, by omega, by go_num, p, q, rfl, rfl, HL7.out⟩
          case measure => simp [intOf]; omega
        · obtain rfl : j = 6 := by omega
          obtain ⟨b0, b1, b2, b3, b4⟩ := HL5.out.box.cells
          go_wp2_with fail
          clear b0 b1 b2 b3 b4
          have hst := state_any wr w.heap.size p _ 6 (2 * L.length) D _ _ _ HL5.out.d HL5.out.r HOk.out (by omega) (by omega)
          unfold rV at hst
          refine hst.mono ?_
          rintro _ u5 ⟨rfl, hb5⟩
          have HQ5 : Hid (DAt u5 w.heap.size q 6 (newD 6)) := HL5.out.qa.d.below hb5
          have HB5 : Hid (Below w.heap.size w u5) := HL5.out.bel.trans (hb5.mono HL5.out.bel.size)
          clear hst hb5 HL5
          go_wp2_with fail
          refine (rdnew_any u5 q.has HQ5.out.has_lt 6 (by omega)).mono ?_
          rintro _ u6 ⟨⟨v6, rfl, a6, b6, c6, rfl, hR6⟩, hb6⟩
          have HQ6 := Lib.hid (HQ5.out.below hb6)
          have HB6 : Hid (Below w.heap.size w u6) := HB5.out.trans (hb6.mono HB5.out.size)
          have HR6 := Lib.hid hR6
          clear hR6 hb6 HQ5 HB5
          go_wp2_with fail
          refine (state_any u6 w.heap.size q _ 6 0 (newD 6) _ _ _ HQ6.out HR6.out (OkD.newD 6 (by omega)) (by omega) (by omega)).mono ?_
          rintro _ u7 ⟨rfl, hb7⟩
          have HB7 : Hid (Below w.heap.size w u7) := HB6.out.trans (hb7.mono HB6.out.size)
          clear hb7
          go_wp2
          go_ret
          exact ⟨rfl, HB7.out⟩

set_option maxRecDepth 100000 in
set_option maxHeartbeats 1600000 in
theorem law_dap (v : Value) (L : List (OpM × Value)) (w : World) (hL : OpsR w v L) :
    Calls Try.prog 6 #[v] w fun e w' => e = .returned (.bool true) ∧ Below w.heap.size w w' := by
  cases hf : fewB L with
  | true => exact law_dap_yes v L w hL hf
  | false =>
    obtain ⟨adl, cl, rfl, _⟩ := hL.r
    have HL := Lib.hid hL
    clear hL
    go_enter Try.func6, Try.ntmps6
    go_wp2_with fail
    refine (dawake_any w).mono ?_
    rintro _ w1 ⟨rfl, hb1⟩
    have HB1 := Lib.hid hb1
    have hL1 := HL.out.below hb1
    clear hb1
    go_wp2_with fail
    have hc := few_any _ L w1 hL1
    rw [hf] at hc
    refine hc.mono ?_
    rintro _ w2 ⟨rfl, rfl⟩
    clear hc hL1 hf
    go_wp2_with fail
    refine (dawake_any _).mono ?_
    rintro _ w3 ⟨rfl, hb3⟩
    have HB3 := Lib.hid (bt HB1.out hb3)
    clear hb3
    go_wp2
    go_ret
    exact ⟨rfl, HB3.out⟩
end Go.Proofs.Ytjedlcfeobhjnaa
