/- The law DiskCrashes returns true. Conditions: the slices read as operations and numbers. -/
import Derived.Test.YtjedlcfeobhjnaaDCr
set_option linter.unusedSimpArgs false
set_option linter.unusedVariables false
namespace Go.Proofs.Ytjedlcfeobhjnaa
open Go.RowKit Go.ChangeMaps

set_option maxRecDepth 100000 in
set_option maxHeartbeats 6400000 in
theorem law_dcr_no (v : Value) (adc : Option Addr) (cc : Nat) (L : List (OpM × Value)) (cs : List Int) (nb : Nat) (w : World) (hL : OpsR w v L) (hn : nb ≤ 255) (hno : fewB L = false ∨ (fewB L = true ∧ 20 < cs.length)) :
    Calls Try.prog 3 #[v, .int .u8 nb, .slice adc cs.length cc] w fun e w' => e = .returned (.bool true) ∧ Below w.heap.size w w' := by
  have HL := Lib.hid hL
  clear hL
  rcases hno with hf | ⟨hf, h20⟩
  · go_enter Try.func3, Try.ntmps3
    go_wp2_with fail
    refine (dawake_any w).mono ?_
    rintro _ w1 ⟨rfl, hb1⟩
    have HB1 := Lib.hid hb1
    have hL1 := HL.out.below hb1
    clear hb1
    go_wp2_with fail
    have hc := few_any v L w1 hL1
    rw [hf] at hc
    refine hc.mono ?_
    rintro _ w2 ⟨rfl, rfl⟩
    clear hc hL1 hf
    go_wp2_with fail
    refine (dawake_any _).mono ?_
    rintro _ w3 ⟨rfl, hb3⟩
    have HB3 := Lib.hid (bt HB1.out hb3)
    clear hb3
    go_wp2
    go_ret
    exact ⟨rfl, HB3.out⟩
  · have h20' : decide ((20 : Int) < (cs.length : Int)) = true := decide_eq_true (by omega)
    go_enter Try.func3, Try.ntmps3
    go_wp2_with fail
    refine (dawake_any w).mono ?_
    rintro _ w1 ⟨rfl, hb1⟩
    have HB1 := Lib.hid hb1
    have hL1 := HL.out.below hb1
    clear hb1
    go_wp2_with fail
    have hc := few_any v L w1 hL1
    rw [hf] at hc
    refine hc.mono ?_
    rintro _ w2 ⟨rfl, rfl⟩
    clear hc hL1 hf h20
    go_wp2_with fail
    refine (dawake_any _).mono ?_
    rintro _ w3 ⟨rfl, hb3⟩
    have HB3 := Lib.hid (bt HB1.out hb3)
    clear hb3
    go_wp2
    go_ret
    exact ⟨rfl, HB3.out⟩

theorem Inv.more {K : Int} {cs : List Int} {D E : DM} {m m' : Nat} (h : Inv K cs D E m) (hm : m ≤ m') : Inv K cs D E m' := ⟨h.st, h.op, h.dd, h.de, h.s, h.pd, h.pe, h.lt, h.ok.more hm⟩
/-- What holds at the head of the loop. -/
def LRel (w0 wr : World) (PB QB : Nat) (K : Int) (cs : List Int) (k : Nat) : Prop :=
  ∃ D E p q, p.B = PB ∧ q.B = QB ∧ DAt wr w0.heap.size p 6 D ∧ DAt wr w0.heap.size q 6 E ∧ (∀ b, p.has b → ¬ q.has b) ∧ Below w0.heap.size w0 wr ∧ Inv K cs D E (2 * k)

set_option maxRecDepth 100000 in
set_option maxHeartbeats 12800000 in
theorem law_dcr_yes (v : Value) (adc : Option Addr) (cc : Nat) (L : List (OpM × Value)) (cs : List Int) (nb : Nat) (w : World) (hL : OpsR w v L) (hn : nb ≤ 255) (hf : fewB L = true) (h20 : cs.length ≤ 20)
    (hc : RdS w (.slice adc cs.length cc) cs.length 1 (cs.map (Value.int .i64))) :
    Calls Try.prog 3 #[v, .int .u8 nb, .slice adc cs.length cc] w fun e w' => e = .returned (.bool true) ∧ Below w.heap.size w w' := by
  have hfew : L.length ≤ 100 := by
    unfold fewB at hf
    simp only [Bool.and_eq_true, decide_eq_true_eq] at hf
    exact hf.2
  obtain ⟨adl, cl, rfl, _⟩ := hL.r
  have HL := Lib.hid hL
  have Hc := Lib.hid hc
  have Hfew := Lib.hid hfew
  have h20' : decide ((20 : Int) < (cs.length : Int)) = false := decide_eq_false (by omega)
  clear hL hc hfew
  go_enter Try.func3, Try.ntmps3
  go_wp2_with fail
  refine (dawake_any w).mono ?_
  rintro _ w1 ⟨rfl, hb1⟩
  have HB1 := Lib.hid hb1
  have hL1 := HL.out.below hb1
  clear hb1
  go_wp2_with fail
  have hc := few_any _ L w1 hL1
  rw [hf] at hc
  refine hc.mono ?_
  rintro _ w2 ⟨rfl, rfl⟩
  clear hc hL1 hf
  go_wp2_with fail
  refine (new_any w1 6 (by omega)).mono ?_
  rintro _ w2 ⟨⟨p, rfl, hA⟩, hb2⟩
  have HA2 : Hid (DAt w2 w1.heap.size p 6 (newD 6)) := hA
  have HB2 := Lib.hid (bt HB1.out hb2)
  have Hb2 := Lib.hid hb2
  clear hA hb2
  go_wp2_with fail
  refine (new_any w2 6 (by omega)).mono ?_
  rintro _ w3 ⟨⟨q, rfl, hA⟩, hb3⟩
  have HA3 : Hid (DAt w3 w2.heap.size q 6 (newD 6)) := hA
  have HB3 := Lib.hid (bt HB2.out hb3)
  have HD3 : Hid (DAt w3 w.heap.size p 6 (newD 6)) := (HA2.out.below hb3).base HB1.out.size
  have HE3 : Hid (DAt w3 w.heap.size q 6 (newD 6)) := HA3.out.base HB2.out.size
  have Hne3 : Hid (∀ b, p.has b → ¬ q.has b) := fun b h1 h2 => by
    have h3 := HA2.out.has_lt b h1
    have h4 := HA3.out.ok.lo b h2
    omega
  clear hA hb3 HA2 HA3 Hb2
  go_wp2_with fail
  refine (dcrashat_any w3 (1 + (nb : Int) % 10) (.slice adc cs.length cc) cs 0 HD3.out ⟨rfl, fun p hp => (by cases hp), Nat.le_refl _, Int.le_refl 0, Int.le_refl 0⟩ (by omega) (by omega) HB3.out.size (by omega) (Hc.out.below HB3.out)).mono ?_
  rintro _ w4 ⟨rfl, p4, hB4, hA4, hK4, hh4⟩
  obtain ⟨K, hK⟩ : ∃ K, 1 + (nb : Int) % 10 = K := ⟨_, rfl⟩
  rw [hK] at hA4
  have HK1 : Hid (1 ≤ K ∧ K ≤ 10) := by (show _ ∧ _; omega)
  have HRel : Hid (LRel w w4 p.B q.B K cs 0) := by
    refine ⟨_, _, p4, q, hB4, rfl, hA4, HE3.out.kb hK4 (fun b h1 h2 => Hne3.out b h2 h1), fun b h1 h2 => ?_, HB3.out.trans (hK4.below HD3.out.ok.lo HB3.out.size), inv_start K cs HK1.out.1⟩
    rcases hh4 b h1 with h3 | h3
    · exact Hne3.out b h3 h2
    · have := HE3.out.has_lt b h2; omega
  clear hB4 hA4 hK4 hh4 HD3 HE3 Hne3 HB3 HB2 HB1
  generalize p.B = PB at *
  generalize q.B = QB at *
  have hKx := hK
  go_wp2_with fail
  go_loopw [10] (fun i wr => ∃ k : Nat, k ≤ L.length ∧ i = .int .i64 k ∧ LRel w wr PB QB K cs k) (fun i _ => L.length - (intOf i).toNat)
  case atStart => exact ⟨0, Nat.zero_le _, rfl, HRel.out⟩
  case round =>
    obtain ⟨k, hk, rfl, D, E, p, q, rfl, rfl, hD, hE, hne, hbel, hinv⟩ := hrel
    have HD := Lib.hid hD
    have HE := Lib.hid hE
    have Hne := Lib.hid hne
    have Hbel := Lib.hid hbel
    have HI := Lib.hid hinv
    have hfew := Hfew.out
    clear hD hE hne hbel hinv HRel
    by_cases hlt : k < L.length
    · obtain ⟨z, hz⟩ : ∃ z, L[k]'hlt = z := ⟨_, rfl⟩
      have hLr := HL.out.below Hbel.out
      have hzok := hLr.o _ (List.getElem_mem hlt)
      obtain ⟨b, o, c, ad2, cap2, hv, _, _, hr, he⟩ := hLr.cell k hlt
      simp only [Value.slice.injEq, true_and] at hv
      obtain ⟨rfl, rfl⟩ := hv
      rw [hz] at hr he hzok
      obtain ⟨⟨kind, at_, byte, cuts⟩, cv⟩ := z
      simp only at he
      subst he
      have e0 : wr.cell? ⟨b, o + k * 4, none⟩ = some (.int .i64 kind) := by (have h1 := readAt_cell hr 0 _ rfl; rwa [Nat.add_zero] at h1)
      have e1 : wr.cell? ⟨b, o + k * 4 + 1, none⟩ = some (.int .i64 at_) := readAt_cell hr 1 _ rfl
      have e2 : wr.cell? ⟨b, o + k * 4 + 2, none⟩ = some (.int .u8 (byte.toNat : Int)) := readAt_cell hr 2 _ rfl
      have e3 : wr.cell? ⟨b, o + k * 4 + 3, none⟩ = some (.slice ad2 cuts.length cap2) := readAt_cell hr 3 _ rfl
      have hk0 : (0 : Int) ≤ (k : Int) := by omega
      have hk1 : (k : Int) < (L.length : Int) := by omega
      obtain ⟨BX, hBX⟩ : ∃ BX : Array Value, #[.int .i64 kind, .int .i64 at_, .int .u8 (byte.toNat : Int), .slice ad2 cuts.length cap2] = BX := ⟨_, rfl⟩
      have hR : Rd w (wr.alloc (.cells BX 30)) p q D E wr.heap.size BX := by
        have hb := ba (.cells BX 30) (Below.refl wr.heap.size wr)
        refine ⟨HD.out.below hb, HE.out.below hb, Hne.out, bt Hbel.out hb, ?_, fun h1 => ?_, fun h1 => ?_⟩
        · rw [← hBX, readAt_alloc_at _ _ _ _ _ _ _ rfl (by simp)]; rfl
        · have := HD.out.has_lt _ h1; omega
        · have := HE.out.has_lt _ h1; omega
      have HR := Lib.hid hR
      have HBX := Lib.hid hBX
      have HkB : Hid (LRel w (wr.alloc (.cells BX 30)) p.B q.B K cs (k + 1)) := ⟨D, E, p, q, rfl, rfl, hR.d, hR.e, hR.ne, hR.bel, HI.out.more (by omega)⟩
      clear hr hz hzok hLr hR hKx hBX
      by_cases hval : (kind = 1 ∨ kind = 2) ∧ 0 ≤ at_ ∧ at_ ≤ 5
      · obtain ⟨hkind, hat0, hat5⟩ := hval
        obtain ⟨j, rfl⟩ := Int.eq_ofNat_of_zero_le hat0
        have s0 := HI.out.okE.s0
        have s1 := HI.out.okE.s1
        have hj5 : j ≤ 5 := by omega
        have hb5 : decide ((5 : Int) < (j : Int)) = false := decide_eq_false (by omega)
        clear HkB hat0 hat5
        rcases hkind with rfl | rfl
        · by_cases hK2 : E.steps + 1 = K
          · have htr : True := trivial
            have hsx : (E.steps + 1 == K) = true := by simpa using hK2
            go_wp2_with fail
            rw [HBX.out]
            generalize wr.alloc (.cells BX 30) = wb at *
            generalize wr.heap.size = bx at *
            clear e0 e1 e2 e3
            have HG1 : Hid (∀ u, readAt u bx 0 4 = some BX → u.cell? ⟨bx, 1, none⟩ = some (.int .i64 (j : Int))) := fun u hu => by (have h1 := readAt_cell hu 1 (.int .i64 (j : Int)) (by rw [← HBX.out]; rfl); rwa [Nat.zero_add] at h1)
            have HG2 : Hid (∀ u, readAt u bx 0 4 = some BX → u.cell? ⟨bx, 2, none⟩ = some (.int .u8 (byte.toNat : Int))) := fun u hu => by (have h1 := readAt_cell hu 2 (.int .u8 (byte.toNat : Int)) (by rw [← HBX.out]; rfl); rwa [Nat.zero_add] at h1)
            have g0 : wb.cell? ⟨bx, 0, none⟩ = some (.int .i64 1) := by (have h1 := readAt_cell HR.out.rd 0 (.int .i64 1) (by rw [← HBX.out]; rfl); rwa [Nat.zero_add] at h1)
            have g1 : wb.cell? ⟨bx, 1, none⟩ = some (.int .i64 (j : Int)) := by (have h1 := readAt_cell HR.out.rd 1 (.int .i64 (j : Int)) (by rw [← HBX.out]; rfl); rwa [Nat.zero_add] at h1)
            have g2 : wb.cell? ⟨bx, 2, none⟩ = some (.int .u8 (byte.toNat : Int)) := by (have h1 := readAt_cell HR.out.rd 2 (.int .u8 (byte.toNat : Int)) (by rw [← HBX.out]; rfl); rwa [Nat.zero_add] at h1)
            go_wp2_with fail
            clear g0 g1 g2
            have hcall := steps_any wb HR.out.e
            refine hcall.mono ?_
            rintro _ w99 ⟨rfl, rfl⟩
            clear hcall
            have g0 : wb.cell? ⟨bx, 0, none⟩ = some (.int .i64 1) := by (have h1 := readAt_cell HR.out.rd 0 (.int .i64 1) (by rw [← HBX.out]; rfl); rwa [Nat.zero_add] at h1)
            have g1 : wb.cell? ⟨bx, 1, none⟩ = some (.int .i64 (j : Int)) := by (have h1 := readAt_cell HR.out.rd 1 (.int .i64 (j : Int)) (by rw [← HBX.out]; rfl); rwa [Nat.zero_add] at h1)
            have g2 : wb.cell? ⟨bx, 2, none⟩ = some (.int .u8 (byte.toNat : Int)) := by (have h1 := readAt_cell HR.out.rd 2 (.int .u8 (byte.toNat : Int)) (by rw [← HBX.out]; rfl); rwa [Nat.zero_add] at h1)
            go_wp2_with fail
            clear g0 g1 g2
            clear hsx
            refine wp_region_tr (.take 0 (.take 1 (.take 2 (.take 3 (.take 4 (.run 5 (.run 6 .done))))))) (fun u => readAt u bx 0 4 = some BX) (by kernel_rfl) (by kernel_rfl) rfl (by kernel_rfl) (show readAt _ bx 0 4 = _ from HR.out.rd) ?_
            repeat (first | (refine t_off rfl rfl ?_; simp only [List.getElem_toArray, List.getElem_cons_succ, List.getElem_cons_zero, Act.put, Act.eval, List.setIfInBounds_toArray, List.set_cons_zero, List.set_cons_succ, Array.getD_eq_getD_getElem?, List.getElem?_toArray, List.getElem?_cons_succ, List.getElem?_cons_zero, Option.getD_some]) | (refine t_move rfl _ rfl rfl ?_; simp only [List.getElem_toArray, List.getElem_cons_succ, List.getElem_cons_zero, Act.put, Act.eval, List.setIfInBounds_toArray, List.set_cons_zero, List.set_cons_succ, Array.getD_eq_getD_getElem?, List.getElem?_toArray, List.getElem?_cons_succ, List.getElem?_cons_zero, Option.getD_some]) | (refine t_assign rfl _ rfl rfl ?_; simp only [List.getElem_toArray, List.getElem_cons_succ, List.getElem_cons_zero, Act.put, Act.eval, List.setIfInBounds_toArray, List.set_cons_zero, List.set_cons_succ, Array.getD_eq_getD_getElem?, List.getElem?_toArray, List.getElem?_cons_succ, List.getElem?_cons_zero, Option.getD_some]) | (refine t_val rfl rfl ?_; apply Exists.intro; refine ⟨fun w' hC' => ?_, ?_⟩; (have g1 : w'.cell? ⟨bx, 1, none⟩ = some (.int .i64 (j : Int)) := HG1.out w' hC'; have g2 : w'.cell? ⟨bx, 2, none⟩ = some (.int .u8 (byte.toNat : Int)) := HG2.out w' hC'; go_simp; (first | done | exact rfl)); simp only [List.getElem_toArray, List.getElem_cons_succ, List.getElem_cons_zero, Act.put, Act.eval, List.setIfInBounds_toArray, List.set_cons_zero, List.set_cons_succ, Array.getD_eq_getD_getElem?, List.getElem?_toArray, List.getElem?_cons_succ, List.getElem?_cons_zero, Option.getD_some]))
            refine r_call rfl rfl ?_; apply Exists.intro; apply Exists.intro; refine ⟨?_, ?_⟩; (go_simp; exact ⟨rfl, rfl⟩)
            refine (fill_u8 byte _).mono ?_
            rintro _ v11 ⟨rfl, hb⟩
            have HF11 := Lib.hid (HR.out.below (bt (Below.refl _ _).drew hb))
            clear hb HR
            refine ⟨_, rfl, _, fun _ h => h, HF11.out.rd, ?_⟩; simp only [List.getElem_toArray, List.getElem_cons_succ, List.getElem_cons_zero, Act.put, Act.eval, List.setIfInBounds_toArray, List.set_cons_zero, List.set_cons_succ, Array.getD_eq_getD_getElem?, List.getElem?_toArray, List.getElem?_cons_succ, List.getElem?_cons_zero, Option.getD_some]
            refine r_call rfl rfl ?_; apply Exists.intro; apply Exists.intro; refine ⟨?_, ?_⟩; (go_simp; exact ⟨rfl, rfl⟩)
            have hcall := dwrite_any v11 (j : Int) (fill byte) (2 * k) HF11.out.e HI.out.okE (by omega) (by omega) HF11.out.base
            rw [HI.out.writeE (j : Int) (fill byte) (by omega) (by omega)] at hcall
            refine hcall.mono ?_
            rintro _ w12 ⟨rfl, hN⟩
            have hN' : DNext v11 w.heap.size q 6 (addD (tickD E) (j : Int) (fill byte)) w12 := hN
            obtain ⟨p12, hB12, hR⟩ := HF11.out.right hN'
            have HR12 := Lib.hid hR
            have HE12 := Lib.hid hB12
            clear hN hN' hR hB12 hcall HF11
            refine ⟨_, rfl, _, fun _ h => h, HR12.out.rd, ?_⟩; simp only [List.getElem_toArray, List.getElem_cons_succ, List.getElem_cons_zero, Act.put, Act.eval, List.setIfInBounds_toArray, List.set_cons_zero, List.set_cons_succ, Array.getD_eq_getD_getElem?, List.getElem?_toArray, List.getElem?_cons_succ, List.getElem?_cons_zero, Option.getD_some]
            refine t_done ?_
            have g0 : w12.cell? ⟨bx, 0, none⟩ = some (.int .i64 1) := by (have h1 := readAt_cell HR12.out.rd 0 (.int .i64 1) (by rw [← HBX.out]; rfl); rwa [Nat.zero_add] at h1)
            have g1 : w12.cell? ⟨bx, 1, none⟩ = some (.int .i64 (j : Int)) := by (have h1 := readAt_cell HR12.out.rd 1 (.int .i64 (j : Int)) (by rw [← HBX.out]; rfl); rwa [Nat.zero_add] at h1)
            have g2 : w12.cell? ⟨bx, 2, none⟩ = some (.int .u8 (byte.toNat : Int)) := by (have h1 := readAt_cell HR12.out.rd 2 (.int .u8 (byte.toNat : Int)) (by rw [← HBX.out]; rfl); rwa [Nat.zero_add] at h1)
            go_wp2_with fail
            clear g0 g1 g2
            have hcall := dcrash_any w12 (.slice adc cs.length cc) cs (2 * k + 2) HR12.out.e (HI.out.okE.tick.add (j : Int) (fill byte)) (by omega) (by omega) HR12.out.base (Hc.out.below HR12.out.bel)
            rw [HE12.out] at hcall
            refine hcall.mono ?_
            rintro _ w13 ⟨rfl, hN⟩
            have hN' : DNext w12 w.heap.size p12 6 (crashD (addD (tickD E) (j : Int) (fill byte)) cs) w13 := hN
            obtain ⟨p13, hB13, hR⟩ := HR12.out.right hN'
            have HR13 := Lib.hid hR
            have HE13 := Lib.hid hB13
            clear hN hN' hR hB13 hcall HR12
            have g0 : w13.cell? ⟨bx, 0, none⟩ = some (.int .i64 1) := by (have h1 := readAt_cell HR13.out.rd 0 (.int .i64 1) (by rw [← HBX.out]; rfl); rwa [Nat.zero_add] at h1)
            have g1 : w13.cell? ⟨bx, 1, none⟩ = some (.int .i64 (j : Int)) := by (have h1 := readAt_cell HR13.out.rd 1 (.int .i64 (j : Int)) (by rw [← HBX.out]; rfl); rwa [Nat.zero_add] at h1)
            have g2 : w13.cell? ⟨bx, 2, none⟩ = some (.int .u8 (byte.toNat : Int)) := by (have h1 := readAt_cell HR13.out.rd 2 (.int .u8 (byte.toNat : Int)) (by rw [← HBX.out]; rfl); rwa [Nat.zero_add] at h1)
            go_wp2_with fail
            clear g0 g1 g2
            refine wp_region_tr (.take 0 (.take 1 (.take 2 (.take 3 (.take 4 (.run 5 (.run 6 .done))))))) (fun u => readAt u bx 0 4 = some BX) (by kernel_rfl) (by kernel_rfl) rfl (by kernel_rfl) (show readAt _ bx 0 4 = _ from HR13.out.rd) ?_
            repeat (first | (refine t_off rfl rfl ?_; simp only [List.getElem_toArray, List.getElem_cons_succ, List.getElem_cons_zero, Act.put, Act.eval, List.setIfInBounds_toArray, List.set_cons_zero, List.set_cons_succ, Array.getD_eq_getD_getElem?, List.getElem?_toArray, List.getElem?_cons_succ, List.getElem?_cons_zero, Option.getD_some]) | (refine t_move rfl _ rfl rfl ?_; simp only [List.getElem_toArray, List.getElem_cons_succ, List.getElem_cons_zero, Act.put, Act.eval, List.setIfInBounds_toArray, List.set_cons_zero, List.set_cons_succ, Array.getD_eq_getD_getElem?, List.getElem?_toArray, List.getElem?_cons_succ, List.getElem?_cons_zero, Option.getD_some]) | (refine t_assign rfl _ rfl rfl ?_; simp only [List.getElem_toArray, List.getElem_cons_succ, List.getElem_cons_zero, Act.put, Act.eval, List.setIfInBounds_toArray, List.set_cons_zero, List.set_cons_succ, Array.getD_eq_getD_getElem?, List.getElem?_toArray, List.getElem?_cons_succ, List.getElem?_cons_zero, Option.getD_some]) | (refine t_val rfl rfl ?_; apply Exists.intro; refine ⟨fun w' hC' => ?_, ?_⟩; (have g1 : w'.cell? ⟨bx, 1, none⟩ = some (.int .i64 (j : Int)) := HG1.out w' hC'; have g2 : w'.cell? ⟨bx, 2, none⟩ = some (.int .u8 (byte.toNat : Int)) := HG2.out w' hC'; go_simp; (first | done | exact rfl)); simp only [List.getElem_toArray, List.getElem_cons_succ, List.getElem_cons_zero, Act.put, Act.eval, List.setIfInBounds_toArray, List.set_cons_zero, List.set_cons_succ, Array.getD_eq_getD_getElem?, List.getElem?_toArray, List.getElem?_cons_succ, List.getElem?_cons_zero, Option.getD_some]))
            refine r_call rfl rfl ?_; apply Exists.intro; apply Exists.intro; refine ⟨?_, ?_⟩; (go_simp; exact ⟨rfl, rfl⟩)
            refine (fill_u8 byte _).mono ?_
            rintro _ v14 ⟨rfl, hb⟩
            have HF14 := Lib.hid (HR13.out.below (bt (Below.refl _ _).drew hb))
            clear hb HR13
            refine ⟨_, rfl, _, fun _ h => h, HF14.out.rd, ?_⟩; simp only [List.getElem_toArray, List.getElem_cons_succ, List.getElem_cons_zero, Act.put, Act.eval, List.setIfInBounds_toArray, List.set_cons_zero, List.set_cons_succ, Array.getD_eq_getD_getElem?, List.getElem?_toArray, List.getElem?_cons_succ, List.getElem?_cons_zero, Option.getD_some]
            refine r_call rfl rfl ?_; apply Exists.intro; apply Exists.intro; refine ⟨?_, ?_⟩; (go_simp; exact ⟨rfl, rfl⟩)
            have hcall := dwrite_any v14 (j : Int) (fill byte) (2 * k) HF14.out.d HI.out.ok (by omega) (by omega) HF14.out.base
            rw [HI.out.writeD_yes (j : Int) (fill byte) hK2] at hcall
            refine hcall.mono ?_
            rintro _ w15 ⟨rfl, hN⟩
            have hN' : DNext v14 w.heap.size p 6 (crashD (addD (tickD D) (j : Int) (fill byte)) cs) w15 := hN
            obtain ⟨p15, hB15, hR⟩ := HF14.out.left hN'
            have HR15 := Lib.hid hR
            have HE15 := Lib.hid hB15
            clear hN hN' hR hB15 hcall HF14
            refine ⟨_, rfl, _, fun _ h => h, HR15.out.rd, ?_⟩; simp only [List.getElem_toArray, List.getElem_cons_succ, List.getElem_cons_zero, Act.put, Act.eval, List.setIfInBounds_toArray, List.set_cons_zero, List.set_cons_succ, Array.getD_eq_getD_getElem?, List.getElem?_toArray, List.getElem?_cons_succ, List.getElem?_cons_zero, Option.getD_some]
            refine t_done ?_
            have g0 : w15.cell? ⟨bx, 0, none⟩ = some (.int .i64 1) := by (have h1 := readAt_cell HR15.out.rd 0 (.int .i64 1) (by rw [← HBX.out]; rfl); rwa [Nat.zero_add] at h1)
            have g1 : w15.cell? ⟨bx, 1, none⟩ = some (.int .i64 (j : Int)) := by (have h1 := readAt_cell HR15.out.rd 1 (.int .i64 (j : Int)) (by rw [← HBX.out]; rfl); rwa [Nat.zero_add] at h1)
            have g2 : w15.cell? ⟨bx, 2, none⟩ = some (.int .u8 (byte.toNat : Int)) := by (have h1 := readAt_cell HR15.out.rd 2 (.int .u8 (byte.toNat : Int)) (by rw [← HBX.out]; rfl); rwa [Nat.zero_add] at h1)
            go_wp2_with fail
            clear g0 g1 g2
            have HSt : Hid ((crashD (addD (tickD E) (j : Int) (fill byte)) cs).st = (crashD (addD (tickD D) (j : Int) (fill byte)) cs).st) := (HI.out.crashW (j : Int) (fill byte)).symm
            have HLn : Hid ((crashD (addD (tickD D) (j : Int) (fill byte)) cs).st.length = 6) := by (show _ = _; rw [crashD_len]; first | (rw [addD_st]; exact HI.out.ok.len) | exact HI.out.ok.len)
            have HKs : Hid ((crashD (addD (tickD D) (j : Int) (fill byte)) cs).steps = K) := by (show _ = _; have h1 := HI.out.s; first | (show (addD (tickD D) (j : Int) (fill byte)).steps = K; rw [addD_steps]; show D.steps + 1 = K; omega) | (show D.steps + 1 = K; omega))
            have hcall := down_any w15 HR15.out.d
            rw [HE15.out, show (crashD (addD (tickD D) (j : Int) (fill byte)) cs).down = true from rfl] at hcall
            refine hcall.mono ?_
            rintro _ w99 ⟨rfl, rfl⟩
            clear hcall
            have g0 : w15.cell? ⟨bx, 0, none⟩ = some (.int .i64 1) := by (have h1 := readAt_cell HR15.out.rd 0 (.int .i64 1) (by rw [← HBX.out]; rfl); rwa [Nat.zero_add] at h1)
            have g1 : w15.cell? ⟨bx, 1, none⟩ = some (.int .i64 (j : Int)) := by (have h1 := readAt_cell HR15.out.rd 1 (.int .i64 (j : Int)) (by rw [← HBX.out]; rfl); rwa [Nat.zero_add] at h1)
            have g2 : w15.cell? ⟨bx, 2, none⟩ = some (.int .u8 (byte.toNat : Int)) := by (have h1 := readAt_cell HR15.out.rd 2 (.int .u8 (byte.toNat : Int)) (by rw [← HBX.out]; rfl); rwa [Nat.zero_add] at h1)
            go_wp2_with fail
            clear g0 g1 g2
            have hcall := down_any w15 HR15.out.e
            rw [HE13.out, HE12.out, show (crashD (addD (tickD E) (j : Int) (fill byte)) cs).down = true from rfl] at hcall
            refine hcall.mono ?_
            rintro _ w99 ⟨rfl, rfl⟩
            clear hcall
            have g0 : w15.cell? ⟨bx, 0, none⟩ = some (.int .i64 1) := by (have h1 := readAt_cell HR15.out.rd 0 (.int .i64 1) (by rw [← HBX.out]; rfl); rwa [Nat.zero_add] at h1)
            have g1 : w15.cell? ⟨bx, 1, none⟩ = some (.int .i64 (j : Int)) := by (have h1 := readAt_cell HR15.out.rd 1 (.int .i64 (j : Int)) (by rw [← HBX.out]; rfl); rwa [Nat.zero_add] at h1)
            have g2 : w15.cell? ⟨bx, 2, none⟩ = some (.int .u8 (byte.toNat : Int)) := by (have h1 := readAt_cell HR15.out.rd 2 (.int .u8 (byte.toNat : Int)) (by rw [← HBX.out]; rfl); rwa [Nat.zero_add] at h1)
            go_wp2_with fail
            clear g0 g1 g2
            have hcall := stable_any w15 HR15.out.d HLn.out (by omega)
            rw [HE15.out] at hcall
            refine hcall.mono ?_
            rintro _ w16 ⟨⟨s16, rfl, ho⟩, hb⟩
            have HR16 := Lib.hid (HR15.out.below hb)
            have HO16 := Lib.hid ho.rd
            clear hcall hb ho HR15
            have g0 : w16.cell? ⟨bx, 0, none⟩ = some (.int .i64 1) := by (have h1 := readAt_cell HR16.out.rd 0 (.int .i64 1) (by rw [← HBX.out]; rfl); rwa [Nat.zero_add] at h1)
            have g1 : w16.cell? ⟨bx, 1, none⟩ = some (.int .i64 (j : Int)) := by (have h1 := readAt_cell HR16.out.rd 1 (.int .i64 (j : Int)) (by rw [← HBX.out]; rfl); rwa [Nat.zero_add] at h1)
            have g2 : w16.cell? ⟨bx, 2, none⟩ = some (.int .u8 (byte.toNat : Int)) := by (have h1 := readAt_cell HR16.out.rd 2 (.int .u8 (byte.toNat : Int)) (by rw [← HBX.out]; rfl); rwa [Nat.zero_add] at h1)
            go_wp2_with fail
            clear g0 g1 g2
            have hcall := stable_any w16 HR16.out.e (by rw [HSt.out]; exact HLn.out) (by omega)
            rw [HE13.out, HE12.out, HSt.out] at hcall
            refine hcall.mono ?_
            rintro _ w17 ⟨⟨s17, rfl, ho⟩, hb⟩
            have HR17 := Lib.hid (HR16.out.below hb)
            have HO17 := Lib.hid ho.rd
            have HO16x := Lib.hid (HO16.out.below hb)
            clear hcall hb ho HR16
            have g0 : w17.cell? ⟨bx, 0, none⟩ = some (.int .i64 1) := by (have h1 := readAt_cell HR17.out.rd 0 (.int .i64 1) (by rw [← HBX.out]; rfl); rwa [Nat.zero_add] at h1)
            have g1 : w17.cell? ⟨bx, 1, none⟩ = some (.int .i64 (j : Int)) := by (have h1 := readAt_cell HR17.out.rd 1 (.int .i64 (j : Int)) (by rw [← HBX.out]; rfl); rwa [Nat.zero_add] at h1)
            have g2 : w17.cell? ⟨bx, 2, none⟩ = some (.int .u8 (byte.toNat : Int)) := by (have h1 := readAt_cell HR17.out.rd 2 (.int .u8 (byte.toNat : Int)) (by rw [← HBX.out]; rfl); rwa [Nat.zero_add] at h1)
            go_wp2_with fail
            clear g0 g1 g2
            refine (same_selfD _ _ 6 (crashD (addD (tickD D) (j : Int) (fill byte)) cs).st _ HLn.out (by omega) HO16x.out HO17.out).mono ?_
            rintro _ w18 ⟨rfl, hb⟩
            have HR18 := Lib.hid (HR17.out.below hb)
            clear hb HR17
            have g0 : w18.cell? ⟨bx, 0, none⟩ = some (.int .i64 1) := by (have h1 := readAt_cell HR18.out.rd 0 (.int .i64 1) (by rw [← HBX.out]; rfl); rwa [Nat.zero_add] at h1)
            have g1 : w18.cell? ⟨bx, 1, none⟩ = some (.int .i64 (j : Int)) := by (have h1 := readAt_cell HR18.out.rd 1 (.int .i64 (j : Int)) (by rw [← HBX.out]; rfl); rwa [Nat.zero_add] at h1)
            have g2 : w18.cell? ⟨bx, 2, none⟩ = some (.int .u8 (byte.toNat : Int)) := by (have h1 := readAt_cell HR18.out.rd 2 (.int .u8 (byte.toNat : Int)) (by rw [← HBX.out]; rfl); rwa [Nat.zero_add] at h1)
            go_wp2_with fail
            clear g0 g1 g2
            have hcall := steps_any w18 HR18.out.d
            rw [HE15.out, HKs.out] at hcall
            refine hcall.mono ?_
            rintro _ w99 ⟨rfl, rfl⟩
            clear hcall
            have g0 : w18.cell? ⟨bx, 0, none⟩ = some (.int .i64 1) := by (have h1 := readAt_cell HR18.out.rd 0 (.int .i64 1) (by rw [← HBX.out]; rfl); rwa [Nat.zero_add] at h1)
            have g1 : w18.cell? ⟨bx, 1, none⟩ = some (.int .i64 (j : Int)) := by (have h1 := readAt_cell HR18.out.rd 1 (.int .i64 (j : Int)) (by rw [← HBX.out]; rfl); rwa [Nat.zero_add] at h1)
            have g2 : w18.cell? ⟨bx, 2, none⟩ = some (.int .u8 (byte.toNat : Int)) := by (have h1 := readAt_cell HR18.out.rd 2 (.int .u8 (byte.toNat : Int)) (by rw [← HBX.out]; rfl); rwa [Nat.zero_add] at h1)
            go_wp2_with fail
            clear g0 g1 g2
            have hcall := open_any w18 HR18.out.d
            rw [HE15.out, show (crashD (addD (tickD D) (j : Int) (fill byte)) cs).op.length = 0 from rfl] at hcall
            refine hcall.mono ?_
            rintro _ w99 ⟨rfl, rfl⟩
            clear hcall
            go_wp2
            go_ret
            exact ⟨rfl, HR18.out.bel⟩
          · have htr : True := trivial
            have hsx : (E.steps + 1 == K) = false := by simpa using hK2
            go_wp2_with fail
            rw [HBX.out]
            generalize wr.alloc (.cells BX 30) = wb at *
            generalize wr.heap.size = bx at *
            clear e0 e1 e2 e3
            have HG1 : Hid (∀ u, readAt u bx 0 4 = some BX → u.cell? ⟨bx, 1, none⟩ = some (.int .i64 (j : Int))) := fun u hu => by (have h1 := readAt_cell hu 1 (.int .i64 (j : Int)) (by rw [← HBX.out]; rfl); rwa [Nat.zero_add] at h1)
            have HG2 : Hid (∀ u, readAt u bx 0 4 = some BX → u.cell? ⟨bx, 2, none⟩ = some (.int .u8 (byte.toNat : Int))) := fun u hu => by (have h1 := readAt_cell hu 2 (.int .u8 (byte.toNat : Int)) (by rw [← HBX.out]; rfl); rwa [Nat.zero_add] at h1)
            have g0 : wb.cell? ⟨bx, 0, none⟩ = some (.int .i64 1) := by (have h1 := readAt_cell HR.out.rd 0 (.int .i64 1) (by rw [← HBX.out]; rfl); rwa [Nat.zero_add] at h1)
            have g1 : wb.cell? ⟨bx, 1, none⟩ = some (.int .i64 (j : Int)) := by (have h1 := readAt_cell HR.out.rd 1 (.int .i64 (j : Int)) (by rw [← HBX.out]; rfl); rwa [Nat.zero_add] at h1)
            have g2 : wb.cell? ⟨bx, 2, none⟩ = some (.int .u8 (byte.toNat : Int)) := by (have h1 := readAt_cell HR.out.rd 2 (.int .u8 (byte.toNat : Int)) (by rw [← HBX.out]; rfl); rwa [Nat.zero_add] at h1)
            go_wp2_with fail
            clear g0 g1 g2
            have hcall := steps_any wb HR.out.e
            refine hcall.mono ?_
            rintro _ w99 ⟨rfl, rfl⟩
            clear hcall
            have g0 : wb.cell? ⟨bx, 0, none⟩ = some (.int .i64 1) := by (have h1 := readAt_cell HR.out.rd 0 (.int .i64 1) (by rw [← HBX.out]; rfl); rwa [Nat.zero_add] at h1)
            have g1 : wb.cell? ⟨bx, 1, none⟩ = some (.int .i64 (j : Int)) := by (have h1 := readAt_cell HR.out.rd 1 (.int .i64 (j : Int)) (by rw [← HBX.out]; rfl); rwa [Nat.zero_add] at h1)
            have g2 : wb.cell? ⟨bx, 2, none⟩ = some (.int .u8 (byte.toNat : Int)) := by (have h1 := readAt_cell HR.out.rd 2 (.int .u8 (byte.toNat : Int)) (by rw [← HBX.out]; rfl); rwa [Nat.zero_add] at h1)
            go_wp2_with fail
            clear g0 g1 g2
            clear hsx
            refine wp_region_tr (.take 0 (.take 1 (.take 2 (.take 3 (.take 4 (.run 5 (.run 6 .done))))))) (fun u => readAt u bx 0 4 = some BX) (by kernel_rfl) (by kernel_rfl) rfl (by kernel_rfl) (show readAt _ bx 0 4 = _ from HR.out.rd) ?_
            repeat (first | (refine t_off rfl rfl ?_; simp only [List.getElem_toArray, List.getElem_cons_succ, List.getElem_cons_zero, Act.put, Act.eval, List.setIfInBounds_toArray, List.set_cons_zero, List.set_cons_succ, Array.getD_eq_getD_getElem?, List.getElem?_toArray, List.getElem?_cons_succ, List.getElem?_cons_zero, Option.getD_some]) | (refine t_move rfl _ rfl rfl ?_; simp only [List.getElem_toArray, List.getElem_cons_succ, List.getElem_cons_zero, Act.put, Act.eval, List.setIfInBounds_toArray, List.set_cons_zero, List.set_cons_succ, Array.getD_eq_getD_getElem?, List.getElem?_toArray, List.getElem?_cons_succ, List.getElem?_cons_zero, Option.getD_some]) | (refine t_assign rfl _ rfl rfl ?_; simp only [List.getElem_toArray, List.getElem_cons_succ, List.getElem_cons_zero, Act.put, Act.eval, List.setIfInBounds_toArray, List.set_cons_zero, List.set_cons_succ, Array.getD_eq_getD_getElem?, List.getElem?_toArray, List.getElem?_cons_succ, List.getElem?_cons_zero, Option.getD_some]) | (refine t_val rfl rfl ?_; apply Exists.intro; refine ⟨fun w' hC' => ?_, ?_⟩; (have g1 : w'.cell? ⟨bx, 1, none⟩ = some (.int .i64 (j : Int)) := HG1.out w' hC'; have g2 : w'.cell? ⟨bx, 2, none⟩ = some (.int .u8 (byte.toNat : Int)) := HG2.out w' hC'; go_simp; (first | done | exact rfl)); simp only [List.getElem_toArray, List.getElem_cons_succ, List.getElem_cons_zero, Act.put, Act.eval, List.setIfInBounds_toArray, List.set_cons_zero, List.set_cons_succ, Array.getD_eq_getD_getElem?, List.getElem?_toArray, List.getElem?_cons_succ, List.getElem?_cons_zero, Option.getD_some]))
            refine r_call rfl rfl ?_; apply Exists.intro; apply Exists.intro; refine ⟨?_, ?_⟩; (go_simp; exact ⟨rfl, rfl⟩)
            refine (fill_u8 byte _).mono ?_
            rintro _ v11 ⟨rfl, hb⟩
            have HF11 := Lib.hid (HR.out.below (bt (Below.refl _ _).drew hb))
            clear hb HR
            refine ⟨_, rfl, _, fun _ h => h, HF11.out.rd, ?_⟩; simp only [List.getElem_toArray, List.getElem_cons_succ, List.getElem_cons_zero, Act.put, Act.eval, List.setIfInBounds_toArray, List.set_cons_zero, List.set_cons_succ, Array.getD_eq_getD_getElem?, List.getElem?_toArray, List.getElem?_cons_succ, List.getElem?_cons_zero, Option.getD_some]
            refine r_call rfl rfl ?_; apply Exists.intro; apply Exists.intro; refine ⟨?_, ?_⟩; (go_simp; exact ⟨rfl, rfl⟩)
            have hcall := dwrite_any v11 (j : Int) (fill byte) (2 * k) HF11.out.d HI.out.ok (by omega) (by omega) HF11.out.base
            rw [HI.out.writeD_no (j : Int) (fill byte) (by omega) (by omega) hK2] at hcall
            refine hcall.mono ?_
            rintro _ w12 ⟨rfl, hN⟩
            have hN' : DNext v11 w.heap.size p 6 (addD (tickD D) (j : Int) (fill byte)) w12 := hN
            obtain ⟨p12, hB12, hR⟩ := HF11.out.left hN'
            have HR12 := Lib.hid hR
            have HE12 := Lib.hid hB12
            clear hN hN' hR hB12 hcall HF11
            refine ⟨_, rfl, _, fun _ h => h, HR12.out.rd, ?_⟩; simp only [List.getElem_toArray, List.getElem_cons_succ, List.getElem_cons_zero, Act.put, Act.eval, List.setIfInBounds_toArray, List.set_cons_zero, List.set_cons_succ, Array.getD_eq_getD_getElem?, List.getElem?_toArray, List.getElem?_cons_succ, List.getElem?_cons_zero, Option.getD_some]
            refine t_done ?_
            have g0 : w12.cell? ⟨bx, 0, none⟩ = some (.int .i64 1) := by (have h1 := readAt_cell HR12.out.rd 0 (.int .i64 1) (by rw [← HBX.out]; rfl); rwa [Nat.zero_add] at h1)
            have g1 : w12.cell? ⟨bx, 1, none⟩ = some (.int .i64 (j : Int)) := by (have h1 := readAt_cell HR12.out.rd 1 (.int .i64 (j : Int)) (by rw [← HBX.out]; rfl); rwa [Nat.zero_add] at h1)
            have g2 : w12.cell? ⟨bx, 2, none⟩ = some (.int .u8 (byte.toNat : Int)) := by (have h1 := readAt_cell HR12.out.rd 2 (.int .u8 (byte.toNat : Int)) (by rw [← HBX.out]; rfl); rwa [Nat.zero_add] at h1)
            go_wp2_with fail
            clear g0 g1 g2
            have hcall := down_any w12 HR12.out.d
            rw [HE12.out, show (addD (tickD D) (j : Int) (fill byte)).down = false from (by rw [addD_down]; exact HI.out.dd)] at hcall
            refine hcall.mono ?_
            rintro _ w99 ⟨rfl, rfl⟩
            clear hcall
            have g0 : w12.cell? ⟨bx, 0, none⟩ = some (.int .i64 1) := by (have h1 := readAt_cell HR12.out.rd 0 (.int .i64 1) (by rw [← HBX.out]; rfl); rwa [Nat.zero_add] at h1)
            have g1 : w12.cell? ⟨bx, 1, none⟩ = some (.int .i64 (j : Int)) := by (have h1 := readAt_cell HR12.out.rd 1 (.int .i64 (j : Int)) (by rw [← HBX.out]; rfl); rwa [Nat.zero_add] at h1)
            have g2 : w12.cell? ⟨bx, 2, none⟩ = some (.int .u8 (byte.toNat : Int)) := by (have h1 := readAt_cell HR12.out.rd 2 (.int .u8 (byte.toNat : Int)) (by rw [← HBX.out]; rfl); rwa [Nat.zero_add] at h1)
            go_wp2_with fail
            clear g0 g1 g2
            refine wp_region_tr (.take 0 (.take 1 (.take 2 (.take 3 (.take 4 (.run 5 (.run 6 .done))))))) (fun u => readAt u bx 0 4 = some BX) (by kernel_rfl) (by kernel_rfl) rfl (by kernel_rfl) (show readAt _ bx 0 4 = _ from HR12.out.rd) ?_
            repeat (first | (refine t_off rfl rfl ?_; simp only [List.getElem_toArray, List.getElem_cons_succ, List.getElem_cons_zero, Act.put, Act.eval, List.setIfInBounds_toArray, List.set_cons_zero, List.set_cons_succ, Array.getD_eq_getD_getElem?, List.getElem?_toArray, List.getElem?_cons_succ, List.getElem?_cons_zero, Option.getD_some]) | (refine t_move rfl _ rfl rfl ?_; simp only [List.getElem_toArray, List.getElem_cons_succ, List.getElem_cons_zero, Act.put, Act.eval, List.setIfInBounds_toArray, List.set_cons_zero, List.set_cons_succ, Array.getD_eq_getD_getElem?, List.getElem?_toArray, List.getElem?_cons_succ, List.getElem?_cons_zero, Option.getD_some]) | (refine t_assign rfl _ rfl rfl ?_; simp only [List.getElem_toArray, List.getElem_cons_succ, List.getElem_cons_zero, Act.put, Act.eval, List.setIfInBounds_toArray, List.set_cons_zero, List.set_cons_succ, Array.getD_eq_getD_getElem?, List.getElem?_toArray, List.getElem?_cons_succ, List.getElem?_cons_zero, Option.getD_some]) | (refine t_val rfl rfl ?_; apply Exists.intro; refine ⟨fun w' hC' => ?_, ?_⟩; (have g1 : w'.cell? ⟨bx, 1, none⟩ = some (.int .i64 (j : Int)) := HG1.out w' hC'; have g2 : w'.cell? ⟨bx, 2, none⟩ = some (.int .u8 (byte.toNat : Int)) := HG2.out w' hC'; go_simp; (first | done | exact rfl)); simp only [List.getElem_toArray, List.getElem_cons_succ, List.getElem_cons_zero, Act.put, Act.eval, List.setIfInBounds_toArray, List.set_cons_zero, List.set_cons_succ, Array.getD_eq_getD_getElem?, List.getElem?_toArray, List.getElem?_cons_succ, List.getElem?_cons_zero, Option.getD_some]))
            refine r_call rfl rfl ?_; apply Exists.intro; apply Exists.intro; refine ⟨?_, ?_⟩; (go_simp; exact ⟨rfl, rfl⟩)
            refine (fill_u8 byte _).mono ?_
            rintro _ v13 ⟨rfl, hb⟩
            have HF13 := Lib.hid (HR12.out.below (bt (Below.refl _ _).drew hb))
            clear hb HR12
            refine ⟨_, rfl, _, fun _ h => h, HF13.out.rd, ?_⟩; simp only [List.getElem_toArray, List.getElem_cons_succ, List.getElem_cons_zero, Act.put, Act.eval, List.setIfInBounds_toArray, List.set_cons_zero, List.set_cons_succ, Array.getD_eq_getD_getElem?, List.getElem?_toArray, List.getElem?_cons_succ, List.getElem?_cons_zero, Option.getD_some]
            refine r_call rfl rfl ?_; apply Exists.intro; apply Exists.intro; refine ⟨?_, ?_⟩; (go_simp; exact ⟨rfl, rfl⟩)
            have hcall := dwrite_any v13 (j : Int) (fill byte) (2 * k) HF13.out.e HI.out.okE (by omega) (by omega) HF13.out.base
            rw [HI.out.writeE (j : Int) (fill byte) (by omega) (by omega)] at hcall
            refine hcall.mono ?_
            rintro _ w14 ⟨rfl, hN⟩
            have hN' : DNext v13 w.heap.size q 6 (addD (tickD E) (j : Int) (fill byte)) w14 := hN
            obtain ⟨p14, hB14, hR⟩ := HF13.out.right hN'
            have HR14 := Lib.hid hR
            have HE14 := Lib.hid hB14
            clear hN hN' hR hB14 hcall HF13
            refine ⟨_, rfl, _, fun _ h => h, HR14.out.rd, ?_⟩; simp only [List.getElem_toArray, List.getElem_cons_succ, List.getElem_cons_zero, Act.put, Act.eval, List.setIfInBounds_toArray, List.set_cons_zero, List.set_cons_succ, Array.getD_eq_getD_getElem?, List.getElem?_toArray, List.getElem?_cons_succ, List.getElem?_cons_zero, Option.getD_some]
            refine t_done ?_
            have HI2 : Hid (Inv K cs (addD (tickD D) (j : Int) (fill byte)) (addD (tickD E) (j : Int) (fill byte)) (2 * (k + 1))) := (HI.out.nextW (j : Int) (fill byte) hK2).more (by omega)
            have HL2 : Hid (LRel w w14 p.B q.B K cs (k + 1)) := ⟨_, _, p12, p14, HE12.out, HE14.out, HR14.out.d, HR14.out.e, HR14.out.ne, HR14.out.bel, HI2.out⟩
            go_wp2
            go_roundw
            case rel => exact ⟨k + 1, by omega, by go_num, HL2.out⟩
            case measure => simp [intOf]; omega
        · by_cases hK2 : E.steps + 1 = K
          · have htr : True := trivial
            have hsx : (E.steps + 1 == K) = true := by simpa using hK2
            go_wp2_with fail
            rw [HBX.out]
            generalize wr.alloc (.cells BX 30) = wb at *
            generalize wr.heap.size = bx at *
            clear e0 e1 e2 e3
            have HG1 : Hid (∀ u, readAt u bx 0 4 = some BX → u.cell? ⟨bx, 1, none⟩ = some (.int .i64 (j : Int))) := fun u hu => by (have h1 := readAt_cell hu 1 (.int .i64 (j : Int)) (by rw [← HBX.out]; rfl); rwa [Nat.zero_add] at h1)
            have HG2 : Hid (∀ u, readAt u bx 0 4 = some BX → u.cell? ⟨bx, 2, none⟩ = some (.int .u8 (byte.toNat : Int))) := fun u hu => by (have h1 := readAt_cell hu 2 (.int .u8 (byte.toNat : Int)) (by rw [← HBX.out]; rfl); rwa [Nat.zero_add] at h1)
            have g0 : wb.cell? ⟨bx, 0, none⟩ = some (.int .i64 2) := by (have h1 := readAt_cell HR.out.rd 0 (.int .i64 2) (by rw [← HBX.out]; rfl); rwa [Nat.zero_add] at h1)
            have g1 : wb.cell? ⟨bx, 1, none⟩ = some (.int .i64 (j : Int)) := by (have h1 := readAt_cell HR.out.rd 1 (.int .i64 (j : Int)) (by rw [← HBX.out]; rfl); rwa [Nat.zero_add] at h1)
            have g2 : wb.cell? ⟨bx, 2, none⟩ = some (.int .u8 (byte.toNat : Int)) := by (have h1 := readAt_cell HR.out.rd 2 (.int .u8 (byte.toNat : Int)) (by rw [← HBX.out]; rfl); rwa [Nat.zero_add] at h1)
            go_wp2_with fail
            clear g0 g1 g2
            have hcall := steps_any wb HR.out.e
            refine hcall.mono ?_
            rintro _ w99 ⟨rfl, rfl⟩
            clear hcall
            have g0 : wb.cell? ⟨bx, 0, none⟩ = some (.int .i64 2) := by (have h1 := readAt_cell HR.out.rd 0 (.int .i64 2) (by rw [← HBX.out]; rfl); rwa [Nat.zero_add] at h1)
            have g1 : wb.cell? ⟨bx, 1, none⟩ = some (.int .i64 (j : Int)) := by (have h1 := readAt_cell HR.out.rd 1 (.int .i64 (j : Int)) (by rw [← HBX.out]; rfl); rwa [Nat.zero_add] at h1)
            have g2 : wb.cell? ⟨bx, 2, none⟩ = some (.int .u8 (byte.toNat : Int)) := by (have h1 := readAt_cell HR.out.rd 2 (.int .u8 (byte.toNat : Int)) (by rw [← HBX.out]; rfl); rwa [Nat.zero_add] at h1)
            go_wp2_with fail
            clear g0 g1 g2
            clear hsx
            have hcall := dcrash_any wb (.slice adc cs.length cc) cs (2 * k + 2) HR.out.e (HI.out.okE.more (by omega)) (by omega) (by omega) HR.out.base (Hc.out.below HR.out.bel)
            refine hcall.mono ?_
            rintro _ w11 ⟨rfl, hN⟩
            have hN' : DNext wb w.heap.size q 6 (crashD E cs) w11 := hN
            obtain ⟨p11, hB11, hR⟩ := HR.out.right hN'
            have HR11 := Lib.hid hR
            have HE11 := Lib.hid hB11
            clear hN hN' hR hB11 hcall HR
            have g0 : w11.cell? ⟨bx, 0, none⟩ = some (.int .i64 2) := by (have h1 := readAt_cell HR11.out.rd 0 (.int .i64 2) (by rw [← HBX.out]; rfl); rwa [Nat.zero_add] at h1)
            have g1 : w11.cell? ⟨bx, 1, none⟩ = some (.int .i64 (j : Int)) := by (have h1 := readAt_cell HR11.out.rd 1 (.int .i64 (j : Int)) (by rw [← HBX.out]; rfl); rwa [Nat.zero_add] at h1)
            have g2 : w11.cell? ⟨bx, 2, none⟩ = some (.int .u8 (byte.toNat : Int)) := by (have h1 := readAt_cell HR11.out.rd 2 (.int .u8 (byte.toNat : Int)) (by rw [← HBX.out]; rfl); rwa [Nat.zero_add] at h1)
            go_wp2_with fail
            clear g0 g1 g2
            have hcall := dsync_any w11 (2 * k) HR11.out.d HI.out.ok (by omega) (by omega) HR11.out.base
            rw [HI.out.syncD_yes hK2] at hcall
            refine hcall.mono ?_
            rintro _ w12 ⟨rfl, hN⟩
            have hN' : DNext w11 w.heap.size p 6 (crashD (tickD D) cs) w12 := hN
            obtain ⟨p12, hB12, hR⟩ := HR11.out.left hN'
            have HR12 := Lib.hid hR
            have HE12 := Lib.hid hB12
            clear hN hN' hR hB12 hcall HR11
            have g0 : w12.cell? ⟨bx, 0, none⟩ = some (.int .i64 2) := by (have h1 := readAt_cell HR12.out.rd 0 (.int .i64 2) (by rw [← HBX.out]; rfl); rwa [Nat.zero_add] at h1)
            have g1 : w12.cell? ⟨bx, 1, none⟩ = some (.int .i64 (j : Int)) := by (have h1 := readAt_cell HR12.out.rd 1 (.int .i64 (j : Int)) (by rw [← HBX.out]; rfl); rwa [Nat.zero_add] at h1)
            have g2 : w12.cell? ⟨bx, 2, none⟩ = some (.int .u8 (byte.toNat : Int)) := by (have h1 := readAt_cell HR12.out.rd 2 (.int .u8 (byte.toNat : Int)) (by rw [← HBX.out]; rfl); rwa [Nat.zero_add] at h1)
            go_wp2_with fail
            clear g0 g1 g2
            have HSt : Hid ((crashD E cs).st = (crashD (tickD D) cs).st) := HI.out.crashS.symm
            have HLn : Hid ((crashD (tickD D) cs).st.length = 6) := by (show _ = _; rw [crashD_len]; first | (rw [addD_st]; exact HI.out.ok.len) | exact HI.out.ok.len)
            have HKs : Hid ((crashD (tickD D) cs).steps = K) := by (show _ = _; have h1 := HI.out.s; first | (show (addD (tickD D) (j : Int) (fill byte)).steps = K; rw [addD_steps]; show D.steps + 1 = K; omega) | (show D.steps + 1 = K; omega))
            have hcall := down_any w12 HR12.out.d
            rw [HE12.out, show (crashD (tickD D) cs).down = true from rfl] at hcall
            refine hcall.mono ?_
            rintro _ w99 ⟨rfl, rfl⟩
            clear hcall
            have g0 : w12.cell? ⟨bx, 0, none⟩ = some (.int .i64 2) := by (have h1 := readAt_cell HR12.out.rd 0 (.int .i64 2) (by rw [← HBX.out]; rfl); rwa [Nat.zero_add] at h1)
            have g1 : w12.cell? ⟨bx, 1, none⟩ = some (.int .i64 (j : Int)) := by (have h1 := readAt_cell HR12.out.rd 1 (.int .i64 (j : Int)) (by rw [← HBX.out]; rfl); rwa [Nat.zero_add] at h1)
            have g2 : w12.cell? ⟨bx, 2, none⟩ = some (.int .u8 (byte.toNat : Int)) := by (have h1 := readAt_cell HR12.out.rd 2 (.int .u8 (byte.toNat : Int)) (by rw [← HBX.out]; rfl); rwa [Nat.zero_add] at h1)
            go_wp2_with fail
            clear g0 g1 g2
            have hcall := down_any w12 HR12.out.e
            rw [HE11.out, show (crashD E cs).down = true from rfl] at hcall
            refine hcall.mono ?_
            rintro _ w99 ⟨rfl, rfl⟩
            clear hcall
            have g0 : w12.cell? ⟨bx, 0, none⟩ = some (.int .i64 2) := by (have h1 := readAt_cell HR12.out.rd 0 (.int .i64 2) (by rw [← HBX.out]; rfl); rwa [Nat.zero_add] at h1)
            have g1 : w12.cell? ⟨bx, 1, none⟩ = some (.int .i64 (j : Int)) := by (have h1 := readAt_cell HR12.out.rd 1 (.int .i64 (j : Int)) (by rw [← HBX.out]; rfl); rwa [Nat.zero_add] at h1)
            have g2 : w12.cell? ⟨bx, 2, none⟩ = some (.int .u8 (byte.toNat : Int)) := by (have h1 := readAt_cell HR12.out.rd 2 (.int .u8 (byte.toNat : Int)) (by rw [← HBX.out]; rfl); rwa [Nat.zero_add] at h1)
            go_wp2_with fail
            clear g0 g1 g2
            have hcall := stable_any w12 HR12.out.d HLn.out (by omega)
            rw [HE12.out] at hcall
            refine hcall.mono ?_
            rintro _ w13 ⟨⟨s13, rfl, ho⟩, hb⟩
            have HR13 := Lib.hid (HR12.out.below hb)
            have HO13 := Lib.hid ho.rd
            clear hcall hb ho HR12
            have g0 : w13.cell? ⟨bx, 0, none⟩ = some (.int .i64 2) := by (have h1 := readAt_cell HR13.out.rd 0 (.int .i64 2) (by rw [← HBX.out]; rfl); rwa [Nat.zero_add] at h1)
            have g1 : w13.cell? ⟨bx, 1, none⟩ = some (.int .i64 (j : Int)) := by (have h1 := readAt_cell HR13.out.rd 1 (.int .i64 (j : Int)) (by rw [← HBX.out]; rfl); rwa [Nat.zero_add] at h1)
            have g2 : w13.cell? ⟨bx, 2, none⟩ = some (.int .u8 (byte.toNat : Int)) := by (have h1 := readAt_cell HR13.out.rd 2 (.int .u8 (byte.toNat : Int)) (by rw [← HBX.out]; rfl); rwa [Nat.zero_add] at h1)
            go_wp2_with fail
            clear g0 g1 g2
            have hcall := stable_any w13 HR13.out.e (by rw [HSt.out]; exact HLn.out) (by omega)
            rw [HE11.out, HSt.out] at hcall
            refine hcall.mono ?_
            rintro _ w14 ⟨⟨s14, rfl, ho⟩, hb⟩
            have HR14 := Lib.hid (HR13.out.below hb)
            have HO14 := Lib.hid ho.rd
            have HO13x := Lib.hid (HO13.out.below hb)
            clear hcall hb ho HR13
            have g0 : w14.cell? ⟨bx, 0, none⟩ = some (.int .i64 2) := by (have h1 := readAt_cell HR14.out.rd 0 (.int .i64 2) (by rw [← HBX.out]; rfl); rwa [Nat.zero_add] at h1)
            have g1 : w14.cell? ⟨bx, 1, none⟩ = some (.int .i64 (j : Int)) := by (have h1 := readAt_cell HR14.out.rd 1 (.int .i64 (j : Int)) (by rw [← HBX.out]; rfl); rwa [Nat.zero_add] at h1)
            have g2 : w14.cell? ⟨bx, 2, none⟩ = some (.int .u8 (byte.toNat : Int)) := by (have h1 := readAt_cell HR14.out.rd 2 (.int .u8 (byte.toNat : Int)) (by rw [← HBX.out]; rfl); rwa [Nat.zero_add] at h1)
            go_wp2_with fail
            clear g0 g1 g2
            refine (same_selfD _ _ 6 (crashD (tickD D) cs).st _ HLn.out (by omega) HO13x.out HO14.out).mono ?_
            rintro _ w15 ⟨rfl, hb⟩
            have HR15 := Lib.hid (HR14.out.below hb)
            clear hb HR14
            have g0 : w15.cell? ⟨bx, 0, none⟩ = some (.int .i64 2) := by (have h1 := readAt_cell HR15.out.rd 0 (.int .i64 2) (by rw [← HBX.out]; rfl); rwa [Nat.zero_add] at h1)
            have g1 : w15.cell? ⟨bx, 1, none⟩ = some (.int .i64 (j : Int)) := by (have h1 := readAt_cell HR15.out.rd 1 (.int .i64 (j : Int)) (by rw [← HBX.out]; rfl); rwa [Nat.zero_add] at h1)
            have g2 : w15.cell? ⟨bx, 2, none⟩ = some (.int .u8 (byte.toNat : Int)) := by (have h1 := readAt_cell HR15.out.rd 2 (.int .u8 (byte.toNat : Int)) (by rw [← HBX.out]; rfl); rwa [Nat.zero_add] at h1)
            go_wp2_with fail
            clear g0 g1 g2
            have hcall := steps_any w15 HR15.out.d
            rw [HE12.out, HKs.out] at hcall
            refine hcall.mono ?_
            rintro _ w99 ⟨rfl, rfl⟩
            clear hcall
            have g0 : w15.cell? ⟨bx, 0, none⟩ = some (.int .i64 2) := by (have h1 := readAt_cell HR15.out.rd 0 (.int .i64 2) (by rw [← HBX.out]; rfl); rwa [Nat.zero_add] at h1)
            have g1 : w15.cell? ⟨bx, 1, none⟩ = some (.int .i64 (j : Int)) := by (have h1 := readAt_cell HR15.out.rd 1 (.int .i64 (j : Int)) (by rw [← HBX.out]; rfl); rwa [Nat.zero_add] at h1)
            have g2 : w15.cell? ⟨bx, 2, none⟩ = some (.int .u8 (byte.toNat : Int)) := by (have h1 := readAt_cell HR15.out.rd 2 (.int .u8 (byte.toNat : Int)) (by rw [← HBX.out]; rfl); rwa [Nat.zero_add] at h1)
            go_wp2_with fail
            clear g0 g1 g2
            have hcall := open_any w15 HR15.out.d
            rw [HE12.out, show (crashD (tickD D) cs).op.length = 0 from rfl] at hcall
            refine hcall.mono ?_
            rintro _ w99 ⟨rfl, rfl⟩
            clear hcall
            go_wp2
            go_ret
            exact ⟨rfl, HR15.out.bel⟩
          · have htr : True := trivial
            have hsx : (E.steps + 1 == K) = false := by simpa using hK2
            go_wp2_with fail
            rw [HBX.out]
            generalize wr.alloc (.cells BX 30) = wb at *
            generalize wr.heap.size = bx at *
            clear e0 e1 e2 e3
            have HG1 : Hid (∀ u, readAt u bx 0 4 = some BX → u.cell? ⟨bx, 1, none⟩ = some (.int .i64 (j : Int))) := fun u hu => by (have h1 := readAt_cell hu 1 (.int .i64 (j : Int)) (by rw [← HBX.out]; rfl); rwa [Nat.zero_add] at h1)
            have HG2 : Hid (∀ u, readAt u bx 0 4 = some BX → u.cell? ⟨bx, 2, none⟩ = some (.int .u8 (byte.toNat : Int))) := fun u hu => by (have h1 := readAt_cell hu 2 (.int .u8 (byte.toNat : Int)) (by rw [← HBX.out]; rfl); rwa [Nat.zero_add] at h1)
            have g0 : wb.cell? ⟨bx, 0, none⟩ = some (.int .i64 2) := by (have h1 := readAt_cell HR.out.rd 0 (.int .i64 2) (by rw [← HBX.out]; rfl); rwa [Nat.zero_add] at h1)
            have g1 : wb.cell? ⟨bx, 1, none⟩ = some (.int .i64 (j : Int)) := by (have h1 := readAt_cell HR.out.rd 1 (.int .i64 (j : Int)) (by rw [← HBX.out]; rfl); rwa [Nat.zero_add] at h1)
            have g2 : wb.cell? ⟨bx, 2, none⟩ = some (.int .u8 (byte.toNat : Int)) := by (have h1 := readAt_cell HR.out.rd 2 (.int .u8 (byte.toNat : Int)) (by rw [← HBX.out]; rfl); rwa [Nat.zero_add] at h1)
            go_wp2_with fail
            clear g0 g1 g2
            have hcall := steps_any wb HR.out.e
            refine hcall.mono ?_
            rintro _ w99 ⟨rfl, rfl⟩
            clear hcall
            have g0 : wb.cell? ⟨bx, 0, none⟩ = some (.int .i64 2) := by (have h1 := readAt_cell HR.out.rd 0 (.int .i64 2) (by rw [← HBX.out]; rfl); rwa [Nat.zero_add] at h1)
            have g1 : wb.cell? ⟨bx, 1, none⟩ = some (.int .i64 (j : Int)) := by (have h1 := readAt_cell HR.out.rd 1 (.int .i64 (j : Int)) (by rw [← HBX.out]; rfl); rwa [Nat.zero_add] at h1)
            have g2 : wb.cell? ⟨bx, 2, none⟩ = some (.int .u8 (byte.toNat : Int)) := by (have h1 := readAt_cell HR.out.rd 2 (.int .u8 (byte.toNat : Int)) (by rw [← HBX.out]; rfl); rwa [Nat.zero_add] at h1)
            go_wp2_with fail
            clear g0 g1 g2
            clear hsx
            have hcall := dsync_any wb (2 * k) HR.out.d HI.out.ok (by omega) (by omega) HR.out.base
            rw [HI.out.syncD_no hK2] at hcall
            refine hcall.mono ?_
            rintro _ w11 ⟨rfl, hN⟩
            have hN' : DNext wb w.heap.size p 6 (flushD (tickD D)) w11 := hN
            obtain ⟨p11, hB11, hR⟩ := HR.out.left hN'
            have HR11 := Lib.hid hR
            have HE11 := Lib.hid hB11
            clear hN hN' hR hB11 hcall HR
            have g0 : w11.cell? ⟨bx, 0, none⟩ = some (.int .i64 2) := by (have h1 := readAt_cell HR11.out.rd 0 (.int .i64 2) (by rw [← HBX.out]; rfl); rwa [Nat.zero_add] at h1)
            have g1 : w11.cell? ⟨bx, 1, none⟩ = some (.int .i64 (j : Int)) := by (have h1 := readAt_cell HR11.out.rd 1 (.int .i64 (j : Int)) (by rw [← HBX.out]; rfl); rwa [Nat.zero_add] at h1)
            have g2 : w11.cell? ⟨bx, 2, none⟩ = some (.int .u8 (byte.toNat : Int)) := by (have h1 := readAt_cell HR11.out.rd 2 (.int .u8 (byte.toNat : Int)) (by rw [← HBX.out]; rfl); rwa [Nat.zero_add] at h1)
            go_wp2_with fail
            clear g0 g1 g2
            have hcall := down_any w11 HR11.out.d
            rw [HE11.out, show (flushD (tickD D)).down = false from HI.out.dd] at hcall
            refine hcall.mono ?_
            rintro _ w99 ⟨rfl, rfl⟩
            clear hcall
            have g0 : w11.cell? ⟨bx, 0, none⟩ = some (.int .i64 2) := by (have h1 := readAt_cell HR11.out.rd 0 (.int .i64 2) (by rw [← HBX.out]; rfl); rwa [Nat.zero_add] at h1)
            have g1 : w11.cell? ⟨bx, 1, none⟩ = some (.int .i64 (j : Int)) := by (have h1 := readAt_cell HR11.out.rd 1 (.int .i64 (j : Int)) (by rw [← HBX.out]; rfl); rwa [Nat.zero_add] at h1)
            have g2 : w11.cell? ⟨bx, 2, none⟩ = some (.int .u8 (byte.toNat : Int)) := by (have h1 := readAt_cell HR11.out.rd 2 (.int .u8 (byte.toNat : Int)) (by rw [← HBX.out]; rfl); rwa [Nat.zero_add] at h1)
            go_wp2_with fail
            clear g0 g1 g2
            have hcall := dsync_any w11 (2 * k) HR11.out.e HI.out.okE (by omega) (by omega) HR11.out.base
            rw [HI.out.syncE] at hcall
            refine hcall.mono ?_
            rintro _ w12 ⟨rfl, hN⟩
            have hN' : DNext w11 w.heap.size q 6 (flushD (tickD E)) w12 := hN
            obtain ⟨p12, hB12, hR⟩ := HR11.out.right hN'
            have HR12 := Lib.hid hR
            have HE12 := Lib.hid hB12
            clear hN hN' hR hB12 hcall HR11
            have HI2 : Hid (Inv K cs (flushD (tickD D)) (flushD (tickD E)) (2 * (k + 1))) := (HI.out.nextS hK2).more (by omega)
            have HL2 : Hid (LRel w w12 p.B q.B K cs (k + 1)) := ⟨_, _, p11, p12, HE11.out, HE12.out, HR12.out.d, HR12.out.e, HR12.out.ne, HR12.out.bel, HI2.out⟩
            go_wp2
            go_roundw
            case rel => exact ⟨k + 1, by omega, by go_num, HL2.out⟩
            case measure => simp [intOf]; omega
      · have hrel : ∀ (wx : World), wx = wr.alloc (.cells BX 30) → LRel w wx p.B q.B K cs (k + 1) := fun wx e => by rw [e]; exact HkB.out
        have HL2 : Hid (LRel w (wr.alloc (.cells #[.int .i64 kind, .int .i64 at_, .int .u8 (byte.toNat : Int), .slice ad2 cuts.length cap2] 30)) p.B q.B K cs (k + 1)) := hrel _ (by rw [HBX.out])
        clear hrel HkB
        by_cases hkind : kind = 1 ∨ kind = 2
        · by_cases hat0 : at_ < 0
          · have hd0 : decide (at_ < (0 : Int)) = true := decide_eq_true hat0
            clear hval
            rcases hkind with rfl | rfl
            all_goals
              go_wp2
              go_roundw
              case rel => exact ⟨k + 1, by omega, by go_num, HL2.out⟩
              case measure => simp [intOf]; omega
          · have hat5 : 5 < at_ := by (rcases Int.lt_or_le 5 at_ with h1 | h1; exact h1; exact absurd ⟨hkind, by omega, h1⟩ hval)
            have hd0 : decide (at_ < (0 : Int)) = false := decide_eq_false hat0
            have hd5 : decide ((5 : Int) < at_) = true := decide_eq_true hat5
            clear hval hat0
            rcases hkind with rfl | rfl
            all_goals
              go_wp2
              go_roundw
              case rel => exact ⟨k + 1, by omega, by go_num, HL2.out⟩
              case measure => simp [intOf]; omega
        · have hq1 : (kind == 1) = false := by simpa using (fun e => hkind (.inl e))
          have hq2 : (kind == 2) = false := by simpa using (fun e => hkind (.inr e))
          have hn1 : (kind != 1) = true := by simpa using (fun e => hkind (.inl e))
          have hn2 : (kind != 2) = true := by simpa using (fun e => hkind (.inr e))
          clear hval hkind
          go_wp2
          go_roundw
          case rel => exact ⟨k + 1, by omega, by go_num, HL2.out⟩
          case measure => simp [intOf]; omega
    · obtain rfl : k = L.length := by omega
      go_wp2_with fail
      have hcall := down_any wr HE.out
      rw [HI.out.de] at hcall
      refine hcall.mono ?_
      rintro _ w9 ⟨rfl, rfl⟩
      clear hcall
      go_wp2_with fail
      refine (stable_any _ HD.out HI.out.ok.len (by omega)).mono ?_
      rintro _ w5 ⟨⟨s5, rfl, ho5⟩, hb5⟩
      have HO5 := Lib.hid ho5.rd
      have HE5 := Lib.hid (HE.out.below hb5)
      have HB5 := Lib.hid (bt Hbel.out hb5)
      clear ho5 hb5
      go_wp2_with fail
      have hcall := stable_any _ HE5.out HI.out.okE.len (by omega)
      rw [← HI.out.st] at hcall
      refine hcall.mono ?_
      rintro _ w6 ⟨⟨s6, rfl, ho6⟩, hb6⟩
      have HO6 := Lib.hid ho6.rd
      have HO5x := Lib.hid (HO5.out.below hb6)
      have HB6 := Lib.hid (bt HB5.out hb6)
      clear ho6 hb6 hcall
      go_wp2_with fail
      refine (same_selfD _ _ 6 D.st _ HI.out.ok.len (by omega) HO5x.out HO6.out).mono ?_
      rintro _ w7 ⟨rfl, hb7⟩
      have HB7 := Lib.hid (bt HB6.out hb7)
      clear hb7
      go_wp2
      go_ret
      exact ⟨rfl, HB7.out⟩
end Go.Proofs.Ytjedlcfeobhjnaa
