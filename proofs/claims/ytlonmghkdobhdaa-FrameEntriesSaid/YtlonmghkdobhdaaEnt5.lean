/- What ParseEntry of package frame computes. No conditions. -/
import Derived.Test.YtlonmghkdobhdaaEnt4
set_option linter.unusedSimpArgs false
set_option linter.unusedVariables false
namespace Go.Proofs.Ytlonmghkdobhdaa
open Go.RowKit

theorem pay_le (x : Sec) : (payOf x).length ≤ 62 := by
  unfold payOf; simp; omega
theorem slice_dig (w : World) (b o : Nat) : (Instr.sliceAt 37 (.pointer (some ⟨b, o, none⟩)) none none none).run Try.prog w = .ok (.slice (some ⟨b, o, none⟩) 32 32) w := by
  cases hq : Try.prog.info? 5 with
  | none => have := info_u8; simp [hq] at this
  | some i => simp [Instr.sliceAt, run_underlying Try.underlying37, Instr.sureAddr, Instr.sliceBounds, Instr.sliceBound, asIntOf, sizeOf, typeInfo, hq, Addr.add]
attribute [go_sem] slice_dig
theorem put_ev (l : List UInt8) (h : l.length = 32) (x : Int) : putAt (ev zdig x) 0 (bv l) = ev (digOf l) x := by
  rw [bv_digOf l h]
  unfold ev
  apply Array.ext'
  have hd : ((av zdig).push (.int .i64 x)).toList.drop 32 = [.int .i64 x] := by
    rw [Array.toList_push]; exact drop_len (by simp)
  simp only [putAt, List.take_zero, List.nil_append, Nat.zero_add, size_av, hd]
  rw [Array.toList_push]
theorem OnlyB.canAt {B : Nat} {w w' : World} (h : OnlyB B w w') (b o n : Nat) (hb : b ≠ B) : canAt w' b o n = canAt w b o n := by
  have := h.block b hb
  simp only [Proofs.Ytlonmghkdobhdaa.canAt, this]
theorem put_exp (d : Dig) (x y : Int) : putAt (ev d x) 32 #[.int .i64 y] = ev d y := by
  unfold ev
  apply Array.ext'
  have hd : ((av d).push (.int .i64 x)).toList.drop 33 = [] := List.drop_of_length_le (by simp)
  have ht : ((av d).push (.int .i64 x)).toList.take 32 = (av d).toList := by
    rw [Array.toList_push]; exact take_len (by simp)
  simp only [putAt, List.size_toArray, List.length_cons, List.length_nil, ht, Array.toList_push]
  simp [hd]

set_option maxHeartbeats 6400000 in
theorem fpentry_any (x : Sec) (w : World) :
    Calls Try.prog 15 #[.agg (av x)] w fun e w' => PEnt x e ∧ Below w.heap.size w w' := by
  obtain ⟨W, hW⟩ : ∃ W, (w.alloc (.cells (av x) 25)).alloc (.cells (ev zdig 0) 39) = W := ⟨_, rfl⟩
  have hb0 : Below w.heap.size w W := by rw [← hW]; exact ba _ (ba _ (Below.refl _ _))
  have hr0 : readAt W w.heap.size 0 64 = some (av x) := by rw [← hW]; simp [go_sem]
  have hk0 : canAt W (w.heap.size + 1) 0 33 = true := by rw [← hW, canAt_alloc_at _ _ _ _ _ _ (by simp) (by simp)]
  have Hb0 := Lib.hid hb0
  have Hk0 := Lib.hid hk0
  have Hlt := Lib.hid (canAt_lt hk0)
  clear hb0 hk0
  go_enter Try.func15, Try.ntmps15
  go_wp2_with fail
  clear hr0 hW
  refine (fparse_nn x _).mono ?_
  rintro _ w1 ⟨hpo, hb1⟩
  have Hk1 := Lib.hid ((canAt_below hb1 Hlt.out 0 33).trans Hk0.out)
  have Hb1 := Lib.hid (Hb0.out.trans (hb1.mono Hb0.out.size))
  have Hlt1 := Lib.hid (Nat.lt_of_lt_of_le Hlt.out hb1.size)
  clear hb1 Hk0 Hb0 Hlt
  by_cases hok : okF x = true
  · obtain ⟨v, rfl, hown, hnn⟩ := hpo.yes hok
    obtain ⟨pa, pc, rfl, hpb⟩ := hown.bs
    obtain ⟨a, rfl⟩ : ∃ a, pa = some a := by
      rcases hpb.src with ⟨rfl, h0, rfl, hl⟩ | ⟨a, h, _⟩
      · exact absurd (by rw [h0]) hnn
      · exact ⟨a, h⟩
    have hL := pay_le x
    have hbE := ba (.cells (ev zdig 0) 39) (Below.refl w1.heap.size w1)
    have Hpb := Lib.hid (hpb.below hbE)
    have Hb2 := Lib.hid (Hb1.out.trans (hbE.mono Hb1.out.size))
    have Hk2 := Lib.hid ((canAt_below hbE Hlt1.out 0 33).trans Hk1.out)
    have HrE := Lib.hid (show readAt (w1.alloc (.cells (ev zdig 0) 39)) w1.heap.size 0 33 = some (ev zdig 0) by rw [readAt_alloc_at _ _ _ _ _ _ _ rfl (by simp), ev_all])
    have HkE := Lib.hid (show canAt (w1.alloc (.cells (ev zdig 0) 39)) w1.heap.size 0 33 = true by rw [canAt_alloc_at _ _ _ _ _ _ rfl (by simp)])
    have HsE := Lib.hid (show (w1.alloc (.cells (ev zdig 0) 39)).heap.size = w1.heap.size + 1 by simp)
    clear hpo hown hnn hpb hbE Hb1 Hk1
    have hokE : okE x = (decide ((payOf x).length = 40) && decide (expOf x ≤ 4611686018427387904)) := by unfold okE; rw [hok]; rfl
    have hEO : expOf x = nb ((payOf x).drop 32) := rfl
    have hDO : entOf x = digOf ((payOf x).take 32) := rfl
    have HokE := Lib.hid hokE
    have HEO := Lib.hid hEO
    have HDO := Lib.hid hDO
    clear hokE hEO hDO hok
    generalize payOf x = l at *
    go_wp2_with fail
    generalize w1.alloc (.cells (ev zdig 0) 39) = w2 at *
    refine (newG a _ pc l _ Hpb.out (by omega)).mono ?_
    rintro _ w3 ⟨⟨B, g, hB, hg, rfl, hrd⟩, hb3⟩
    have HBE : Hid (B ≠ w1.heap.size) := by have := HsE.out; show B ≠ _; omega
    have HgE : Hid (g ≠ w1.heap.size) := by have := HsE.out; show g ≠ _; omega
    have HBR : Hid (B ≠ w.heap.size + 1) := by have := HsE.out; have := Hlt1.out; show B ≠ _; omega
    have HBw : Hid (w.heap.size ≤ B) := by have := HsE.out; have := Hlt1.out; show _ ≤ B; omega
    have hE2 : w1.heap.size < w2.heap.size := by rw [HsE.out]; omega
    have Hrd3 := Lib.hid hrd
    have Hb3 := Lib.hid (Hb2.out.trans (hb3.mono Hb2.out.size))
    have HR3 := Lib.hid ((canAt_below hb3 (by have := Hlt1.out; omega) 0 33).trans Hk2.out)
    have HrE3 := Lib.hid ((readAt_below hb3 hE2 0 33).trans HrE.out)
    have HkE3 := Lib.hid ((canAt_below hb3 hE2 0 33).trans HkE.out)
    have HER : Hid (w.heap.size + 1 < w1.heap.size) := Hlt1
    clear hrd hb3 hB hg Hb2 Hk2 HrE HkE hE2 Hpb HsE Hlt1
    generalize w1.heap.size = E at *
    by_cases h32 : l.length < 32
    · have h40 : ¬ l.length = 40 := by omega
      have Hno : Hid (okE x = false) := by show _ = _; rw [HokE.out, decide_eq_false h40]; rfl
      clear HokE HEO HDO h40 HrE3 HkE3
      go_wp2_with fail
      go_region_with (go_at_call 30; refine (take_no B 32 _ (.inr ⟨l, (Hrd3.out.below (by first | exact (Below.refl _ _).drew | exact Below.refl _ _)).rdr, h32⟩) (by omega)).mono ?_; rintro _ w5 ⟨rfl, hbad, ho⟩; have HO : Hid (∃ W1, Below w3.heap.size w3 W1 ∧ OnlyB B W1 w5) := ⟨_, by first | exact (Below.refl _ _).drew | exact Below.refl _ _, ho⟩; have Hbad := Lib.hid hbad; have hcp : (Builtin.copy_ #[23, 23] 3 #[.slice (some ⟨E, 0, none⟩) 32 32, .slice none 0 0]).run Try.prog w5 = .ok (goInt 0) w5 := run_copy_none w5 _ _ _ 5 _ _ _ _ _ _ Try.underlying23 info_u8 (by simp); clear hbad ho)
      all_goals
        obtain ⟨W1, hW1, hO⟩ := HO.out
        have hbA := Hb3.out.trans (hW1.mono Hb3.out.size)
        have Hb5 := Lib.hid (hO.below hbA HBw.out)
        have hR : w.heap.size + 1 < w3.heap.size := canAt_lt HR3.out
        have HR5 := Lib.hid ((hO.canAt (w.heap.size + 1) 0 33 (Ne.symm HBR.out)).trans ((canAt_below hW1 hR 0 33).trans HR3.out))
        clear hW1 hO hbA hR HO hcp HR3 Hb3 Hrd3
        go_wp2_with fail
        refine (Number_no B 8 _ (.inl Hbad.out) (by omega) (by omega)).mono ?_
        rintro _ w6 ⟨rfl, hbad6, ho6⟩
        have Hb6 := Lib.hid (ho6.below Hb5.out HBw.out)
        have HR6 := Lib.hid ((ho6.canAt (w.heap.size + 1) 0 33 (Ne.symm HBR.out)).trans HR5.out)
        have Hbad6 := Lib.hid hbad6
        clear hbad6 ho6 Hb5 HR5 Hbad
        go_wp2_with fail
        refine (done_bad B _ Hbad6.out).mono ?_
        rintro _ _ ⟨rfl, rfl⟩
        have hR6 := HR6.out
        go_wp2
        refine bodyPost_ret (results_ent rfl _ _ (w.heap.size + 1) 0 _ _ _ rfl rfl rfl (setE _ _ _ hR6 (by simp))) rfl ⟨PEnt.no Hno.out, setAt_below Hb6.out (by omega) _ _⟩
    · have hT : (l.take 32).length = 32 := by rw [List.length_take]; omega
      have HT := Lib.hid hT
      clear hT
      go_wp2_with fail
      go_region_with (go_at_call 30; refine (takeG B g l 32 _ (Hrd3.out.below (by first | exact (Below.refl _ _).drew | exact Below.refl _ _)) (by omega) (by omega)).mono ?_; rintro _ w5 ⟨⟨v, rfl, hnn, hown⟩, hrd, w4, ho, hb5⟩; have HO : Hid (∃ W1, Below w3.heap.size w3 W1 ∧ OnlyB B W1 w4) := ⟨_, by first | exact (Below.refl _ _).drew | exact Below.refl _ _, ho⟩; have Hrd := Lib.hid hrd; have Hb45 := Lib.hid hb5; obtain ⟨g2, c2, rfl, hbg2, hlc2, hcm2, hr2, hk2⟩ := hown.view (by rw [HT.out]; omega); rw [HT.out] at hr2 hlc2 ⊢; have hkE5 : canAt w5 E 0 33 = true := (by obtain ⟨W1, hW1, hO⟩ := HO.out; have h1 := (canAt_below hW1 (canAt_lt HkE3.out) 0 33).trans HkE3.out; have h2 := (hO.canAt E 0 33 (Ne.symm HBE.out)).trans h1; exact (canAt_below hb5 (canAt_lt h2) 0 33).trans h2); have HkE5 := Lib.hid hkE5; have hcp := copy_sec w5 3 E 0 32 32 g2 0 32 c2 32 (by simp) (bv (l.take 32)) (canAt_sub hkE5 0 32 (by omega)) hr2 (bv_one _); clear hnn hown hrd ho hb5 hbg2 hr2 hk2 hkE5)
      all_goals
        obtain ⟨W1, hW1, hO⟩ := HO.out
        have hbA := hO.below (Hb3.out.trans (hW1.mono Hb3.out.size)) HBw.out
        have hbB := hbA.trans (Hb45.out.mono hbA.size)
        have hR : w.heap.size + 1 < w3.heap.size := canAt_lt HR3.out
        have hR4 := (hO.canAt (w.heap.size + 1) 0 33 (Ne.symm HBR.out)).trans ((canAt_below hW1 hR 0 33).trans HR3.out)
        have hR5 := (canAt_below Hb45.out (canAt_lt hR4) 0 33).trans hR4
        have hrE4 := (hO.readAt E 0 33 (Ne.symm HBE.out)).trans ((readAt_below hW1 (canAt_lt HkE3.out) 0 33).trans HrE3.out)
        have hrE5 := (readAt_below Hb45.out (readAt_lt hrE4) 0 33).trans hrE4
        have hoE := OnlyB.setAt w5 E 0 (bv (l.take 32))
        have HrE7 : Hid (readAt (setAt w5 E 0 (bv (l.take 32))) E 0 33 = some (ev (entOf x) 0)) := by
          show _ = _
          rw [readAt_setAt_over _ _ 0 33 _ hrE5 HkE5.out 0 _ (Nat.le_refl _) (by simp; omega), Nat.sub_zero, put_ev _ HT.out, HDO.out]
        have HkE7 : Hid (canAt (setAt w5 E 0 (bv (l.take 32))) E 0 33 = true) := by
          show _ = _
          rw [canAt_setAt _ _ _ _ _ _ _ (by simpa [HT.out] using canAt_sub HkE5.out 0 32 (by omega))]; exact HkE5.out
        have HR7 := Lib.hid ((hoE.canAt (w.heap.size + 1) 0 33 (by have := HER.out; omega)).trans hR5)
        have Hrd7 := Lib.hid (Hrd.out.only hoE HBE.out HgE.out).rdr
        have Hb7 := Lib.hid (hoE.below hbB (by have := HER.out; omega))
        clear hW1 hO hbA hbB hR hR4 hR5 hrE4 hrE5 hoE HO hcp HR3 Hb3 Hrd3 Hrd Hb45 HkE5 HrE3 HkE3 HT HDO
        generalize setAt w5 E 0 (bv (l.take 32)) = w7 at *
        go_wp2_with fail
        by_cases hl40 : l.length < 40
        · have h40 : ¬ l.length = 40 := by omega
          have Hno : Hid (okE x = false) := by show _ = _; rw [HokE.out, decide_eq_false h40]; rfl
          clear HokE HEO h40
          refine (Number_no B 8 _ (.inr ⟨_, Hrd7.out, by rw [List.length_drop]; omega⟩) (by omega) (by omega)).mono ?_
          rintro _ w8 ⟨rfl, hbad8, ho8⟩
          have Hb8 := Lib.hid (ho8.below Hb7.out HBw.out)
          have HR8 := Lib.hid ((ho8.canAt (w.heap.size + 1) 0 33 (Ne.symm HBR.out)).trans HR7.out)
          have Hbad8 := Lib.hid hbad8
          clear hbad8 ho8 Hb7 HR7 Hrd7 HrE7 HkE7
          go_wp2_with fail
          refine (done_bad B _ Hbad8.out).mono ?_
          rintro _ _ ⟨rfl, rfl⟩
          have hR8 := HR8.out
          go_wp2
          refine bodyPost_ret (results_ent rfl _ _ (w.heap.size + 1) 0 _ _ _ rfl rfl rfl (setE _ _ _ hR8 (by simp))) rfl ⟨PEnt.no Hno.out, setAt_below Hb8.out (by omega) _ _⟩
        · refine (Number_ok B _ 8 _ Hrd7.out (by omega) (by omega) (by rw [List.length_drop]; omega)).mono ?_
          rintro _ w8 ⟨rfl, hrd8, ho8⟩
          have Hb8 := Lib.hid (ho8.below Hb7.out HBw.out)
          have HR8 := Lib.hid ((ho8.canAt (w.heap.size + 1) 0 33 (Ne.symm HBR.out)).trans HR7.out)
          have HrE8 := Lib.hid ((ho8.readAt E 0 33 (Ne.symm HBE.out)).trans HrE7.out)
          have HkE8 := Lib.hid ((ho8.canAt E 0 33 (Ne.symm HBE.out)).trans HkE7.out)
          have Hrd8 := Lib.hid hrd8
          clear hrd8 ho8 Hb7 HR7 Hrd7 HrE7 HkE7
          by_cases h40 : l.length = 40
          · have hnil : decide ((l.drop 32).drop 8 = []) = true := by
              rw [List.drop_drop]; simp; omega
            have htk : (l.drop 32).take 8 = l.drop 32 := List.take_of_length_le (by rw [List.length_drop]; omega)
            have hlt : expOf x < 18446744073709551616 := by
              rw [HEO.out]
              have h1 := nb_lt (l.drop 32)
              rw [List.length_drop, h40] at h1
              exact h1
            have hokE : okE x = decide (expOf x ≤ 4611686018427387904) := by rw [HokE.out, decide_eq_true h40]; rfl
            have HokE' := Lib.hid hokE
            rw [htk, ← HEO.out]
            clear htk HEO HokE hokE
            generalize hXX : expOf x = X at *
            have HXX := Lib.hid hXX
            clear hXX
            go_wp2_with fail
            refine (done_ok B _ _ Hrd8.out).mono ?_
            rintro _ _ ⟨rfl, rfl⟩
            rw [hnil]
            clear hnil
            by_cases hX : X ≤ 4611686018427387904
            · have hd : decide ((4611686018427387904 : Int) < (X : Int)) = false := by simp; omega
              have hwr : wrap64 (X : Int) = (X : Int) := by rw [← wrap_i64_eq]; exact wrap_small X hX
              have Hyes : Hid (okE x = true) := by show _ = _; rw [HokE'.out, decide_eq_true hX]
              have hcE := readAt_cell HrE8.out 32 _ (ev_32 _ _)
              have hfE := canAt_cell HkE8.out 32
              rw [Nat.zero_add] at hcE hfE
              have hcan1 := canAt_sub HkE8.out 32 1 (by omega)
              have hoE := OnlyB.setAt w8 E 32 #[.int .i64 (X : Int)]
              have hrE9 : readAt (setAt w8 E 32 #[.int .i64 (X : Int)]) E 0 33 = some (ev (entOf x) (X : Int)) := by
                rw [readAt_setAt_over _ _ 0 33 _ HrE8.out HkE8.out 32 _ (by omega) (by simp), Nat.sub_zero, put_exp]
              have hR9 := (hoE.canAt (w.heap.size + 1) 0 33 (by have := HER.out; omega)).trans HR8.out
              have Hb9 := Lib.hid (hoE.below Hb8.out (by have := HER.out; omega))
              have hsc := setCell_setAt (v := .int .i64 (X : Int)) hcan1
              clear hoE HokE' hX
              go_wp2_with fail
              generalize setAt w8 E 32 #[.int .i64 (X : Int)] = w9 at *
              go_region
              all_goals
                have hk6 : canAt w9.drew (w.heap.size + 1) 0 33 = true := by rw [canAt_drew]; exact hR9
                have hfin := Hb9.out.drew
                go_wp2
                refine bodyPost_ret (results_ent rfl _ _ (w.heap.size + 1) 0 _ _ _ rfl rfl rfl (setE _ _ _ hk6 (by simp))) rfl ⟨?_, setAt_below hfin (by omega) _ _⟩
                rw [← HXX.out]
                exact PEnt.yes Hyes.out
            · have hd : decide ((4611686018427387904 : Int) < (X : Int)) = true := by simp; omega
              have Hno : Hid (okE x = false) := by show _ = _; rw [HokE'.out, decide_eq_false hX]
              have hR8 := HR8.out
              clear HokE' hX
              go_wp2
              refine bodyPost_ret (results_ent rfl _ _ (w.heap.size + 1) 0 _ _ _ rfl rfl rfl (setE _ _ _ hR8 (by simp))) rfl ⟨PEnt.no Hno.out, setAt_below Hb8.out (by omega) _ _⟩
          · have hnil : decide ((l.drop 32).drop 8 = []) = false := by
              rw [List.drop_drop]; simp; omega
            have Hno : Hid (okE x = false) := by show _ = _; rw [HokE.out, decide_eq_false h40]; rfl
            clear HokE HEO
            generalize nb ((l.drop 32).take 8) = X at *
            go_wp2_with fail
            refine (done_ok B _ _ Hrd8.out).mono ?_
            rintro _ _ ⟨rfl, rfl⟩
            rw [hnil]
            have hR8 := HR8.out
            go_wp2
            refine bodyPost_ret (results_ent rfl _ _ (w.heap.size + 1) 0 _ _ _ rfl rfl rfl (setE _ _ _ hR8 (by simp))) rfl ⟨PEnt.no Hno.out, setAt_below Hb8.out (by omega) _ _⟩
  · obtain rfl := hpo.no (by simpa using hok)
    have hno : okE x = false := by unfold okE; rw [show okF x = false by simpa using hok]; rfl
    have hk1 := Hk1.out
    clear hpo
    go_wp2
    refine bodyPost_ret (results_ent rfl _ _ (w.heap.size + 1) 0 _ _ _ rfl rfl rfl (setE _ _ _ hk1 (by simp))) rfl ⟨PEnt.no hno, setAt_below Hb1.out (by omega) _ _⟩
end Go.Proofs.Ytlonmghkdobhdaa
