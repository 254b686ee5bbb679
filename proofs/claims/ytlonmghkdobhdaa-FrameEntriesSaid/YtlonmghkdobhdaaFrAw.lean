/- awake of tolllaw17 answers true. No conditions. -/
import Derived.Test.YtlonmghkdobhdaaFr8
set_option linter.unusedSimpArgs false
set_option linter.unusedVariables false
namespace Go.Proofs.Ytlonmghkdobhdaa
open Go.RowKit

def abc : List UInt8 := [97, 98, 99]
theorem lit_abc (w : World) (fr : Nat × Nat) : readAt (w.alloc (.cells #[.int .u8 97, .int .u8 98, .int .u8 99] 5 fr)) w.heap.size 0 3 = some (bv abc) := by
  rw [readAt_alloc_at _ _ _ _ _ _ _ rfl (by simp)]; rfl
theorem ok_zsec : okF zsec = false := by decide +kernel
theorem e_0 : ((sl (recS 7 [])).getD 0 0).toNat = 0 := by decide +kernel
theorem e_55 : ((sl (recS 7 [])).getD 55 0).toNat = 0 := by decide +kernel
theorem e_62 : ((sl (recS 7 [])).getD 62 0).toNat = 0 := by decide +kernel
theorem e_63 : ((sl (recS 7 [])).getD 63 0).toNat = 7 := by decide +kernel
theorem abc_le : abc.length ≤ 54 := by decide
theorem toll_le : toll.length ≤ 54 := by decide
theorem okH_rec (g : Nat) : okH (recS g toll) = true := by unfold okH; rw [rec_ok toll_le, rec_pay toll_le]; simp
theorem headTag_rec (g : Nat) (hg : g < 4294967296) : headTag (recS g toll) = g := by rw [headTag_yes (okH_rec g), rec_tag toll_le hg]
theorem make55 (w : World) : (Instr.makeSlice 23 (.int .i64 55) (.int .i64 55)).run Try.prog w = .ok (.slice (some ⟨w.heap.size, 0, none⟩) 55 55) (w.alloc (.cells (madeCells #[.int .u8 0] 55) 5)) := by
  obtain ⟨i0, hi, hz, hsz, hby⟩ := info_parts view_u8
  have := run_make (P := Try.prog) w 23 5 i0 _ Try.underlying23 hi hz .i64 .i64 55 55 (by omega) (by omega) (by rw [hby]; omega) (by omega)
  rw [hsz] at this
  exact this

set_option maxRecDepth 100000 in
set_option maxHeartbeats 6400000 in
theorem awake_any (w : World) : Calls Try.prog 8 #[] w fun x w' => x = .returned (.bool true) ∧ Below w.heap.size w w' := by
  have hb0 := ba (.cells #[.int .u8 97, .int .u8 98, .int .u8 99] 5 (3, 4)) (Below.refl w.heap.size w)
  have HL := Lib.hid (Bs.lit (l := abc) 3 rfl (by omega) (lit_abc w (3, 4)))
  have Hb0 := Lib.hid hb0
  clear hb0
  go_enter Try.func8, Try.ntmps8
  go_wp2_with fail
  refine (fmake_yes 7 _ 3 3 abc _ (by omega) HL.out (by omega)).mono ?_
  rintro _ w1 ⟨rfl, hb1⟩
  have hrX : readAt (w1.alloc (.cells (av (recS 7 abc)) 25)) w1.heap.size 0 64 = some (av (recS 7 abc)) := by simp [go_sem]
  have HrX := Lib.hid hrX
  have Hb1 := Lib.hid (ba (.cells (av (recS 7 abc)) 25) (bt Hb0.out hb1))
  have hokX := rec_ok (g := 7) abc_le
  have htagX := rec_tag abc_le (show 7 < 4294967296 by omega)
  have hpayX := rec_pay (g := 7) abc_le
  generalize recS 7 abc = X at *
  have HokX := Lib.hid hokX
  have HtagX := Lib.hid htagX
  have HpayX := Lib.hid hpayX
  clear hb1 hokX htagX hpayX HL Hb0 hrX
  go_wp2_with fail
  refine (fparse_any X _).mono ?_
  rintro _ w2 ⟨hp, hb2⟩
  obtain ⟨v, rfl, hown⟩ := hp.yes HokX.out
  rw [HtagX.out]
  rw [HpayX.out] at hown
  obtain ⟨pa, pc, rfl, hpb⟩ := hown.bs
  have HP := Lib.hid hpb
  have HrX2 : Hid (readAt w2 w1.heap.size 0 64 = some (av X)) := by show _ = _; rw [readAt_below hb2 (readAt_lt HrX.out)]; exact HrX.out
  have Hb2 := Lib.hid (bt Hb1.out hb2)
  clear hp hb2 hown hpb HrX Hb1
  go_wp2_with fail
  refine (fmake_yes 7 none 0 0 [] _ (by omega) (Bs.nil _) (by omega)).mono ?_
  rintro _ w3 ⟨rfl, hb3⟩
  have e0 := e_0
  have e1 := e_55
  have e2 := e_62
  have e3 := e_63
  generalize recS 7 [] = Y at *
  have hx3 := ba (.cells (av Y) 25) (Below.refl w3.heap.size w3)
  have hrY : readAt (w3.alloc (.cells (av Y) 25)) w3.heap.size 0 64 = some (av Y) := by simp [go_sem]
  have HrY := Lib.hid hrY
  have HE0 := Lib.hid e0
  have HE1 := Lib.hid e1
  have HE2 := Lib.hid e2
  have HE3 := Lib.hid e3
  have HrX3 : Hid (readAt (w3.alloc (.cells (av Y) 25)) w1.heap.size 0 64 = some (av X)) := by
    show _ = _; rw [readAt_below (bt hb3 hx3) (readAt_lt HrX2.out)]; exact HrX2.out
  have HP3 := Lib.hid (HP.out.below (bt hb3 hx3))
  have Hb3 := Lib.hid (bt Hb2.out (bt hb3 hx3))
  clear hb3 hx3 hrY e0 e1 e2 e3 HrX2 HP Hb2
  have hmk := make55
  go_wp2_with fail
  refine (fmake_no 7 _ 55 55 _ (by omega)).mono ?_
  rintro _ w4 ⟨rfl, hb4⟩
  have hx4 := bt (bt (ba _ (Below.refl _ _)) hb4) (ba (.cells (av zsec) 25) (Below.refl w4.heap.size w4))
  have HrX4 : Hid (readAt (w4.alloc (.cells (av zsec) 25)) w1.heap.size 0 64 = some (av X)) := by
    show _ = _; rw [readAt_below hx4 (readAt_lt HrX3.out)]; exact HrX3.out
  have HrY4 : Hid (readAt (w4.alloc (.cells (av zsec) 25)) w3.heap.size 0 64 = some (av Y)) := by
    show _ = _; rw [readAt_below hx4 (readAt_lt HrY.out)]; exact HrY.out
  have HP4 := Lib.hid (HP3.out.below hx4)
  have Hb4 := Lib.hid (bt Hb3.out hx4)
  have Hok0 := Lib.hid ok_zsec
  clear hmk hb4 hx4 HrX3 HrY HP3 Hb3
  go_wp2_with fail
  refine (fparse_any zsec _).mono ?_
  rintro _ w5 ⟨hp, hb5⟩
  have he := hp.no Hok0.out
  subst he
  have HrX5 : Hid (readAt w5 w1.heap.size 0 64 = some (av X)) := by show _ = _; rw [readAt_below hb5 (readAt_lt HrX4.out)]; exact HrX4.out
  have HrY5 : Hid (readAt w5 w3.heap.size 0 64 = some (av Y)) := by show _ = _; rw [readAt_below hb5 (readAt_lt HrY4.out)]; exact HrY4.out
  have HP5 := Lib.hid (HP4.out.below hb5)
  have Hb5 := Lib.hid (bt Hb4.out hb5)
  clear hp hb5 HrX4 HrY4 HP4 Hb4
  go_wp2_with fail
  refine (header_any 9 _ (by omega)).mono ?_
  rintro _ w6 ⟨rfl, hb6⟩
  have hokH := okH_rec 9
  have htagH := headTag_rec 9 (by omega)
  generalize recS 9 toll = Z at *
  have HokH := Lib.hid hokH
  have HtagH := Lib.hid htagH
  have HrX6 : Hid (readAt w6 w1.heap.size 0 64 = some (av X)) := by show _ = _; rw [readAt_below hb6 (readAt_lt HrX5.out)]; exact HrX5.out
  have HrY6 : Hid (readAt w6 w3.heap.size 0 64 = some (av Y)) := by show _ = _; rw [readAt_below hb6 (readAt_lt HrY5.out)]; exact HrY5.out
  have HP6 := Lib.hid (HP5.out.below hb6)
  have Hb6 := Lib.hid (bt Hb5.out hb6)
  clear hb6 hokH htagH HrX5 HrY5 HP5 Hb5
  go_wp2_with fail
  refine (fhead_any Z _).mono ?_
  rw [HokH.out, HtagH.out]
  rintro _ w7 ⟨rfl, hb7⟩
  have HrX7 : Hid (readAt w7 w1.heap.size 0 64 = some (av X)) := by show _ = _; rw [readAt_below hb7 (readAt_lt HrX6.out)]; exact HrX6.out
  have HrY7 : Hid (readAt w7 w3.heap.size 0 64 = some (av Y)) := by show _ = _; rw [readAt_below hb7 (readAt_lt HrY6.out)]; exact HrY6.out
  have hP7 := HP6.out.below hb7
  have Hb7 := Lib.hid (bt Hb6.out hb7)
  have kc := conv_bs hP7
  have hs1 : ((strL abc).toList == [97, 98, 99]) = true := by rw [strL_toList]; rfl
  have hrX7 := HrX7.out
  clear hb7 HrX6 HrY6 HP6 Hb6 hP7 HrX7
  go_wp2_with fail
  refine (ftag_any X _).mono ?_
  rw [HtagX.out]
  rintro _ w8 ⟨rfl, hb8⟩
  have hrY8 : readAt w8 w3.heap.size 0 64 = some (av Y) := by rw [readAt_below hb8 (readAt_lt HrY7.out)]; exact HrY7.out
  have c0 := sl_cell hrY8 0 (by omega)
  have c1 := sl_cell hrY8 55 (by omega)
  have c2 := sl_cell hrY8 62 (by omega)
  have c3 := sl_cell hrY8 63 (by omega)
  rw [HE0.out] at c0
  rw [HE1.out] at c1
  rw [HE2.out] at c2
  rw [HE3.out] at c3
  have hfin := Lib.hid (bt Hb7.out hb8)
  clear hb8 hrY8 HrY7 Hb7 hrX7 kc hs1
  go_wp2
  go_ret
  exact ⟨rfl, hfin.out⟩
end Go.Proofs.Ytlonmghkdobhdaa
