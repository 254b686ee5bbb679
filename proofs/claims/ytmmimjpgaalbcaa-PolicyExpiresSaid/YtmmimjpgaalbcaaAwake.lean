/- awake of tolllaw22 answers true. No conditions. -/
import Derived.Test.YtmmimjpgaalbcaaMake
set_option linter.unusedSimpArgs false
set_option linter.unusedVariables false
namespace Go.Proofs.Ytmmimjpgaalbcaa
open Go.RowKit

theorem places_Tk : (match Try.prog.underlying 27 with | some (.struct fields) => fields.toList.mapM (fun f => (Try.prog.info? f.type).map fun i => (f.offset, i.size)) | _ => none) = some [(0, 2), (2, 1), (3, 1), (4, 16)] := by kernel_rfl
theorem built_Tk (r : ByteArray) (ad : Option Addr) (n c : Nat) (s e : Int) : Try.prog.built 27 [(0, .agg #[.string r, .slice ad n c]), (1, .int .i64 s), (2, .int .i64 e)] = some (tv r ad n c s e zkey) := by
  obtain ⟨i, hi, hz, hs, hb⟩ := info_parts view_Tk
  have hp := places_Tk
  rw [Try.underlying27] at hp
  simp only [Program.built, hi, Try.underlying27, hz]
  simp only at hp
  rw [hp]
  simp only [Value.cells, Instr.fill, List.getElem?_toArray, List.getElem?_cons_zero, List.getElem?_cons_succ, Nat.zero_add]
  rw [if_neg (by simp), if_neg (by simp), if_neg (by simp)]
  have f1 := fill_put (tv ⟨#[]⟩ none 0 0 0 0 zkey) #[.string r, .slice ad n c] 0 (by simp)
  simp only [Nat.zero_add] at f1
  rw [f1, fill_put _ #[.int .i64 s] 2 (by rw [putAt_size _ _ _ (by simp)]; simp), fill_put _ #[.int .i64 e] 3 (by rw [putAt_size _ _ _ (by rw [putAt_size _ _ _ (by simp)]; simp), putAt_size _ _ _ (by simp)]; simp)]
  congr 1
  apply Array.ext'
  unfold tv
  simp [putAt]
@[go_sem] theorem run_BuildTk (w : World) (r : ByteArray) (ad : Option Addr) (n c : Nat) (s e : Int) : (BuildTk #[(0, .agg #[.string r, .slice ad n c]), (1, .int .i64 s), (2, .int .i64 e)]).run Try.prog w = .ok (.agg (tv r ad n c s e zkey)) w := run_build w _ _ _ (built_Tk r ad n c s e)

theorem i10 : Is64 10 := by unfold Is64; omega
theorem i20 : Is64 20 := by unfold Is64; omega
theorem i15 : Is64 15 := by unfold Is64; omega
theorem i1 : Is64 1 := by unfold Is64; omega

set_option maxHeartbeats 3200000 in
theorem awake_any (w : World) : Calls Try.prog 6 #[] w fun x w' => x = .returned (.bool true) ∧ Below w.heap.size w w' := by
  go_enter Try.func6, Try.ntmps6
  go_wp2_with fail
  refine (make_any w).mono ?_
  rintro _ w1 ⟨⟨ad, c, rfl, hs1⟩, hb1⟩
  go_wp2_with fail
  have T1 := TkAt.new w1 alice ad 1 c 10 20 zkey
  have hb2 := ba (.cells (tv alice ad 1 c 10 20 zkey) 27) hb1
  have S1 := hs1.below (ba (.cells (tv alice ad 1 c 10 20 zkey) 27) (Below.refl _ w1))
  refine (make_any _).mono ?_
  rintro _ w2 ⟨⟨bd, c2, rfl, hs2⟩, hb3⟩
  have T2 := T1.below hb3
  have S2 := S1.below hb3
  have hb4 := bt hb2 hb3
  clear T1 S1 hb1 hb2 hb3 hs1
  have hx := ba (.cells #[.string alice, .slice bd 1 c2, .int .i64 15, .int .u32 0, .int .u32 0] 33) (Below.refl w2.heap.size w2)
  have hlt : w1.heap.size < w2.heap.size := readAt_lt T2
  have U2 := AuAt.new w2 alice bd 1 c2 15 0 0
  have hns : nsame alice alice [host] [host] = true := by simp [nsame]
  have HN := Lib.hid hns
  have T3 := Lib.hid (T2.below hx)
  have U3 := Lib.hid U2
  have SA3 := Lib.hid (S2.below hx)
  have SB3 := Lib.hid (hs2.below hx)
  have HB3 := Lib.hid (bt hb4 hx)
  obtain ⟨f0, f1, f2, f3, f4⟩ := T2.cells
  clear U2 S2 hs2 hb4 hx hns T2
  go_wp2_with fail
  refine (times_any alice alice ad bd 1 1 c c2 [host] [host] 10 20 15 0 0 zkey 1 _ i10 i20 i15 i1 SA3.out SB3.out HN.out (by decide)).mono ?_
  rintro _ w4 ⟨rfl, hb⟩
  have T4 := Lib.hid (T3.out.below hb)
  have U4 := Lib.hid (U3.out.below hb)
  have SA4 := Lib.hid (SA3.out.below hb)
  have SB4 := Lib.hid (SB3.out.below hb)
  have HB4 := Lib.hid (bt HB3.out hb)
  clear T3 U3 SA3 SB3 HB3 hb f0 f1 f2 f3 f4
  obtain ⟨f0, f1, f2, f3, f4⟩ := T4.out.cells
  obtain ⟨g0, g1, g2, g3, g4, g5⟩ := U4.out
  go_wp2_with fail
  refine (usable_any alice ad 1 c 10 20 zkey 9 1 _ i10 i20 i1).mono ?_
  rw [show (side 9 10 20 1 == 0) = true by decide]
  rintro _ w5 ⟨rfl, hb⟩
  have T5 := Lib.hid (T4.out.below hb)
  have U5 := Lib.hid (U4.out.below hb)
  have SA5 := Lib.hid (SA4.out.below hb)
  have SB5 := Lib.hid (SB4.out.below hb)
  have HB5 := Lib.hid (bt HB4.out hb)
  clear T4 U4 SA4 SB4 HB4 hb f0 f1 f2 f3 f4 g0 g1 g2 g3 g4 g5
  obtain ⟨f0, f1, f2, f3, f4⟩ := T5.out.cells
  obtain ⟨g0, g1, g2, g3, g4, g5⟩ := U5.out
  go_wp2_with fail
  refine (usable_any alice ad 1 c 10 20 zkey 21 1 _ i10 i20 i1).mono ?_
  rw [show (side 21 10 20 1 == 0) = true by decide]
  rintro _ w6 ⟨rfl, hb⟩
  have T6 := Lib.hid (T5.out.below hb)
  have U6 := Lib.hid (U5.out.below hb)
  have SA6 := Lib.hid (SA5.out.below hb)
  have SB6 := Lib.hid (SB5.out.below hb)
  have HB6 := Lib.hid (bt HB5.out hb)
  clear T5 U5 SA5 SB5 HB5 hb f0 f1 f2 f3 f4 g0 g1 g2 g3 g4 g5
  obtain ⟨f0, f1, f2, f3, f4⟩ := T6.out.cells
  obtain ⟨g0, g1, g2, g3, g4, g5⟩ := U6.out
  go_wp2_with fail
  refine (usable_any alice ad 1 c 10 20 zkey 8 1 _ i10 i20 i1).mono ?_
  rw [show (side 8 10 20 1 == 0) = false by decide]
  rintro _ w7 ⟨rfl, hb⟩
  have T7 := Lib.hid (T6.out.below hb)
  have U7 := Lib.hid (U6.out.below hb)
  have SA7 := Lib.hid (SA6.out.below hb)
  have SB7 := Lib.hid (SB6.out.below hb)
  have HB7 := Lib.hid (bt HB6.out hb)
  clear T6 U6 SA6 SB6 HB6 hb f0 f1 f2 f3 f4 g0 g1 g2 g3 g4 g5
  obtain ⟨f0, f1, f2, f3, f4⟩ := T7.out.cells
  obtain ⟨g0, g1, g2, g3, g4, g5⟩ := U7.out
  go_wp2_with fail
  refine (usable_any alice ad 1 c 10 20 zkey 22 1 _ i10 i20 i1).mono ?_
  rw [show (side 22 10 20 1 == 0) = false by decide]
  rintro _ w8 ⟨rfl, hb⟩
  have T8 := Lib.hid (T7.out.below hb)
  have U8 := Lib.hid (U7.out.below hb)
  have SA8 := Lib.hid (SA7.out.below hb)
  have SB8 := Lib.hid (SB7.out.below hb)
  have HB8 := Lib.hid (bt HB7.out hb)
  clear T7 U7 SA7 SB7 HB7 hb f0 f1 f2 f3 f4 g0 g1 g2 g3 g4 g5
  obtain ⟨f0, f1, f2, f3, f4⟩ := T8.out.cells
  obtain ⟨g0, g1, g2, g3, g4, g5⟩ := U8.out
  go_wp2_with fail
  refine (check_any alice alice ad bd 1 1 c c2 [host] [host] 10 20 15 0 0 15 1 zkey _ i10 i20 i15 (by unfold Is64; omega) i1 SA8.out SB8.out).mono ?_
  rw [HN.out, show rest (decide ((15 : Int) < sat (10 - 1))) (decide (sat (20 + 1) < (15 : Int))) (!true) (decide ((1 : Int) < sat (max 15 15 - min 15 15))) 0 = 0 by decide]
  rintro _ w9 ⟨rfl, hb⟩
  have T9 := Lib.hid (T8.out.below hb)
  have U9 := Lib.hid (U8.out.below hb)
  have SA9 := Lib.hid (SA8.out.below hb)
  have SB9 := Lib.hid (SB8.out.below hb)
  have HB9 := Lib.hid (bt HB8.out hb)
  clear T8 U8 SA8 SB8 HB8 hb f0 f1 f2 f3 f4 g0 g1 g2 g3 g4 g5
  obtain ⟨f0, f1, f2, f3, f4⟩ := T9.out.cells
  obtain ⟨g0, g1, g2, g3, g4, g5⟩ := U9.out
  go_wp2_with fail
  refine (check_any alice alice ad bd 1 1 c c2 [host] [host] 10 20 15 0 0 17 1 zkey _ i10 i20 i15 (by unfold Is64; omega) i1 SA9.out SB9.out).mono ?_
  rw [HN.out, show rest (decide ((17 : Int) < sat (10 - 1))) (decide (sat (20 + 1) < (17 : Int))) (!true) (decide ((1 : Int) < sat (max 15 17 - min 15 17))) 0 = 6 by decide]
  rintro _ w10 ⟨rfl, hb⟩
  have T10 := Lib.hid (T9.out.below hb)
  have U10 := Lib.hid (U9.out.below hb)
  have SA10 := Lib.hid (SA9.out.below hb)
  have SB10 := Lib.hid (SB9.out.below hb)
  have HB10 := Lib.hid (bt HB9.out hb)
  clear T9 U9 SA9 SB9 HB9 hb f0 f1 f2 f3 f4 g0 g1 g2 g3 g4 g5
  obtain ⟨f0, f1, f2, f3, f4⟩ := T10.out.cells
  obtain ⟨g0, g1, g2, g3, g4, g5⟩ := U10.out
  go_wp2_with fail
  refine (check_any alice alice ad bd 1 1 c c2 [host] [host] 10 20 15 0 0 8 1 zkey _ i10 i20 i15 (by unfold Is64; omega) i1 SA10.out SB10.out).mono ?_
  rw [HN.out, show rest (decide ((8 : Int) < sat (10 - 1))) (decide (sat (20 + 1) < (8 : Int))) (!true) (decide ((1 : Int) < sat (max 15 8 - min 15 8))) 0 = 3 by decide]
  rintro _ w11 ⟨rfl, hb⟩
  have T11 := Lib.hid (T10.out.below hb)
  have U11 := Lib.hid (U10.out.below hb)
  have SA11 := Lib.hid (SA10.out.below hb)
  have SB11 := Lib.hid (SB10.out.below hb)
  have HB11 := Lib.hid (bt HB10.out hb)
  clear T10 U10 SA10 SB10 HB10 hb f0 f1 f2 f3 f4 g0 g1 g2 g3 g4 g5
  obtain ⟨f0, f1, f2, f3, f4⟩ := T11.out.cells
  obtain ⟨g0, g1, g2, g3, g4, g5⟩ := U11.out
  go_wp2_with fail
  refine (expiry_any alice bd 1 c2 15 0 0 1 _ i15 i1).mono ?_
  rw [show sat (15 + 1) = 16 by decide]
  rintro _ w12 ⟨rfl, hb⟩
  have hfin := bt HB11.out hb
  go_wp2
  go_ret
  exact ⟨rfl, hfin⟩
end Go.Proofs.Ytmmimjpgaalbcaa
