/- The examples of the document on a disk hold (awake). No conditions. -/
import Derived.Test.YtjedlcfeobhjnaaFault
import Derived.Test.YtjedlcfeobhjnaaDisk10
set_option linter.unusedSimpArgs false
set_option linter.unusedVariables false
namespace Go.Proofs.Ytjedlcfeobhjnaa
open Go.RowKit Go.ChangeMaps

/-- A block that is not the disk's. -/
def Away (w : World) (p : DP) (b : Nat) : Prop := b < w.heap.size ∧ ¬ p.has b
theorem Away.next {w w' : World} {p p' : DP} {b : Nat} (h : Away w p b) (hk : Kb p.has w w') (hp : ∀ b, p'.has b → p.has b ∨ w.heap.size ≤ b) : Away w' p' b ∧ w'.heap[b]? = w.heap[b]? :=
  ⟨⟨Nat.lt_of_lt_of_le h.1 hk.size, fun hx => by
    rcases hp b hx with h1 | h1
    · exact h.2 h1
    · have := h.1; omega⟩, hk.block b h.1 h.2⟩
theorem Away.below {w w' : World} {p : DP} {b : Nat} (h : Away w p b) (hb : Below w.heap.size w w') : Away w' p b := ⟨Nat.lt_of_lt_of_le h.1 hb.size, h.2⟩
theorem readAt_same {w w' : World} {b : Nat} (h : w'.heap[b]? = w.heap[b]?) (o n : Nat) : readAt w' b o n = readAt w b o n := by simp [readAt, h]

theorem down_nil (w : World) : Calls Try.prog 17 #[.pointer none] w fun e w' => e = .returned (.bool true) ∧ w = w' := by
  go_enter Try.func17, Try.ntmps17
  go_wp2
  go_ret
  exact ⟨rfl, rfl⟩
set_option maxRecDepth 100000 in
theorem sync_nil (w : World) : Calls Try.prog 16 #[.pointer none] w fun e w' => e = .returned (codeV 12) ∧ w = w' := by
  go_enter Try.func16, Try.ntmps16
  go_wp2
  go_ret
  exact ⟨rfl, rfl⟩
theorem size_nil (w : World) : Calls Try.prog 24 #[.pointer none] w fun e w' => e = .returned (.int .i64 0) ∧ w = w' := by
  go_enter Try.func24, Try.ntmps24
  go_wp2
  go_ret
  exact ⟨rfl, rfl⟩

theorem tear_none (x y : Sec) : tear x y 0 = x := by
  apply Vector.ext; intro i hi; simp [tear]; intro h; omega
def dx (s0 : Sec) (o : List (Int × Sec)) (dn : Bool) (n : Int) : DM := { st := [s0, zsec], op := o, down := dn, steps := n, plan := [] }
theorem dx_new : newD 2 = dx zsec [] false 0 := rfl
theorem dx_write (s0 x : Sec) (n : Int) : writeD (dx s0 [] false n) 0 x = (dx s0 [(0, x)] false (n + 1), 0) := rfl
theorem dx_crash1 (s0 x : Sec) (n : Int) : crashD (dx s0 [(0, x)] false n) [] = dx s0 [] true n := by
  show DM.mk [tear s0 x 0, zsec] [] true n [] = _
  rw [tear_none]; rfl
theorem dx_crash0 (s0 : Sec) (n : Int) : crashD (dx s0 [] false n) [] = dx s0 [] true n := rfl
theorem dx_start (s0 : Sec) (n : Int) : startD (dx s0 [] true n) = dx s0 [] false n := rfl
theorem dx_read (s0 : Sec) (n : Int) : readD (dx s0 [] false n) 0 = (s0, 0) := rfl
theorem dx_sync (s0 x : Sec) (n : Int) : syncD (dx s0 [(0, x)] false n) = (dx x [] false (n + 1), 0) := by
  show (DM.mk [tear s0 x 64, zsec] [] false (n + 1) [], (0 : Int)) = _
  rw [tear_all]; rfl
theorem dx_ok (s0 : Sec) (o : List (Int × Sec)) (dn : Bool) (n : Int) (ho : ∀ p ∈ o, p.1 = 0) (hl : o.length ≤ 9) (h0 : 0 ≤ n) (h9 : n ≤ 9) : OkD (dx s0 o dn n) 2 9 :=
  ⟨rfl, fun p hp => by have h := ho p hp; constructor <;> omega, hl, h0, h9⟩
theorem errV_0 (k : Int) : errV 0 k = .nilIface := rfl
theorem errV_12 (k : Int) : errV 12 k = codeV 12 := rfl
theorem rd_nil (w : World) : RdS w (.slice none 0 0) ([] : List Int).length 1 (([] : List Int).map (Value.int .i64)) := ⟨none, 0, rfl, Nat.le_refl _, by simp [maxLen], rfl, fun _ => ⟨rfl, rfl⟩, fun h => absurd h (by simp)⟩

set_option maxRecDepth 100000 in
set_option maxHeartbeats 6400000 in
theorem dawake_any (w : World) : Calls Try.prog 8 #[] w fun e w' => e = .returned (.bool true) ∧ Below w.heap.size w w' := by
  obtain ⟨x, hx⟩ : ∃ x, fill (7 : UInt8) = x := ⟨_, rfl⟩
  have HX := Lib.hid hx
  clear hx
  go_enter Try.func8, Try.ntmps8
  go_wp2_with fail
  refine (new_any w 2 (by omega)).mono ?_
  rintro _ w1 ⟨⟨p1, rfl, hA⟩, hb⟩
  rw [dx_new] at hA
  have HA1 : Hid (DAt w1 w.heap.size p1 2 (dx zsec [] false 0)) := hA
  have HB1 := Lib.hid hb
  clear hA hb
  go_wp2_with fail
  refine (fill_u8 7 w1).mono ?_
  rw [HX.out]
  rintro _ w2 ⟨rfl, hb⟩
  have hy := bt hb (ba (.cells (av x) 35) (Below.refl w2.heap.size w2))
  have HA2 := Lib.hid (HA1.out.below hy)
  have HB2 := Lib.hid (bt HB1.out hy)
  have Hx2 := Lib.hid (show readAt (w2.alloc (.cells (av x) 35)) w2.heap.size 0 64 = some (av x) by simp [go_sem])
  have Haw2 : Hid (Away (w2.alloc (.cells (av x) 35)) p1 w2.heap.size) := ⟨by simp, fun hp => by have h1 := HA1.out.has_lt _ hp; have h2 := hb.size; omega⟩
  have hx2 := Hx2.out
  clear hb hy HA1 HB1
  go_wp2_with fail
  clear hx2
  generalize w2.alloc (.cells (av x) 35) = w3 at *
  generalize w2.heap.size = bx at *
  have HE2 : Hid (p1.B = p1.B) := rfl
  have hx2 := Hx2.out
  clear hx2
  have hcall4 := dwrite_any w3 0 x 9 HA2.out (dx_ok _ _ _ _ (by simp) (by simp) (by omega) (by omega)) (by omega) (by omega) HB2.out.size
  rw [HE2.out, dx_write, errV_0] at hcall4
  refine hcall4.mono ?_
  rintro _ w4 ⟨rfl, p4, hB4, hA4, hK4, hh4⟩
  have HA4 := Lib.hid hA4
  have HE4 : Hid (p4.B = p1.B) := by (show _ = _; first | exact hB4.trans HE2.out | exact hB4)
  have HB4 : Hid (Below w.heap.size w w4) := HB2.out.trans (hK4.below HA2.out.ok.lo HB2.out.size)
  obtain ⟨haw4_bx, hq4_bx⟩ := Haw2.out.next hK4 hh4
  have HR4_bx := Lib.hid ((readAt_same hq4_bx 0 64).trans Hx2.out)
  have HW4_bx := Lib.hid haw4_bx
  clear haw4_bx hq4_bx
  clear hcall4 hB4 hA4 hK4 hh4 HA2 HE2 HB2 Hx2 Haw2
  have fr_bx := HR4_bx.out
  go_wp2_with fail
  clear fr_bx
  have hcall5 := dcrash_any w4 (.slice none 0 0) [] 9 HA4.out (dx_ok _ _ _ _ (by simp) (by simp) (by omega) (by omega)) (by omega) (by omega) HB4.out.size (rd_nil _)
  rw [HE4.out, dx_crash1] at hcall5
  refine hcall5.mono ?_
  rintro _ w5 ⟨rfl, p5, hB5, hA5, hK5, hh5⟩
  have HA5 := Lib.hid hA5
  have HE5 : Hid (p5.B = p1.B) := by (show _ = _; first | exact hB5.trans HE4.out | exact hB5)
  have HB5 : Hid (Below w.heap.size w w5) := HB4.out.trans (hK5.below HA4.out.ok.lo HB4.out.size)
  obtain ⟨haw5_bx, hq5_bx⟩ := HW4_bx.out.next hK5 hh5
  have HR5_bx := Lib.hid ((readAt_same hq5_bx 0 64).trans HR4_bx.out)
  have HW5_bx := Lib.hid haw5_bx
  clear haw5_bx hq5_bx
  clear hcall5 hB5 hA5 hK5 hh5 HA4 HE4 HB4 HR4_bx HW4_bx
  have fr_bx := HR5_bx.out
  go_wp2_with fail
  clear fr_bx
  have hcall6 := start_any w5 HA5.out
  rw [HE5.out, dx_start] at hcall6
  refine hcall6.mono ?_
  rintro _ w6 ⟨rfl, p6, hB6, hA6, hK6, hh6⟩
  have HA6 := Lib.hid hA6
  have HE6 : Hid (p6.B = p1.B) := by (show _ = _; first | exact hB6.trans HE5.out | exact hB6)
  have HB6 : Hid (Below w.heap.size w w6) := HB5.out.trans (hK6.below HA5.out.ok.lo HB5.out.size)
  obtain ⟨haw6_bx, hq6_bx⟩ := HW5_bx.out.next hK6 hh6
  have HR6_bx := Lib.hid ((readAt_same hq6_bx 0 64).trans HR5_bx.out)
  have HW6_bx := Lib.hid haw6_bx
  clear haw6_bx hq6_bx
  clear hcall6 hB6 hA6 hK6 hh6 HA5 HE5 HB5 HR5_bx HW5_bx
  have fr_bx := HR6_bx.out
  go_wp2_with fail
  clear fr_bx
  have hcall7 := dread_any w6 0 9 HA6.out (dx_ok _ _ _ _ (by simp) (by simp) (by omega) (by omega)) (by omega) (by omega)
  rw [HE6.out, dx_read, errV_0] at hcall7
  refine hcall7.mono ?_
  rintro _ w7 ⟨rfl, hb7⟩
  have hy7 := bt hb7 (ba (.cells (av zsec) 35) (Below.refl w7.heap.size w7))
  have HA7 := Lib.hid (HA6.out.below hy7)
  have HB7 := Lib.hid (bt HB6.out hy7)
  have HE7 := HE6
  have HR7_bx := Lib.hid ((readAt_below hy7 HW6_bx.out.1 0 64).trans HR6_bx.out)
  have HW7_bx := Lib.hid (HW6_bx.out.below hy7)
  have HR7_bq := Lib.hid (show readAt (w7.alloc (.cells (av zsec) 35)) w7.heap.size 0 64 = some (av zsec) by simp [go_sem])
  have HW7_bq : Hid (Away (w7.alloc (.cells (av zsec) 35)) p6 w7.heap.size) := ⟨by simp, fun hp => by (have h1 := HA6.out.has_lt _ hp; have h2 := hb7.size; omega)⟩
  clear hcall7 hb7 hy7 HA6 HB6 HE6 HR6_bx HW6_bx
  have hlt7 := HW7_bx.out.1
  have fr_bx := HR7_bx.out
  have fr_bq := HR7_bq.out
  go_wp2_with fail
  clear fr_bx
  clear fr_bq
  clear hlt7
  generalize w7.alloc (.cells (av zsec) 35) = v7 at *
  generalize w7.heap.size = bq at *
  have hcall8 := dwrite_any v7 0 x 9 HA7.out (dx_ok _ _ _ _ (by simp) (by simp) (by omega) (by omega)) (by omega) (by omega) HB7.out.size
  rw [HE7.out, dx_write, errV_0] at hcall8
  refine hcall8.mono ?_
  rintro _ w8 ⟨rfl, p8, hB8, hA8, hK8, hh8⟩
  have HA8 := Lib.hid hA8
  have HE8 : Hid (p8.B = p1.B) := by (show _ = _; first | exact hB8.trans HE7.out | exact hB8)
  have HB8 : Hid (Below w.heap.size w w8) := HB7.out.trans (hK8.below HA7.out.ok.lo HB7.out.size)
  obtain ⟨haw8_bx, hq8_bx⟩ := HW7_bx.out.next hK8 hh8
  have HR8_bx := Lib.hid ((readAt_same hq8_bx 0 64).trans HR7_bx.out)
  have HW8_bx := Lib.hid haw8_bx
  clear haw8_bx hq8_bx
  obtain ⟨haw8_bq, hq8_bq⟩ := HW7_bq.out.next hK8 hh8
  have HR8_bq := Lib.hid ((readAt_same hq8_bq 0 64).trans HR7_bq.out)
  have HW8_bq := Lib.hid haw8_bq
  clear haw8_bq hq8_bq
  clear hcall8 hB8 hA8 hK8 hh8 HA7 HE7 HB7 HR7_bx HW7_bx HR7_bq HW7_bq
  have fr_bx := HR8_bx.out
  have fr_bq := HR8_bq.out
  go_wp2_with fail
  clear fr_bx
  clear fr_bq
  have hcall9 := dsync_any w8 9 HA8.out (dx_ok _ _ _ _ (by simp) (by simp) (by omega) (by omega)) (by omega) (by omega) HB8.out.size
  rw [HE8.out, dx_sync, errV_0] at hcall9
  refine hcall9.mono ?_
  rintro _ w9 ⟨rfl, p9, hB9, hA9, hK9, hh9⟩
  have HA9 := Lib.hid hA9
  have HE9 : Hid (p9.B = p1.B) := by (show _ = _; first | exact hB9.trans HE8.out | exact hB9)
  have HB9 : Hid (Below w.heap.size w w9) := HB8.out.trans (hK9.below HA8.out.ok.lo HB8.out.size)
  obtain ⟨haw9_bx, hq9_bx⟩ := HW8_bx.out.next hK9 hh9
  have HR9_bx := Lib.hid ((readAt_same hq9_bx 0 64).trans HR8_bx.out)
  have HW9_bx := Lib.hid haw9_bx
  clear haw9_bx hq9_bx
  obtain ⟨haw9_bq, hq9_bq⟩ := HW8_bq.out.next hK9 hh9
  have HR9_bq := Lib.hid ((readAt_same hq9_bq 0 64).trans HR8_bq.out)
  have HW9_bq := Lib.hid haw9_bq
  clear haw9_bq hq9_bq
  clear hcall9 hB9 hA9 hK9 hh9 HA8 HE8 HB8 HR8_bx HW8_bx HR8_bq HW8_bq
  have fr_bx := HR9_bx.out
  have fr_bq := HR9_bq.out
  go_wp2_with fail
  clear fr_bx
  clear fr_bq
  have hcall10 := dcrash_any w9 (.slice none 0 0) [] 9 HA9.out (dx_ok _ _ _ _ (by simp) (by simp) (by omega) (by omega)) (by omega) (by omega) HB9.out.size (rd_nil _)
  rw [HE9.out, dx_crash0] at hcall10
  refine hcall10.mono ?_
  rintro _ w10 ⟨rfl, p10, hB10, hA10, hK10, hh10⟩
  have HA10 := Lib.hid hA10
  have HE10 : Hid (p10.B = p1.B) := by (show _ = _; first | exact hB10.trans HE9.out | exact hB10)
  have HB10 : Hid (Below w.heap.size w w10) := HB9.out.trans (hK10.below HA9.out.ok.lo HB9.out.size)
  obtain ⟨haw10_bx, hq10_bx⟩ := HW9_bx.out.next hK10 hh10
  have HR10_bx := Lib.hid ((readAt_same hq10_bx 0 64).trans HR9_bx.out)
  have HW10_bx := Lib.hid haw10_bx
  clear haw10_bx hq10_bx
  obtain ⟨haw10_bq, hq10_bq⟩ := HW9_bq.out.next hK10 hh10
  have HR10_bq := Lib.hid ((readAt_same hq10_bq 0 64).trans HR9_bq.out)
  have HW10_bq := Lib.hid haw10_bq
  clear haw10_bq hq10_bq
  clear hcall10 hB10 hA10 hK10 hh10 HA9 HE9 HB9 HR9_bx HW9_bx HR9_bq HW9_bq
  have fr_bx := HR10_bx.out
  have fr_bq := HR10_bq.out
  go_wp2_with fail
  clear fr_bx
  clear fr_bq
  have hcall11 := start_any w10 HA10.out
  rw [HE10.out, dx_start] at hcall11
  refine hcall11.mono ?_
  rintro _ w11 ⟨rfl, p11, hB11, hA11, hK11, hh11⟩
  have HA11 := Lib.hid hA11
  have HE11 : Hid (p11.B = p1.B) := by (show _ = _; first | exact hB11.trans HE10.out | exact hB11)
  have HB11 : Hid (Below w.heap.size w w11) := HB10.out.trans (hK11.below HA10.out.ok.lo HB10.out.size)
  obtain ⟨haw11_bx, hq11_bx⟩ := HW10_bx.out.next hK11 hh11
  have HR11_bx := Lib.hid ((readAt_same hq11_bx 0 64).trans HR10_bx.out)
  have HW11_bx := Lib.hid haw11_bx
  clear haw11_bx hq11_bx
  obtain ⟨haw11_bq, hq11_bq⟩ := HW10_bq.out.next hK11 hh11
  have HR11_bq := Lib.hid ((readAt_same hq11_bq 0 64).trans HR10_bq.out)
  have HW11_bq := Lib.hid haw11_bq
  clear haw11_bq hq11_bq
  clear hcall11 hB11 hA11 hK11 hh11 HA10 HE10 HB10 HR10_bx HW10_bx HR10_bq HW10_bq
  have fr_bx := HR11_bx.out
  have fr_bq := HR11_bq.out
  go_wp2_with fail
  clear fr_bx
  clear fr_bq
  have hcall12 := dread_any w11 0 9 HA11.out (dx_ok _ _ _ _ (by simp) (by simp) (by omega) (by omega)) (by omega) (by omega)
  rw [HE11.out, dx_read, errV_0] at hcall12
  refine hcall12.mono ?_
  rintro _ w12 ⟨rfl, hb12⟩
  have hy12 := bt hb12 (ba (.cells (av x) 35) (Below.refl w12.heap.size w12))
  have HA12 := Lib.hid (HA11.out.below hy12)
  have HB12 := Lib.hid (bt HB11.out hy12)
  have HE12 := HE11
  have HR12_bx := Lib.hid ((readAt_below hy12 HW11_bx.out.1 0 64).trans HR11_bx.out)
  have HW12_bx := Lib.hid (HW11_bx.out.below hy12)
  have HR12_bq := Lib.hid ((readAt_below hy12 HW11_bq.out.1 0 64).trans HR11_bq.out)
  have HW12_bq := Lib.hid (HW11_bq.out.below hy12)
  have HR12_bz := Lib.hid (show readAt (w12.alloc (.cells (av x) 35)) w12.heap.size 0 64 = some (av x) by simp [go_sem])
  have HW12_bz : Hid (Away (w12.alloc (.cells (av x) 35)) p11 w12.heap.size) := ⟨by simp, fun hp => by (have h1 := HA11.out.has_lt _ hp; have h2 := hb12.size; omega)⟩
  clear hcall12 hb12 hy12 HA11 HB11 HE11 HR11_bx HW11_bx HR11_bq HW11_bq
  have hlt12 := HW12_bx.out.1
  have fr_bx := HR12_bx.out
  have fr_bq := HR12_bq.out
  have fr_bz := HR12_bz.out
  go_wp2_with fail
  clear fr_bx
  clear fr_bq
  clear fr_bz
  clear hlt12
  generalize w12.alloc (.cells (av x) 35) = v12 at *
  generalize w12.heap.size = bz at *
  have hc := size_any v12 HA12.out
  rw [HE12.out] at hc
  refine hc.mono ?_
  rintro _ w90 ⟨rfl, rfl⟩
  clear hc
  go_wp2_with fail
  have hc := steps_any _ HA12.out
  rw [show (dx x [] false (0 + 1 + 1 + 1)).steps = 3 from rfl] at hc
  rw [HE12.out] at hc
  refine hc.mono ?_
  rintro _ w90 ⟨rfl, rfl⟩
  clear hc
  go_wp2_with fail
  have hc := down_nil v12
  refine hc.mono ?_
  rintro _ w90 ⟨rfl, rfl⟩
  clear hc
  go_wp2_with fail
  have hc := sync_nil v12
  refine hc.mono ?_
  rintro _ w90 ⟨rfl, rfl⟩
  clear hc
  go_wp2_with fail
  refine (code_any 12 0 _).mono ?_
  rintro _ w91 ⟨rfl, hb91⟩
  have HB91 := Lib.hid (bt HB12.out hb91)
  clear hb91
  go_wp2_with fail
  have hc := size_nil w91
  refine hc.mono ?_
  rintro _ w90 ⟨rfl, rfl⟩
  clear hc
  go_wp2_with fail
  go_ret
  exact ⟨rfl, HB91.out⟩
end Go.Proofs.Ytjedlcfeobhjnaa
