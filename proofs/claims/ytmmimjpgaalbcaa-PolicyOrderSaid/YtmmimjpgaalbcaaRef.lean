/- What Failing and Check of the reference of policy compute. Conditions: the numbers fit 64 bits; the names read. -/
import Derived.Test.YtmmimjpgaalbcaaFail
set_option linter.unusedSimpArgs false
set_option linter.unusedVariables false
namespace Go.Proofs.Ytmmimjpgaalbcaa
open Go.RowKit

theorem view_int : (Try.prog.info? 3).map (fun i => (i.zero, i.size, i.bytes)) = some (some (.int .i64 0), 1, 8) := by kernel_rfl

set_option maxHeartbeats 3200000 in
theorem rfailing_any (r q : ByteArray) (ad bd : Option Addr) (n m c c2 : Nat) (A B : List ByteArray) (s e t mi sq now skew : Int) (k : Key) (w : World) (hs : Is64 s) (he : Is64 e) (ht : Is64 t) (hn : Is64 now) (hk : Is64 skew) (ha : StrsAt w ad n c A) (hb : StrsAt w bd m c2 B)
    (F : Nat → Bool) (hF : F = fails (decide (now < sat (s - skew))) (decide (sat (e + skew) < now)) (!nsame r q A B) (decide (skew < sat (max t now - min t now)))) :
    Calls Try.prog 18 #[.agg (tv r ad n c s e k), .agg #[.string q, .slice bd m c2, .int .i64 t, .int .u32 mi, .int .u32 sq], .int .i64 now, .int .i64 skew] w fun x w' =>
      (∃ v, x = .returned v ∧ w'.ownsRow w.heap.size 3 1 v (fl F 4).length ((fl F 4).map (Value.int .i64))) ∧ Below w.heap.size w w' := by
  obtain ⟨ic, hic, hzc, hsc, hbc⟩ := info_parts view_int
  have hb0 := ba (.cells #[.string q, .slice bd m c2, .int .i64 t, .int .u32 mi, .int .u32 sq] 33) (ba (.cells (tv r ad n c s e k) 27) (Below.refl _ w))
  have T0 := (TkAt.new w r ad n c s e k).below (ba (.cells #[.string q, .slice bd m c2, .int .i64 t, .int .u32 mi, .int .u32 sq] 33) (Below.refl _ _))
  have U0 := AuAt.new (w.alloc (.cells (tv r ad n c s e k) 27)) q bd m c2 t mi sq
  rw [World.size_alloc] at U0
  have T := Lib.hid T0
  have U := Lib.hid U0
  have Ha := Lib.hid (ha.below hb0)
  have Hb := Lib.hid (hb.below hb0)
  have HB := Lib.hid hb0
  clear T0 U0 ha hb hb0
  have hlen := fl_len F
  have HF := Lib.hid hF
  clear hF
  obtain ⟨w0, hw0⟩ : ∃ w0, (w.alloc (.cells (tv r ad n c s e k) 27)).alloc (.cells #[.string q, .slice bd m c2, .int .i64 t, .int .u32 mi, .int .u32 sq] 33) = w0 := ⟨_, rfl⟩
  rw [hw0] at T U Ha Hb HB
  have T0 := Lib.hid T.out
  have U0 := Lib.hid U.out
  have Ha0 := Lib.hid Ha.out
  have Hb0 := Lib.hid Hb.out
  have hw0b := HB.out
  have hsz0 := HB.out.size
  have HB0 := Lib.hid (Below.refl w0.heap.size w0)
  have Hv0 : Hid (w0.ownsRow w0.heap.size 3 1 (.slice none 0 0) (fl F 0).length ((fl F 0).map (Value.int .i64))) := World.ownsRow_nil _ _ _ _
  clear T U Ha Hb HB
  have T00 := T0
  have U00 := U0
  have Ha00 := Ha0
  have Hb00 := Hb0
  have HB00 := HB0
  have Hv00 := Hv0
  go_enter Try.func18, Try.ntmps18
  obtain ⟨f0, f1, f2, f3, f4⟩ := T00.out.cells
  obtain ⟨g0, g1, g2, g3, g4, g5⟩ := U00.out
  go_wp2_with fail
  refine (rsub_any s skew _ hs hk).mono ?_
  rintro _ _ ⟨rfl, rfl⟩
  have hl : fl F 1 = if decide (now < sat (s - skew)) then fl F 0 ++ [3] else fl F 0 := by rw [show decide (now < sat (s - skew)) = F 0 by rw [HF.out]; rfl]; rfl
  by_cases h : now < sat (s - skew)
  · have d0 : decide (now < sat (s - skew)) = true := by simpa using h
    rw [d0] at hl
    have E := Lib.hid (hl.trans (if_pos rfl))
    clear hl h
    have hown := Hv00.out
    have hlK := hlen 0
    have hBs := HB00.out.size
    go_wp2_with (at_builtin; refine wpList_append_own_at _ rfl _ _ 47 rfl w0.heap.size 3 ic _ 1 8 Try.underlying47 hic hzc hsc hbc rfl (by decide) _ (fl F 0).length _ rfl (hown.alloc _) ⟨w0.heap.size, 0, none⟩ 1 1 [.int .i64 3] rfl rfl ?d2 ?d3 ?d4 ?d5 ?d6 ?_)
    case d2 => exact cells_new (n := 1) (cs := #[.int .i64 3]) (by simp [go_sem])
    case d3 => simp [Value.oneCell']
    case d4 => simp only [maxLen]; omega
    case d5 => omega
    case d6 => first | (simp; done) | (simp; omega)
    intro v1 w1 Hnew hgr _ _
    have hb0 : Below w0.heap.size w0 w1 := (ba _ HB00.out).grown hgr (ba _ HB00.out).size (fun b hbk => (hown.lt b hbk).1)
    have T1 := Lib.hid (T0.out.below hb0)
    have U1 := Lib.hid (U0.out.below hb0)
    have Ha1 := Lib.hid (Ha0.out.below hb0)
    have Hb1 := Lib.hid (Hb0.out.below hb0)
    have HB1 := Lib.hid hb0
    have Hv1 : Hid (w1.ownsRow w0.heap.size 3 1 v1 (fl F 1).length ((fl F 1).map (Value.int .i64))) := by show w1.ownsRow _ _ _ _ _ _; rw [E.out, List.length_append, List.map_append]; exact Hnew
    clear hgr Hnew hb0 hown hlK hBs E f0 f1 f2 f3 f4 g0 g1 g2 g3 g4 g5 d0
    obtain ⟨f0, f1, f2, f3, f4⟩ := T1.out.cells
    obtain ⟨g0, g1, g2, g3, g4, g5⟩ := U1.out
    go_wp2_with fail
    refine (radd_any e skew _ he hk).mono ?_
    rintro _ _ ⟨rfl, rfl⟩
    have hl : fl F 2 = if decide (sat (e + skew) < now) then fl F 1 ++ [4] else fl F 1 := by rw [show decide (sat (e + skew) < now) = F 1 by rw [HF.out]; rfl]; rfl
    by_cases h : sat (e + skew) < now
    · have d0 : decide (sat (e + skew) < now) = true := by simpa using h
      rw [d0] at hl
      have E := Lib.hid (hl.trans (if_pos rfl))
      clear hl h
      have hown := Hv1.out
      have hlK := hlen 1
      have hBs := HB1.out.size
      go_wp2_with (at_builtin; refine wpList_append_own_at _ rfl _ _ 47 rfl w0.heap.size 3 ic _ 1 8 Try.underlying47 hic hzc hsc hbc rfl (by decide) _ (fl F 1).length _ rfl (hown.alloc _) ⟨w1.heap.size, 0, none⟩ 1 1 [.int .i64 4] rfl rfl ?d2 ?d3 ?d4 ?d5 ?d6 ?_)
      case d2 => exact cells_new (n := 1) (cs := #[.int .i64 4]) (by simp [go_sem])
      case d3 => simp [Value.oneCell']
      case d4 => simp only [maxLen]; omega
      case d5 => omega
      case d6 => first | (simp; done) | (simp; omega)
      intro v2 w2 Hnew hgr _ _
      have hb0 : Below w0.heap.size w0 w2 := (ba _ HB1.out).grown hgr (ba _ HB1.out).size (fun b hbk => (hown.lt b hbk).1)
      have T2 := Lib.hid (T0.out.below hb0)
      have U2 := Lib.hid (U0.out.below hb0)
      have Ha2 := Lib.hid (Ha0.out.below hb0)
      have Hb2 := Lib.hid (Hb0.out.below hb0)
      have HB2 := Lib.hid hb0
      have Hv2 : Hid (w2.ownsRow w0.heap.size 3 1 v2 (fl F 2).length ((fl F 2).map (Value.int .i64))) := by show w2.ownsRow _ _ _ _ _ _; rw [E.out, List.length_append, List.map_append]; exact Hnew
      clear hgr Hnew hb0 hown hlK hBs E f0 f1 f2 f3 f4 g0 g1 g2 g3 g4 g5 d0
      obtain ⟨f0, f1, f2, f3, f4⟩ := T2.out.cells
      obtain ⟨g0, g1, g2, g3, g4, g5⟩ := U2.out
      go_wp2_with fail
      refine (rsame_any r q ad bd n m c c2 A B _ (Ha2.out) (Hb2.out)).mono ?_
      rintro _ w3 ⟨rfl, hb3⟩
      have T3 := Lib.hid (T2.out.below hb3)
      have U3 := Lib.hid (U2.out.below hb3)
      have Ha3 := Lib.hid (Ha2.out.below hb3)
      have Hb3 := Lib.hid (Hb2.out.below hb3)
      have HB3 := Lib.hid (bt HB2.out hb3)
      have Hv3 := Lib.hid (ownsRow_below Hv2.out hb3)
      clear hb3 T2 U2 Ha2 Hb2 HB2 Hv2 f0 f1 f2 f3 f4 g0 g1 g2 g3 g4 g5
      obtain ⟨f0, f1, f2, f3, f4⟩ := T3.out.cells
      obtain ⟨g0, g1, g2, g3, g4, g5⟩ := U3.out
      have hl : fl F 3 = if (!nsame r q A B) then fl F 2 ++ [5] else fl F 2 := by rw [show (!nsame r q A B) = F 2 by rw [HF.out]; rfl]; rfl
      cases hs2 : nsame r q A B
      case false =>
        rw [hs2] at hl
        have E := Lib.hid (hl.trans (if_pos rfl))
        clear hl
        have hown := Hv3.out
        have hlK := hlen 2
        have hBs := HB3.out.size
        go_wp2_with (at_builtin; refine wpList_append_own_at _ rfl _ _ 47 rfl w0.heap.size 3 ic _ 1 8 Try.underlying47 hic hzc hsc hbc rfl (by decide) _ (fl F 2).length _ rfl (hown.alloc _) ⟨w3.heap.size, 0, none⟩ 1 1 [.int .i64 5] rfl rfl ?d2 ?d3 ?d4 ?d5 ?d6 ?_)
        case d2 => exact cells_new (n := 1) (cs := #[.int .i64 5]) (by simp [go_sem])
        case d3 => simp [Value.oneCell']
        case d4 => simp only [maxLen]; omega
        case d5 => omega
        case d6 => first | (simp; done) | (simp; omega)
        intro v4 w4 Hnew hgr _ _
        have hb0 : Below w0.heap.size w0 w4 := (ba _ HB3.out).grown hgr (ba _ HB3.out).size (fun b hbk => (hown.lt b hbk).1)
        have T4 := Lib.hid (T0.out.below hb0)
        have U4 := Lib.hid (U0.out.below hb0)
        have Ha4 := Lib.hid (Ha0.out.below hb0)
        have Hb4 := Lib.hid (Hb0.out.below hb0)
        have HB4 := Lib.hid hb0
        have Hv4 : Hid (w4.ownsRow w0.heap.size 3 1 v4 (fl F 3).length ((fl F 3).map (Value.int .i64))) := by show w4.ownsRow _ _ _ _ _ _; rw [E.out, List.length_append, List.map_append]; exact Hnew
        clear hgr Hnew hb0 hown hlK hBs E f0 f1 f2 f3 f4 g0 g1 g2 g3 g4 g5 hs2
        obtain ⟨f0, f1, f2, f3, f4⟩ := T4.out.cells
        obtain ⟨g0, g1, g2, g3, g4, g5⟩ := U4.out
        go_wp2_with fail
        refine (rapart_any t now _ ht hn).mono ?_
        rintro _ _ ⟨rfl, rfl⟩
        have hl : fl F 4 = if decide (skew < sat (max t now - min t now)) then fl F 3 ++ [6] else fl F 3 := by rw [show decide (skew < sat (max t now - min t now)) = F 3 by rw [HF.out]; rfl]; rfl
        by_cases h : skew < sat (max t now - min t now)
        · have d0 : decide (skew < sat (max t now - min t now)) = true := by simpa using h
          rw [d0] at hl
          have E := Lib.hid (hl.trans (if_pos rfl))
          clear hl h
          have hown := Hv4.out
          have hlK := hlen 3
          have hBs := HB4.out.size
          go_wp2_with (at_builtin; refine wpList_append_own_at _ rfl _ _ 47 rfl w0.heap.size 3 ic _ 1 8 Try.underlying47 hic hzc hsc hbc rfl (by decide) _ (fl F 3).length _ rfl (hown.alloc _) ⟨w4.heap.size, 0, none⟩ 1 1 [.int .i64 6] rfl rfl ?d2 ?d3 ?d4 ?d5 ?d6 ?_)
          case d2 => exact cells_new (n := 1) (cs := #[.int .i64 6]) (by simp [go_sem])
          case d3 => simp [Value.oneCell']
          case d4 => simp only [maxLen]; omega
          case d5 => omega
          case d6 => first | (simp; done) | (simp; omega)
          intro v5 w5 Hnew hgr _ _
          have hb0 : Below w0.heap.size w0 w5 := (ba _ HB4.out).grown hgr (ba _ HB4.out).size (fun b hbk => (hown.lt b hbk).1)
          have T5 := Lib.hid (T0.out.below hb0)
          have U5 := Lib.hid (U0.out.below hb0)
          have Ha5 := Lib.hid (Ha0.out.below hb0)
          have Hb5 := Lib.hid (Hb0.out.below hb0)
          have HB5 := Lib.hid hb0
          have Hv5 : Hid (w5.ownsRow w0.heap.size 3 1 v5 (fl F 4).length ((fl F 4).map (Value.int .i64))) := by show w5.ownsRow _ _ _ _ _ _; rw [E.out, List.length_append, List.map_append]; exact Hnew
          clear hgr Hnew hb0 hown hlK hBs E f0 f1 f2 f3 f4 g0 g1 g2 g3 g4 g5 d0
          have hfin := HB5.out
          have hown := Hv5.out
          go_wp2
          go_ret
          exact ⟨⟨_, rfl, ownsRow_base hown hsz0⟩, hw0b.trans (hfin.mono hw0b.size)⟩
        · have d0 : decide (skew < sat (max t now - min t now)) = false := by simpa using h
          rw [d0] at hl
          have E := Lib.hid (hl.trans (if_neg (by simp)))
          clear hl h
          have Hv6 : Hid (w4.ownsRow w0.heap.size 3 1 v4 (fl F 4).length ((fl F 4).map (Value.int .i64))) := by show w4.ownsRow _ _ _ _ _ _; rw [E.out]; exact Hv4.out
          have T6 := Lib.hid T4.out
          have U6 := Lib.hid U4.out
          have Ha6 := Lib.hid Ha4.out
          have Hb6 := Lib.hid Hb4.out
          have HB6 := Lib.hid HB4.out
          clear E f0 f1 f2 f3 f4 g0 g1 g2 g3 g4 g5
          have hfin := HB6.out
          have hown := Hv6.out
          go_wp2
          go_ret
          exact ⟨⟨_, rfl, ownsRow_base hown hsz0⟩, hw0b.trans (hfin.mono hw0b.size)⟩
      case true =>
        rw [hs2] at hl
        have E := Lib.hid (hl.trans (if_neg (by simp)))
        clear hl
        have Hv7 : Hid (w3.ownsRow w0.heap.size 3 1 v2 (fl F 3).length ((fl F 3).map (Value.int .i64))) := by show w3.ownsRow _ _ _ _ _ _; rw [E.out]; exact Hv3.out
        have T7 := Lib.hid T3.out
        have U7 := Lib.hid U3.out
        have Ha7 := Lib.hid Ha3.out
        have Hb7 := Lib.hid Hb3.out
        have HB7 := Lib.hid HB3.out
        clear E f0 f1 f2 f3 f4 g0 g1 g2 g3 g4 g5
        obtain ⟨f0, f1, f2, f3, f4⟩ := T7.out.cells
        obtain ⟨g0, g1, g2, g3, g4, g5⟩ := U7.out
        go_wp2_with fail
        refine (rapart_any t now _ ht hn).mono ?_
        rintro _ _ ⟨rfl, rfl⟩
        have hl : fl F 4 = if decide (skew < sat (max t now - min t now)) then fl F 3 ++ [6] else fl F 3 := by rw [show decide (skew < sat (max t now - min t now)) = F 3 by rw [HF.out]; rfl]; rfl
        by_cases h : skew < sat (max t now - min t now)
        · have d0 : decide (skew < sat (max t now - min t now)) = true := by simpa using h
          rw [d0] at hl
          have E := Lib.hid (hl.trans (if_pos rfl))
          clear hl h
          have hown := Hv7.out
          have hlK := hlen 3
          have hBs := HB7.out.size
          go_wp2_with (at_builtin; refine wpList_append_own_at _ rfl _ _ 47 rfl w0.heap.size 3 ic _ 1 8 Try.underlying47 hic hzc hsc hbc rfl (by decide) _ (fl F 3).length _ rfl (hown.alloc _) ⟨w3.heap.size, 0, none⟩ 1 1 [.int .i64 6] rfl rfl ?d2 ?d3 ?d4 ?d5 ?d6 ?_)
          case d2 => exact cells_new (n := 1) (cs := #[.int .i64 6]) (by simp [go_sem])
          case d3 => simp [Value.oneCell']
          case d4 => simp only [maxLen]; omega
          case d5 => omega
          case d6 => first | (simp; done) | (simp; omega)
          intro v8 w8 Hnew hgr _ _
          have hb0 : Below w0.heap.size w0 w8 := (ba _ HB7.out).grown hgr (ba _ HB7.out).size (fun b hbk => (hown.lt b hbk).1)
          have T8 := Lib.hid (T0.out.below hb0)
          have U8 := Lib.hid (U0.out.below hb0)
          have Ha8 := Lib.hid (Ha0.out.below hb0)
          have Hb8 := Lib.hid (Hb0.out.below hb0)
          have HB8 := Lib.hid hb0
          have Hv8 : Hid (w8.ownsRow w0.heap.size 3 1 v8 (fl F 4).length ((fl F 4).map (Value.int .i64))) := by show w8.ownsRow _ _ _ _ _ _; rw [E.out, List.length_append, List.map_append]; exact Hnew
          clear hgr Hnew hb0 hown hlK hBs E f0 f1 f2 f3 f4 g0 g1 g2 g3 g4 g5 d0
          have hfin := HB8.out
          have hown := Hv8.out
          go_wp2
          go_ret
          exact ⟨⟨_, rfl, ownsRow_base hown hsz0⟩, hw0b.trans (hfin.mono hw0b.size)⟩
        · have d0 : decide (skew < sat (max t now - min t now)) = false := by simpa using h
          rw [d0] at hl
          have E := Lib.hid (hl.trans (if_neg (by simp)))
          clear hl h
          have Hv9 : Hid (w3.ownsRow w0.heap.size 3 1 v2 (fl F 4).length ((fl F 4).map (Value.int .i64))) := by show w3.ownsRow _ _ _ _ _ _; rw [E.out]; exact Hv7.out
          have T9 := Lib.hid T7.out
          have U9 := Lib.hid U7.out
          have Ha9 := Lib.hid Ha7.out
          have Hb9 := Lib.hid Hb7.out
          have HB9 := Lib.hid HB7.out
          clear E f0 f1 f2 f3 f4 g0 g1 g2 g3 g4 g5
          have hfin := HB9.out
          have hown := Hv9.out
          go_wp2
          go_ret
          exact ⟨⟨_, rfl, ownsRow_base hown hsz0⟩, hw0b.trans (hfin.mono hw0b.size)⟩
    · have d0 : decide (sat (e + skew) < now) = false := by simpa using h
      rw [d0] at hl
      have E := Lib.hid (hl.trans (if_neg (by simp)))
      clear hl h
      have Hv10 : Hid (w1.ownsRow w0.heap.size 3 1 v1 (fl F 2).length ((fl F 2).map (Value.int .i64))) := by show w1.ownsRow _ _ _ _ _ _; rw [E.out]; exact Hv1.out
      have T10 := Lib.hid T1.out
      have U10 := Lib.hid U1.out
      have Ha10 := Lib.hid Ha1.out
      have Hb10 := Lib.hid Hb1.out
      have HB10 := Lib.hid HB1.out
      clear E f0 f1 f2 f3 f4 g0 g1 g2 g3 g4 g5
      obtain ⟨f0, f1, f2, f3, f4⟩ := T10.out.cells
      obtain ⟨g0, g1, g2, g3, g4, g5⟩ := U10.out
      go_wp2_with fail
      refine (rsame_any r q ad bd n m c c2 A B _ (Ha10.out) (Hb10.out)).mono ?_
      rintro _ w11 ⟨rfl, hb11⟩
      have T11 := Lib.hid (T10.out.below hb11)
      have U11 := Lib.hid (U10.out.below hb11)
      have Ha11 := Lib.hid (Ha10.out.below hb11)
      have Hb11 := Lib.hid (Hb10.out.below hb11)
      have HB11 := Lib.hid (bt HB10.out hb11)
      have Hv11 := Lib.hid (ownsRow_below Hv10.out hb11)
      clear hb11 T10 U10 Ha10 Hb10 HB10 Hv10 f0 f1 f2 f3 f4 g0 g1 g2 g3 g4 g5
      obtain ⟨f0, f1, f2, f3, f4⟩ := T11.out.cells
      obtain ⟨g0, g1, g2, g3, g4, g5⟩ := U11.out
      have hl : fl F 3 = if (!nsame r q A B) then fl F 2 ++ [5] else fl F 2 := by rw [show (!nsame r q A B) = F 2 by rw [HF.out]; rfl]; rfl
      cases hs2 : nsame r q A B
      case false =>
        rw [hs2] at hl
        have E := Lib.hid (hl.trans (if_pos rfl))
        clear hl
        have hown := Hv11.out
        have hlK := hlen 2
        have hBs := HB11.out.size
        go_wp2_with (at_builtin; refine wpList_append_own_at _ rfl _ _ 47 rfl w0.heap.size 3 ic _ 1 8 Try.underlying47 hic hzc hsc hbc rfl (by decide) _ (fl F 2).length _ rfl (hown.alloc _) ⟨w11.heap.size, 0, none⟩ 1 1 [.int .i64 5] rfl rfl ?d2 ?d3 ?d4 ?d5 ?d6 ?_)
        case d2 => exact cells_new (n := 1) (cs := #[.int .i64 5]) (by simp [go_sem])
        case d3 => simp [Value.oneCell']
        case d4 => simp only [maxLen]; omega
        case d5 => omega
        case d6 => first | (simp; done) | (simp; omega)
        intro v12 w12 Hnew hgr _ _
        have hb0 : Below w0.heap.size w0 w12 := (ba _ HB11.out).grown hgr (ba _ HB11.out).size (fun b hbk => (hown.lt b hbk).1)
        have T12 := Lib.hid (T0.out.below hb0)
        have U12 := Lib.hid (U0.out.below hb0)
        have Ha12 := Lib.hid (Ha0.out.below hb0)
        have Hb12 := Lib.hid (Hb0.out.below hb0)
        have HB12 := Lib.hid hb0
        have Hv12 : Hid (w12.ownsRow w0.heap.size 3 1 v12 (fl F 3).length ((fl F 3).map (Value.int .i64))) := by show w12.ownsRow _ _ _ _ _ _; rw [E.out, List.length_append, List.map_append]; exact Hnew
        clear hgr Hnew hb0 hown hlK hBs E f0 f1 f2 f3 f4 g0 g1 g2 g3 g4 g5 hs2
        obtain ⟨f0, f1, f2, f3, f4⟩ := T12.out.cells
        obtain ⟨g0, g1, g2, g3, g4, g5⟩ := U12.out
        go_wp2_with fail
        refine (rapart_any t now _ ht hn).mono ?_
        rintro _ _ ⟨rfl, rfl⟩
        have hl : fl F 4 = if decide (skew < sat (max t now - min t now)) then fl F 3 ++ [6] else fl F 3 := by rw [show decide (skew < sat (max t now - min t now)) = F 3 by rw [HF.out]; rfl]; rfl
        by_cases h : skew < sat (max t now - min t now)
        · have d0 : decide (skew < sat (max t now - min t now)) = true := by simpa using h
          rw [d0] at hl
          have E := Lib.hid (hl.trans (if_pos rfl))
          clear hl h
          have hown := Hv12.out
          have hlK := hlen 3
          have hBs := HB12.out.size
          go_wp2_with (at_builtin; refine wpList_append_own_at _ rfl _ _ 47 rfl w0.heap.size 3 ic _ 1 8 Try.underlying47 hic hzc hsc hbc rfl (by decide) _ (fl F 3).length _ rfl (hown.alloc _) ⟨w12.heap.size, 0, none⟩ 1 1 [.int .i64 6] rfl rfl ?d2 ?d3 ?d4 ?d5 ?d6 ?_)
          case d2 => exact cells_new (n := 1) (cs := #[.int .i64 6]) (by simp [go_sem])
          case d3 => simp [Value.oneCell']
          case d4 => simp only [maxLen]; omega
          case d5 => omega
          case d6 => first | (simp; done) | (simp; omega)
          intro v13 w13 Hnew hgr _ _
          have hb0 : Below w0.heap.size w0 w13 := (ba _ HB12.out).grown hgr (ba _ HB12.out).size (fun b hbk => (hown.lt b hbk).1)
          have T13 := Lib.hid (T0.out.below hb0)
          have U13 := Lib.hid (U0.out.below hb0)
          have Ha13 := Lib.hid (Ha0.out.below hb0)
          have Hb13 := Lib.hid (Hb0.out.below hb0)
          have HB13 := Lib.hid hb0
          have Hv13 : Hid (w13.ownsRow w0.heap.size 3 1 v13 (fl F 4).length ((fl F 4).map (Value.int .i64))) := by show w13.ownsRow _ _ _ _ _ _; rw [E.out, List.length_append, List.map_append]; exact Hnew
          clear hgr Hnew hb0 hown hlK hBs E f0 f1 f2 f3 f4 g0 g1 g2 g3 g4 g5 d0
          have hfin := HB13.out
          have hown := Hv13.out
          go_wp2
          go_ret
          exact ⟨⟨_, rfl, ownsRow_base hown hsz0⟩, hw0b.trans (hfin.mono hw0b.size)⟩
        · have d0 : decide (skew < sat (max t now - min t now)) = false := by simpa using h
          rw [d0] at hl
          have E := Lib.hid (hl.trans (if_neg (by simp)))
          clear hl h
          have Hv14 : Hid (w12.ownsRow w0.heap.size 3 1 v12 (fl F 4).length ((fl F 4).map (Value.int .i64))) := by show w12.ownsRow _ _ _ _ _ _; rw [E.out]; exact Hv12.out
          have T14 := Lib.hid T12.out
          have U14 := Lib.hid U12.out
          have Ha14 := Lib.hid Ha12.out
          have Hb14 := Lib.hid Hb12.out
          have HB14 := Lib.hid HB12.out
          clear E f0 f1 f2 f3 f4 g0 g1 g2 g3 g4 g5
          have hfin := HB14.out
          have hown := Hv14.out
          go_wp2
          go_ret
          exact ⟨⟨_, rfl, ownsRow_base hown hsz0⟩, hw0b.trans (hfin.mono hw0b.size)⟩
      case true =>
        rw [hs2] at hl
        have E := Lib.hid (hl.trans (if_neg (by simp)))
        clear hl
        have Hv15 : Hid (w11.ownsRow w0.heap.size 3 1 v1 (fl F 3).length ((fl F 3).map (Value.int .i64))) := by show w11.ownsRow _ _ _ _ _ _; rw [E.out]; exact Hv11.out
        have T15 := Lib.hid T11.out
        have U15 := Lib.hid U11.out
        have Ha15 := Lib.hid Ha11.out
        have Hb15 := Lib.hid Hb11.out
        have HB15 := Lib.hid HB11.out
        clear E f0 f1 f2 f3 f4 g0 g1 g2 g3 g4 g5
        obtain ⟨f0, f1, f2, f3, f4⟩ := T15.out.cells
        obtain ⟨g0, g1, g2, g3, g4, g5⟩ := U15.out
        go_wp2_with fail
        refine (rapart_any t now _ ht hn).mono ?_
        rintro _ _ ⟨rfl, rfl⟩
        have hl : fl F 4 = if decide (skew < sat (max t now - min t now)) then fl F 3 ++ [6] else fl F 3 := by rw [show decide (skew < sat (max t now - min t now)) = F 3 by rw [HF.out]; rfl]; rfl
        by_cases h : skew < sat (max t now - min t now)
        · have d0 : decide (skew < sat (max t now - min t now)) = true := by simpa using h
          rw [d0] at hl
          have E := Lib.hid (hl.trans (if_pos rfl))
          clear hl h
          have hown := Hv15.out
          have hlK := hlen 3
          have hBs := HB15.out.size
          go_wp2_with (at_builtin; refine wpList_append_own_at _ rfl _ _ 47 rfl w0.heap.size 3 ic _ 1 8 Try.underlying47 hic hzc hsc hbc rfl (by decide) _ (fl F 3).length _ rfl (hown.alloc _) ⟨w11.heap.size, 0, none⟩ 1 1 [.int .i64 6] rfl rfl ?d2 ?d3 ?d4 ?d5 ?d6 ?_)
          case d2 => exact cells_new (n := 1) (cs := #[.int .i64 6]) (by simp [go_sem])
          case d3 => simp [Value.oneCell']
          case d4 => simp only [maxLen]; omega
          case d5 => omega
          case d6 => first | (simp; done) | (simp; omega)
          intro v16 w16 Hnew hgr _ _
          have hb0 : Below w0.heap.size w0 w16 := (ba _ HB15.out).grown hgr (ba _ HB15.out).size (fun b hbk => (hown.lt b hbk).1)
          have T16 := Lib.hid (T0.out.below hb0)
          have U16 := Lib.hid (U0.out.below hb0)
          have Ha16 := Lib.hid (Ha0.out.below hb0)
          have Hb16 := Lib.hid (Hb0.out.below hb0)
          have HB16 := Lib.hid hb0
          have Hv16 : Hid (w16.ownsRow w0.heap.size 3 1 v16 (fl F 4).length ((fl F 4).map (Value.int .i64))) := by show w16.ownsRow _ _ _ _ _ _; rw [E.out, List.length_append, List.map_append]; exact Hnew
          clear hgr Hnew hb0 hown hlK hBs E f0 f1 f2 f3 f4 g0 g1 g2 g3 g4 g5 d0
          have hfin := HB16.out
          have hown := Hv16.out
          go_wp2
          go_ret
          exact ⟨⟨_, rfl, ownsRow_base hown hsz0⟩, hw0b.trans (hfin.mono hw0b.size)⟩
        · have d0 : decide (skew < sat (max t now - min t now)) = false := by simpa using h
          rw [d0] at hl
          have E := Lib.hid (hl.trans (if_neg (by simp)))
          clear hl h
          have Hv17 : Hid (w11.ownsRow w0.heap.size 3 1 v1 (fl F 4).length ((fl F 4).map (Value.int .i64))) := by show w11.ownsRow _ _ _ _ _ _; rw [E.out]; exact Hv15.out
          have T17 := Lib.hid T15.out
          have U17 := Lib.hid U15.out
          have Ha17 := Lib.hid Ha15.out
          have Hb17 := Lib.hid Hb15.out
          have HB17 := Lib.hid HB15.out
          clear E f0 f1 f2 f3 f4 g0 g1 g2 g3 g4 g5
          have hfin := HB17.out
          have hown := Hv17.out
          go_wp2
          go_ret
          exact ⟨⟨_, rfl, ownsRow_base hown hsz0⟩, hw0b.trans (hfin.mono hw0b.size)⟩
  · have d0 : decide (now < sat (s - skew)) = false := by simpa using h
    rw [d0] at hl
    have E := Lib.hid (hl.trans (if_neg (by simp)))
    clear hl h
    have Hv18 : Hid (w0.ownsRow w0.heap.size 3 1 (.slice none 0 0) (fl F 1).length ((fl F 1).map (Value.int .i64))) := by show w0.ownsRow _ _ _ _ _ _; rw [E.out]; exact Hv00.out
    have T18 := Lib.hid T00.out
    have U18 := Lib.hid U00.out
    have Ha18 := Lib.hid Ha00.out
    have Hb18 := Lib.hid Hb00.out
    have HB18 := Lib.hid HB00.out
    clear E f0 f1 f2 f3 f4 g0 g1 g2 g3 g4 g5
    obtain ⟨f0, f1, f2, f3, f4⟩ := T18.out.cells
    obtain ⟨g0, g1, g2, g3, g4, g5⟩ := U18.out
    go_wp2_with fail
    refine (radd_any e skew _ he hk).mono ?_
    rintro _ _ ⟨rfl, rfl⟩
    have hl : fl F 2 = if decide (sat (e + skew) < now) then fl F 1 ++ [4] else fl F 1 := by rw [show decide (sat (e + skew) < now) = F 1 by rw [HF.out]; rfl]; rfl
    by_cases h : sat (e + skew) < now
    · have d0 : decide (sat (e + skew) < now) = true := by simpa using h
      rw [d0] at hl
      have E := Lib.hid (hl.trans (if_pos rfl))
      clear hl h
      have hown := Hv18.out
      have hlK := hlen 1
      have hBs := HB18.out.size
      go_wp2_with (at_builtin; refine wpList_append_own_at _ rfl _ _ 47 rfl w0.heap.size 3 ic _ 1 8 Try.underlying47 hic hzc hsc hbc rfl (by decide) _ (fl F 1).length _ rfl (hown.alloc _) ⟨w0.heap.size, 0, none⟩ 1 1 [.int .i64 4] rfl rfl ?d2 ?d3 ?d4 ?d5 ?d6 ?_)
      case d2 => exact cells_new (n := 1) (cs := #[.int .i64 4]) (by simp [go_sem])
      case d3 => simp [Value.oneCell']
      case d4 => simp only [maxLen]; omega
      case d5 => omega
      case d6 => first | (simp; done) | (simp; omega)
      intro v19 w19 Hnew hgr _ _
      have hb0 : Below w0.heap.size w0 w19 := (ba _ HB18.out).grown hgr (ba _ HB18.out).size (fun b hbk => (hown.lt b hbk).1)
      have T19 := Lib.hid (T0.out.below hb0)
      have U19 := Lib.hid (U0.out.below hb0)
      have Ha19 := Lib.hid (Ha0.out.below hb0)
      have Hb19 := Lib.hid (Hb0.out.below hb0)
      have HB19 := Lib.hid hb0
      have Hv19 : Hid (w19.ownsRow w0.heap.size 3 1 v19 (fl F 2).length ((fl F 2).map (Value.int .i64))) := by show w19.ownsRow _ _ _ _ _ _; rw [E.out, List.length_append, List.map_append]; exact Hnew
      clear hgr Hnew hb0 hown hlK hBs E f0 f1 f2 f3 f4 g0 g1 g2 g3 g4 g5 d0
      obtain ⟨f0, f1, f2, f3, f4⟩ := T19.out.cells
      obtain ⟨g0, g1, g2, g3, g4, g5⟩ := U19.out
      go_wp2_with fail
      refine (rsame_any r q ad bd n m c c2 A B _ (Ha19.out) (Hb19.out)).mono ?_
      rintro _ w20 ⟨rfl, hb20⟩
      have T20 := Lib.hid (T19.out.below hb20)
      have U20 := Lib.hid (U19.out.below hb20)
      have Ha20 := Lib.hid (Ha19.out.below hb20)
      have Hb20 := Lib.hid (Hb19.out.below hb20)
      have HB20 := Lib.hid (bt HB19.out hb20)
      have Hv20 := Lib.hid (ownsRow_below Hv19.out hb20)
      clear hb20 T19 U19 Ha19 Hb19 HB19 Hv19 f0 f1 f2 f3 f4 g0 g1 g2 g3 g4 g5
      obtain ⟨f0, f1, f2, f3, f4⟩ := T20.out.cells
      obtain ⟨g0, g1, g2, g3, g4, g5⟩ := U20.out
      have hl : fl F 3 = if (!nsame r q A B) then fl F 2 ++ [5] else fl F 2 := by rw [show (!nsame r q A B) = F 2 by rw [HF.out]; rfl]; rfl
      cases hs2 : nsame r q A B
      case false =>
        rw [hs2] at hl
        have E := Lib.hid (hl.trans (if_pos rfl))
        clear hl
        have hown := Hv20.out
        have hlK := hlen 2
        have hBs := HB20.out.size
        go_wp2_with (at_builtin; refine wpList_append_own_at _ rfl _ _ 47 rfl w0.heap.size 3 ic _ 1 8 Try.underlying47 hic hzc hsc hbc rfl (by decide) _ (fl F 2).length _ rfl (hown.alloc _) ⟨w20.heap.size, 0, none⟩ 1 1 [.int .i64 5] rfl rfl ?d2 ?d3 ?d4 ?d5 ?d6 ?_)
        case d2 => exact cells_new (n := 1) (cs := #[.int .i64 5]) (by simp [go_sem])
        case d3 => simp [Value.oneCell']
        case d4 => simp only [maxLen]; omega
        case d5 => omega
        case d6 => first | (simp; done) | (simp; omega)
        intro v21 w21 Hnew hgr _ _
        have hb0 : Below w0.heap.size w0 w21 := (ba _ HB20.out).grown hgr (ba _ HB20.out).size (fun b hbk => (hown.lt b hbk).1)
        have T21 := Lib.hid (T0.out.below hb0)
        have U21 := Lib.hid (U0.out.below hb0)
        have Ha21 := Lib.hid (Ha0.out.below hb0)
        have Hb21 := Lib.hid (Hb0.out.below hb0)
        have HB21 := Lib.hid hb0
        have Hv21 : Hid (w21.ownsRow w0.heap.size 3 1 v21 (fl F 3).length ((fl F 3).map (Value.int .i64))) := by show w21.ownsRow _ _ _ _ _ _; rw [E.out, List.length_append, List.map_append]; exact Hnew
        clear hgr Hnew hb0 hown hlK hBs E f0 f1 f2 f3 f4 g0 g1 g2 g3 g4 g5 hs2
        obtain ⟨f0, f1, f2, f3, f4⟩ := T21.out.cells
        obtain ⟨g0, g1, g2, g3, g4, g5⟩ := U21.out
        go_wp2_with fail
        refine (rapart_any t now _ ht hn).mono ?_
        rintro _ _ ⟨rfl, rfl⟩
        have hl : fl F 4 = if decide (skew < sat (max t now - min t now)) then fl F 3 ++ [6] else fl F 3 := by rw [show decide (skew < sat (max t now - min t now)) = F 3 by rw [HF.out]; rfl]; rfl
        by_cases h : skew < sat (max t now - min t now)
        · have d0 : decide (skew < sat (max t now - min t now)) = true := by simpa using h
          rw [d0] at hl
          have E := Lib.hid (hl.trans (if_pos rfl))
          clear hl h
          have hown := Hv21.out
          have hlK := hlen 3
          have hBs := HB21.out.size
          go_wp2_with (at_builtin; refine wpList_append_own_at _ rfl _ _ 47 rfl w0.heap.size 3 ic _ 1 8 Try.underlying47 hic hzc hsc hbc rfl (by decide) _ (fl F 3).length _ rfl (hown.alloc _) ⟨w21.heap.size, 0, none⟩ 1 1 [.int .i64 6] rfl rfl ?d2 ?d3 ?d4 ?d5 ?d6 ?_)
          case d2 => exact cells_new (n := 1) (cs := #[.int .i64 6]) (by simp [go_sem])
          case d3 => simp [Value.oneCell']
          case d4 => simp only [maxLen]; omega
          case d5 => omega
          case d6 => first | (simp; done) | (simp; omega)
          intro v22 w22 Hnew hgr _ _
          have hb0 : Below w0.heap.size w0 w22 := (ba _ HB21.out).grown hgr (ba _ HB21.out).size (fun b hbk => (hown.lt b hbk).1)
          have T22 := Lib.hid (T0.out.below hb0)
          have U22 := Lib.hid (U0.out.below hb0)
          have Ha22 := Lib.hid (Ha0.out.below hb0)
          have Hb22 := Lib.hid (Hb0.out.below hb0)
          have HB22 := Lib.hid hb0
          have Hv22 : Hid (w22.ownsRow w0.heap.size 3 1 v22 (fl F 4).length ((fl F 4).map (Value.int .i64))) := by show w22.ownsRow _ _ _ _ _ _; rw [E.out, List.length_append, List.map_append]; exact Hnew
          clear hgr Hnew hb0 hown hlK hBs E f0 f1 f2 f3 f4 g0 g1 g2 g3 g4 g5 d0
          have hfin := HB22.out
          have hown := Hv22.out
          go_wp2
          go_ret
          exact ⟨⟨_, rfl, ownsRow_base hown hsz0⟩, hw0b.trans (hfin.mono hw0b.size)⟩
        · have d0 : decide (skew < sat (max t now - min t now)) = false := by simpa using h
          rw [d0] at hl
          have E := Lib.hid (hl.trans (if_neg (by simp)))
          clear hl h
          have Hv23 : Hid (w21.ownsRow w0.heap.size 3 1 v21 (fl F 4).length ((fl F 4).map (Value.int .i64))) := by show w21.ownsRow _ _ _ _ _ _; rw [E.out]; exact Hv21.out
          have T23 := Lib.hid T21.out
          have U23 := Lib.hid U21.out
          have Ha23 := Lib.hid Ha21.out
          have Hb23 := Lib.hid Hb21.out
          have HB23 := Lib.hid HB21.out
          clear E f0 f1 f2 f3 f4 g0 g1 g2 g3 g4 g5
          have hfin := HB23.out
          have hown := Hv23.out
          go_wp2
          go_ret
          exact ⟨⟨_, rfl, ownsRow_base hown hsz0⟩, hw0b.trans (hfin.mono hw0b.size)⟩
      case true =>
        rw [hs2] at hl
        have E := Lib.hid (hl.trans (if_neg (by simp)))
        clear hl
        have Hv24 : Hid (w20.ownsRow w0.heap.size 3 1 v19 (fl F 3).length ((fl F 3).map (Value.int .i64))) := by show w20.ownsRow _ _ _ _ _ _; rw [E.out]; exact Hv20.out
        have T24 := Lib.hid T20.out
        have U24 := Lib.hid U20.out
        have Ha24 := Lib.hid Ha20.out
        have Hb24 := Lib.hid Hb20.out
        have HB24 := Lib.hid HB20.out
        clear E f0 f1 f2 f3 f4 g0 g1 g2 g3 g4 g5
        obtain ⟨f0, f1, f2, f3, f4⟩ := T24.out.cells
        obtain ⟨g0, g1, g2, g3, g4, g5⟩ := U24.out
        go_wp2_with fail
        refine (rapart_any t now _ ht hn).mono ?_
        rintro _ _ ⟨rfl, rfl⟩
        have hl : fl F 4 = if decide (skew < sat (max t now - min t now)) then fl F 3 ++ [6] else fl F 3 := by rw [show decide (skew < sat (max t now - min t now)) = F 3 by rw [HF.out]; rfl]; rfl
        by_cases h : skew < sat (max t now - min t now)
        · have d0 : decide (skew < sat (max t now - min t now)) = true := by simpa using h
          rw [d0] at hl
          have E := Lib.hid (hl.trans (if_pos rfl))
          clear hl h
          have hown := Hv24.out
          have hlK := hlen 3
          have hBs := HB24.out.size
          go_wp2_with (at_builtin; refine wpList_append_own_at _ rfl _ _ 47 rfl w0.heap.size 3 ic _ 1 8 Try.underlying47 hic hzc hsc hbc rfl (by decide) _ (fl F 3).length _ rfl (hown.alloc _) ⟨w20.heap.size, 0, none⟩ 1 1 [.int .i64 6] rfl rfl ?d2 ?d3 ?d4 ?d5 ?d6 ?_)
          case d2 => exact cells_new (n := 1) (cs := #[.int .i64 6]) (by simp [go_sem])
          case d3 => simp [Value.oneCell']
          case d4 => simp only [maxLen]; omega
          case d5 => omega
          case d6 => first | (simp; done) | (simp; omega)
          intro v25 w25 Hnew hgr _ _
          have hb0 : Below w0.heap.size w0 w25 := (ba _ HB24.out).grown hgr (ba _ HB24.out).size (fun b hbk => (hown.lt b hbk).1)
          have T25 := Lib.hid (T0.out.below hb0)
          have U25 := Lib.hid (U0.out.below hb0)
          have Ha25 := Lib.hid (Ha0.out.below hb0)
          have Hb25 := Lib.hid (Hb0.out.below hb0)
          have HB25 := Lib.hid hb0
          have Hv25 : Hid (w25.ownsRow w0.heap.size 3 1 v25 (fl F 4).length ((fl F 4).map (Value.int .i64))) := by show w25.ownsRow _ _ _ _ _ _; rw [E.out, List.length_append, List.map_append]; exact Hnew
          clear hgr Hnew hb0 hown hlK hBs E f0 f1 f2 f3 f4 g0 g1 g2 g3 g4 g5 d0
          have hfin := HB25.out
          have hown := Hv25.out
          go_wp2
          go_ret
          exact ⟨⟨_, rfl, ownsRow_base hown hsz0⟩, hw0b.trans (hfin.mono hw0b.size)⟩
        · have d0 : decide (skew < sat (max t now - min t now)) = false := by simpa using h
          rw [d0] at hl
          have E := Lib.hid (hl.trans (if_neg (by simp)))
          clear hl h
          have Hv26 : Hid (w20.ownsRow w0.heap.size 3 1 v19 (fl F 4).length ((fl F 4).map (Value.int .i64))) := by show w20.ownsRow _ _ _ _ _ _; rw [E.out]; exact Hv24.out
          have T26 := Lib.hid T24.out
          have U26 := Lib.hid U24.out
          have Ha26 := Lib.hid Ha24.out
          have Hb26 := Lib.hid Hb24.out
          have HB26 := Lib.hid HB24.out
          clear E f0 f1 f2 f3 f4 g0 g1 g2 g3 g4 g5
          have hfin := HB26.out
          have hown := Hv26.out
          go_wp2
          go_ret
          exact ⟨⟨_, rfl, ownsRow_base hown hsz0⟩, hw0b.trans (hfin.mono hw0b.size)⟩
    · have d0 : decide (sat (e + skew) < now) = false := by simpa using h
      rw [d0] at hl
      have E := Lib.hid (hl.trans (if_neg (by simp)))
      clear hl h
      have Hv27 : Hid (w0.ownsRow w0.heap.size 3 1 (.slice none 0 0) (fl F 2).length ((fl F 2).map (Value.int .i64))) := by show w0.ownsRow _ _ _ _ _ _; rw [E.out]; exact Hv18.out
      have T27 := Lib.hid T18.out
      have U27 := Lib.hid U18.out
      have Ha27 := Lib.hid Ha18.out
      have Hb27 := Lib.hid Hb18.out
      have HB27 := Lib.hid HB18.out
      clear E f0 f1 f2 f3 f4 g0 g1 g2 g3 g4 g5
      obtain ⟨f0, f1, f2, f3, f4⟩ := T27.out.cells
      obtain ⟨g0, g1, g2, g3, g4, g5⟩ := U27.out
      go_wp2_with fail
      refine (rsame_any r q ad bd n m c c2 A B _ (Ha27.out) (Hb27.out)).mono ?_
      rintro _ w28 ⟨rfl, hb28⟩
      have T28 := Lib.hid (T27.out.below hb28)
      have U28 := Lib.hid (U27.out.below hb28)
      have Ha28 := Lib.hid (Ha27.out.below hb28)
      have Hb28 := Lib.hid (Hb27.out.below hb28)
      have HB28 := Lib.hid (bt HB27.out hb28)
      have Hv28 := Lib.hid (ownsRow_below Hv27.out hb28)
      clear hb28 T27 U27 Ha27 Hb27 HB27 Hv27 f0 f1 f2 f3 f4 g0 g1 g2 g3 g4 g5
      obtain ⟨f0, f1, f2, f3, f4⟩ := T28.out.cells
      obtain ⟨g0, g1, g2, g3, g4, g5⟩ := U28.out
      have hl : fl F 3 = if (!nsame r q A B) then fl F 2 ++ [5] else fl F 2 := by rw [show (!nsame r q A B) = F 2 by rw [HF.out]; rfl]; rfl
      cases hs2 : nsame r q A B
      case false =>
        rw [hs2] at hl
        have E := Lib.hid (hl.trans (if_pos rfl))
        clear hl
        have hown := Hv28.out
        have hlK := hlen 2
        have hBs := HB28.out.size
        go_wp2_with (at_builtin; refine wpList_append_own_at _ rfl _ _ 47 rfl w0.heap.size 3 ic _ 1 8 Try.underlying47 hic hzc hsc hbc rfl (by decide) _ (fl F 2).length _ rfl (hown.alloc _) ⟨w28.heap.size, 0, none⟩ 1 1 [.int .i64 5] rfl rfl ?d2 ?d3 ?d4 ?d5 ?d6 ?_)
        case d2 => exact cells_new (n := 1) (cs := #[.int .i64 5]) (by simp [go_sem])
        case d3 => simp [Value.oneCell']
        case d4 => simp only [maxLen]; omega
        case d5 => omega
        case d6 => first | (simp; done) | (simp; omega)
        intro v29 w29 Hnew hgr _ _
        have hb0 : Below w0.heap.size w0 w29 := (ba _ HB28.out).grown hgr (ba _ HB28.out).size (fun b hbk => (hown.lt b hbk).1)
        have T29 := Lib.hid (T0.out.below hb0)
        have U29 := Lib.hid (U0.out.below hb0)
        have Ha29 := Lib.hid (Ha0.out.below hb0)
        have Hb29 := Lib.hid (Hb0.out.below hb0)
        have HB29 := Lib.hid hb0
        have Hv29 : Hid (w29.ownsRow w0.heap.size 3 1 v29 (fl F 3).length ((fl F 3).map (Value.int .i64))) := by show w29.ownsRow _ _ _ _ _ _; rw [E.out, List.length_append, List.map_append]; exact Hnew
        clear hgr Hnew hb0 hown hlK hBs E f0 f1 f2 f3 f4 g0 g1 g2 g3 g4 g5 hs2
        obtain ⟨f0, f1, f2, f3, f4⟩ := T29.out.cells
        obtain ⟨g0, g1, g2, g3, g4, g5⟩ := U29.out
        go_wp2_with fail
        refine (rapart_any t now _ ht hn).mono ?_
        rintro _ _ ⟨rfl, rfl⟩
        have hl : fl F 4 = if decide (skew < sat (max t now - min t now)) then fl F 3 ++ [6] else fl F 3 := by rw [show decide (skew < sat (max t now - min t now)) = F 3 by rw [HF.out]; rfl]; rfl
        by_cases h : skew < sat (max t now - min t now)
        · have d0 : decide (skew < sat (max t now - min t now)) = true := by simpa using h
          rw [d0] at hl
          have E := Lib.hid (hl.trans (if_pos rfl))
          clear hl h
          have hown := Hv29.out
          have hlK := hlen 3
          have hBs := HB29.out.size
          go_wp2_with (at_builtin; refine wpList_append_own_at _ rfl _ _ 47 rfl w0.heap.size 3 ic _ 1 8 Try.underlying47 hic hzc hsc hbc rfl (by decide) _ (fl F 3).length _ rfl (hown.alloc _) ⟨w29.heap.size, 0, none⟩ 1 1 [.int .i64 6] rfl rfl ?d2 ?d3 ?d4 ?d5 ?d6 ?_)
          case d2 => exact cells_new (n := 1) (cs := #[.int .i64 6]) (by simp [go_sem])
          case d3 => simp [Value.oneCell']
          case d4 => simp only [maxLen]; omega
          case d5 => omega
          case d6 => first | (simp; done) | (simp; omega)
          intro v30 w30 Hnew hgr _ _
          have hb0 : Below w0.heap.size w0 w30 := (ba _ HB29.out).grown hgr (ba _ HB29.out).size (fun b hbk => (hown.lt b hbk).1)
          have T30 := Lib.hid (T0.out.below hb0)
          have U30 := Lib.hid (U0.out.below hb0)
          have Ha30 := Lib.hid (Ha0.out.below hb0)
          have Hb30 := Lib.hid (Hb0.out.below hb0)
          have HB30 := Lib.hid hb0
          have Hv30 : Hid (w30.ownsRow w0.heap.size 3 1 v30 (fl F 4).length ((fl F 4).map (Value.int .i64))) := by show w30.ownsRow _ _ _ _ _ _; rw [E.out, List.length_append, List.map_append]; exact Hnew
          clear hgr Hnew hb0 hown hlK hBs E f0 f1 f2 f3 f4 g0 g1 g2 g3 g4 g5 d0
          have hfin := HB30.out
          have hown := Hv30.out
          go_wp2
          go_ret
          exact ⟨⟨_, rfl, ownsRow_base hown hsz0⟩, hw0b.trans (hfin.mono hw0b.size)⟩
        · have d0 : decide (skew < sat (max t now - min t now)) = false := by simpa using h
          rw [d0] at hl
          have E := Lib.hid (hl.trans (if_neg (by simp)))
          clear hl h
          have Hv31 : Hid (w29.ownsRow w0.heap.size 3 1 v29 (fl F 4).length ((fl F 4).map (Value.int .i64))) := by show w29.ownsRow _ _ _ _ _ _; rw [E.out]; exact Hv29.out
          have T31 := Lib.hid T29.out
          have U31 := Lib.hid U29.out
          have Ha31 := Lib.hid Ha29.out
          have Hb31 := Lib.hid Hb29.out
          have HB31 := Lib.hid HB29.out
          clear E f0 f1 f2 f3 f4 g0 g1 g2 g3 g4 g5
          have hfin := HB31.out
          have hown := Hv31.out
          go_wp2
          go_ret
          exact ⟨⟨_, rfl, ownsRow_base hown hsz0⟩, hw0b.trans (hfin.mono hw0b.size)⟩
      case true =>
        rw [hs2] at hl
        have E := Lib.hid (hl.trans (if_neg (by simp)))
        clear hl
        have Hv32 : Hid (w28.ownsRow w0.heap.size 3 1 (.slice none 0 0) (fl F 3).length ((fl F 3).map (Value.int .i64))) := by show w28.ownsRow _ _ _ _ _ _; rw [E.out]; exact Hv28.out
        have T32 := Lib.hid T28.out
        have U32 := Lib.hid U28.out
        have Ha32 := Lib.hid Ha28.out
        have Hb32 := Lib.hid Hb28.out
        have HB32 := Lib.hid HB28.out
        clear E f0 f1 f2 f3 f4 g0 g1 g2 g3 g4 g5
        obtain ⟨f0, f1, f2, f3, f4⟩ := T32.out.cells
        obtain ⟨g0, g1, g2, g3, g4, g5⟩ := U32.out
        go_wp2_with fail
        refine (rapart_any t now _ ht hn).mono ?_
        rintro _ _ ⟨rfl, rfl⟩
        have hl : fl F 4 = if decide (skew < sat (max t now - min t now)) then fl F 3 ++ [6] else fl F 3 := by rw [show decide (skew < sat (max t now - min t now)) = F 3 by rw [HF.out]; rfl]; rfl
        by_cases h : skew < sat (max t now - min t now)
        · have d0 : decide (skew < sat (max t now - min t now)) = true := by simpa using h
          rw [d0] at hl
          have E := Lib.hid (hl.trans (if_pos rfl))
          clear hl h
          have hown := Hv32.out
          have hlK := hlen 3
          have hBs := HB32.out.size
          go_wp2_with (at_builtin; refine wpList_append_own_at _ rfl _ _ 47 rfl w0.heap.size 3 ic _ 1 8 Try.underlying47 hic hzc hsc hbc rfl (by decide) _ (fl F 3).length _ rfl (hown.alloc _) ⟨w28.heap.size, 0, none⟩ 1 1 [.int .i64 6] rfl rfl ?d2 ?d3 ?d4 ?d5 ?d6 ?_)
          case d2 => exact cells_new (n := 1) (cs := #[.int .i64 6]) (by simp [go_sem])
          case d3 => simp [Value.oneCell']
          case d4 => simp only [maxLen]; omega
          case d5 => omega
          case d6 => first | (simp; done) | (simp; omega)
          intro v33 w33 Hnew hgr _ _
          have hb0 : Below w0.heap.size w0 w33 := (ba _ HB32.out).grown hgr (ba _ HB32.out).size (fun b hbk => (hown.lt b hbk).1)
          have T33 := Lib.hid (T0.out.below hb0)
          have U33 := Lib.hid (U0.out.below hb0)
          have Ha33 := Lib.hid (Ha0.out.below hb0)
          have Hb33 := Lib.hid (Hb0.out.below hb0)
          have HB33 := Lib.hid hb0
          have Hv33 : Hid (w33.ownsRow w0.heap.size 3 1 v33 (fl F 4).length ((fl F 4).map (Value.int .i64))) := by show w33.ownsRow _ _ _ _ _ _; rw [E.out, List.length_append, List.map_append]; exact Hnew
          clear hgr Hnew hb0 hown hlK hBs E f0 f1 f2 f3 f4 g0 g1 g2 g3 g4 g5 d0
          have hfin := HB33.out
          have hown := Hv33.out
          go_wp2
          go_ret
          exact ⟨⟨_, rfl, ownsRow_base hown hsz0⟩, hw0b.trans (hfin.mono hw0b.size)⟩
        · have d0 : decide (skew < sat (max t now - min t now)) = false := by simpa using h
          rw [d0] at hl
          have E := Lib.hid (hl.trans (if_neg (by simp)))
          clear hl h
          have Hv34 : Hid (w28.ownsRow w0.heap.size 3 1 (.slice none 0 0) (fl F 4).length ((fl F 4).map (Value.int .i64))) := by show w28.ownsRow _ _ _ _ _ _; rw [E.out]; exact Hv32.out
          have T34 := Lib.hid T32.out
          have U34 := Lib.hid U32.out
          have Ha34 := Lib.hid Ha32.out
          have Hb34 := Lib.hid Hb32.out
          have HB34 := Lib.hid HB32.out
          clear E f0 f1 f2 f3 f4 g0 g1 g2 g3 g4 g5
          have hfin := HB34.out
          have hown := Hv34.out
          go_wp2
          go_ret
          exact ⟨⟨_, rfl, ownsRow_base hown hsz0⟩, hw0b.trans (hfin.mono hw0b.size)⟩
end Go.Proofs.Ytmmimjpgaalbcaa
