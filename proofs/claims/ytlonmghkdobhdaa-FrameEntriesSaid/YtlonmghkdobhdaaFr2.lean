/- What sum of the reference of package frame computes. No conditions. -/
import Derived.Test.YtlonmghkdobhdaaFr1
set_option linter.unusedSimpArgs false
set_option linter.unusedVariables false
namespace Go.Proofs.Ytlonmghkdobhdaa
open Go.RowKit

set_option maxHeartbeats 1600000 in
theorem rfsum_any (x : Sec) (w : World) :
    Calls Try.prog 31 #[.agg (av x)] w fun e w' => e = .returned (.int .u32 (sumOf x : Nat)) ∧ Below w.heap.size w w' := by
  obtain ⟨i0, hi, hz, hsz, hby⟩ := info_parts view_u8
  have hr : readAt (w.alloc (.cells (av x) 25)) w.heap.size 0 64 = some (av x) := by simp [go_sem]
  have hB := ba (.cells (av x) 25) (Below.refl w.heap.size w)
  generalize hW : w.alloc (.cells (av x) 25) = W at *
  have hWs : w.heap.size < W.heap.size := by rw [← hW]; simp
  have hown0 : (W.alloc (.cells #[] 5)).ownsRow W.heap.size 5 1 (.slice (some ⟨W.heap.size, 0, none⟩) 0 0) 0 [] :=
    World.ownsRow_made (size := 1) W #[] 0 (Nat.le_refl _) (by simp [maxLen]) (by simp)
  have hbz := run_buildSlice_zero (P := Try.prog) W 23 5 i0 Try.underlying23 hi
  have hb0 := ba (.cells #[] 5) (Below.refl W.heap.size W)
  have hA := (sec_bs hr 0 56 64 (by omega) (by omega) (by omega)).below hb0
  have hC := (sec_bs hr 60 4 4 (by omega) (by omega) (by omega)).below hb0
  rw [List.drop_zero, Nat.zero_add] at hA
  rw [Nat.zero_add] at hC
  have ht : ((sl x).drop 60).take 4 = (sl x).drop 60 := List.take_of_length_le (by simp)
  rw [ht] at hC
  have hsum : sumOf x = csum ((sl x).take 56 ++ (sl x).drop 60) := rfl
  rw [hsum]
  have Hr := Lib.hid hr
  have HB := Lib.hid hB
  have HWs := Lib.hid hWs
  have Hown := Lib.hid hown0
  have Hb0 := Lib.hid hb0
  have HA := Lib.hid hA
  have HC := Lib.hid hC
  have HW := Lib.hid hW
  clear hr hB hW hWs hown0 hb0 hA hC ht hsum
  generalize (sl x).take 56 = A at *
  generalize (sl x).drop 60 = C at *
  obtain ⟨a, ha, hsA⟩ : ∃ a', some (⟨w.heap.size, 0, none⟩ : Addr) = some a' ∧ ∀ j u, (A.map B8)[j]? = some u → (W.alloc (.cells #[] 5)).cell? (a'.add j) = some u := by
    rcases HA.out.src with ⟨h, _⟩ | h
    · cases h
    · exact h
  cases ha
  have HsA := Lib.hid hsA
  clear hsA
  go_enter Try.func31, Try.ntmps31
  have hW := HW.out
  go_wp2_with (at_builtin; refine wpList_append_own _ rfl (.tmp 4) (.tmp 5) 23 rfl W.heap.size 5 i0 _ 1 1 Try.underlying23 hi hz hsz hby rfl (by decide) _ 0 _ rfl Hown.out ⟨w.heap.size, 0, none⟩ 56 64 (A.map B8) rfl ?c1 HsA.out ?c3 ?c4 ?c5 ?c6 ?_)
  case c1 => rw [List.length_map, HA.out.1]
  case c3 => exact map_B8_one _
  case c4 => simp [maxLen]
  case c5 => omega
  case c6 => exact Hb0.out.size
  intro v1 w3 hown3 hgr _
  have hA56 := HA.out.1
  have HbA := Lib.hid (Hb0.out.grown hgr Hb0.out.size (fun b hbk => (Hown.out.lt b hbk).1))
  have HownA := Lib.hid hown3
  have hC3 : Bs w3 (some ⟨w.heap.size, 60, none⟩) 4 4 C := by
    have h1 := HC.out
    refine ⟨h1.1, h1.2.1, h1.2.2.1, h1.2.2.2.1, fun h0 => ?_⟩
    obtain ⟨b, o, e, hrr⟩ := h1.2.2.2.2 h0
    cases e
    refine ⟨_, _, rfl, ?_⟩
    have hlt := HWs.out
    rw [readAt_below HbA.out (by omega)]
    rw [readAt_below Hb0.out (by omega)] at hrr
    exact hrr
  obtain ⟨a, ha, hsC⟩ : ∃ a', some (⟨w.heap.size, 60, none⟩ : Addr) = some a' ∧ ∀ j u, (C.map B8)[j]? = some u → w3.cell? (a'.add j) = some u := by
    rcases hC3.src with ⟨h, _⟩ | h
    · cases h
    · exact h
  cases ha
  have HsC := Lib.hid hsC
  have hC4 := Lib.hid hC3.1
  clear hsC hC3 hown3 hgr Hown Hb0 hA56 hW
  go_wp2_with (at_builtin; refine wpList_append_own _ rfl (.tmp 7) (.tmp 8) 23 rfl W.heap.size 5 i0 _ 1 1 Try.underlying23 hi hz hsz hby rfl (by decide) _ 56 _ rfl HownA.out ⟨w.heap.size, 60, none⟩ 4 4 (C.map B8) rfl ?d1 HsC.out ?d3 ?d4 ?d5 ?d6 ?_)
  case d1 => rw [List.length_map, hC4.out]
  case d3 => exact map_B8_one _
  case d4 => simp [maxLen]
  case d5 => omega
  case d6 => exact HbA.out.size
  intro v2 w4 hown4 hgr4 _
  have HbB := Lib.hid (HbA.out.grown hgr4 HbA.out.size (fun b hbk => (HownA.out.lt b hbk).1))
  have hown5 : ByOwn w4 W.heap.size v2 (A ++ C) := by
    unfold ByOwn
    rw [List.length_append, HA.out.1, hC4.out, List.map_append]
    exact hown4
  obtain ⟨ra, rc, rfl, hrb⟩ := hown5.bs
  have HR := Lib.hid hrb
  have hfin := Lib.hid (HB.out.trans (HbB.out.mono HB.out.size))
  clear hown4 hgr4 HownA HbA hown5 hrb
  generalize hL : A ++ C = L at *
  have HL := Lib.hid hL
  clear hL
  go_wp2_with fail
  refine (rsum_any _ _ _ L _ HR.out).mono ?_
  rintro _ _ ⟨rfl, rfl⟩
  go_wp2
  go_ret
  exact ⟨by rw [HL.out]; rfl, hfin.out⟩
end Go.Proofs.Ytlonmghkdobhdaa
