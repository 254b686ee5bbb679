/- What Payload of the reference computes. Conditions: the expiry is not negative. -/
import Derived.Test.YtlonmghkdobhdaaEntP
import Derived.Test.YtlonmghkdobhdaaEnt8
set_option linter.unusedSimpArgs false
set_option linter.unusedVariables false
namespace Go.Proofs.Ytlonmghkdobhdaa
open Go.RowKit

set_option maxHeartbeats 1600000 in
theorem payload_any (d : Dig) (n : Nat) (w : World) (hn : n ≤ 4611686018427387904) :
    Calls Try.prog 23 #[.agg (ev d (n : Int))] w fun e w' => (∃ pa pc, e = .returned (.slice pa 40 pc) ∧ Bs w' pa 40 pc (payE d n)) ∧ Below w.heap.size w w' := by
  obtain ⟨i0, hi, hz, hsz, hby⟩ := info_parts view_u8
  obtain ⟨W, hW⟩ : ∃ W, w.alloc (.cells (ev d (n : Int)) 39) = W := ⟨_, rfl⟩
  have hb0 : Below w.heap.size w W := by rw [← hW]; exact ba _ (Below.refl _ _)
  have hr : readAt W w.heap.size 0 33 = some (ev d (n : Int)) := by rw [← hW]; exact newE0 w d n
  have hc := readAt_cell hr 32 _ (ev_32 d n)
  rw [Nat.zero_add] at hc
  have Hb0 := Lib.hid hb0
  have Hr := Lib.hid hr
  clear hb0 hr
  obtain ⟨P, hP⟩ : ∃ P, payE d n = P := ⟨_, rfl⟩
  rw [hP]
  have hwr : IntKind.u64.wrap (n : Int) = (n : Int) := by rw [IntKind.wrap_u64]; omega
  go_enter Try.func23, Try.ntmps23
  go_wp2_with fail
  clear hW
  refine (putnum_any n _ (by omega)).mono ?_
  rintro _ w1 ⟨⟨pa, pc, rfl, hp⟩, hb1⟩
  have hr1 := (readAt_below hb1 (readAt_lt Hr.out) 0 33).trans Hr.out
  have hlt : w.heap.size < w1.heap.size := readAt_lt hr1
  have Hb1 := Lib.hid (Hb0.out.trans (hb1.mono Hb0.out.size))
  have hown0 : (w1.alloc (.cells #[] 5)).ownsRow w1.heap.size 5 1 (.slice (some ⟨w1.heap.size, 0, none⟩) 0 0) 0 [] :=
    World.ownsRow_made (size := 1) w1 #[] 0 (Nat.le_refl _) (by simp [maxLen]) (by simp)
  have hbz := run_buildSlice_zero (P := Try.prog) w1 23 5 i0 Try.underlying23 hi
  have hba := ba (.cells #[] 5) (Below.refl w1.heap.size w1)
  have HA := Lib.hid ((dig_bs hr1).below hba)
  have HC := Lib.hid hp
  have Hown := Lib.hid hown0
  have Hba := Lib.hid hba
  clear hp hb1 hown0 hba hr1 Hb0 Hr hc
  obtain ⟨a, ha, hsA⟩ : ∃ a', some (⟨w.heap.size, 0, none⟩ : Addr) = some a' ∧ ∀ j u, ((dl d).map B8)[j]? = some u → (w1.alloc (.cells #[] 5)).cell? (a'.add j) = some u := by
    rcases HA.out.src with ⟨h, _⟩ | h
    · cases h
    · exact h
  cases ha
  have HsA := Lib.hid hsA
  clear hsA
  have hdl := dl_length d
  have hQl := be_length 8 n
  have hpay : dl d ++ be 8 n = P := hP
  clear hP
  generalize dl d = A at *
  generalize be 8 n = Q at *
  have Hdl := Lib.hid hdl
  have HQl := Lib.hid hQl
  have Hpay := Lib.hid hpay
  clear hdl hQl hpay
  go_wp2_with (at_builtin; refine wpList_append_own _ rfl (.tmp 12) (.tmp 14) 23 rfl w1.heap.size 5 i0 _ 1 1 Try.underlying23 hi hz hsz hby rfl (by decide) _ 0 _ rfl Hown.out ⟨w.heap.size, 0, none⟩ 32 32 (A.map B8) rfl ?c1 HsA.out ?c3 ?c4 ?c5 ?c6 ?_)
  case c1 => rw [List.length_map, Hdl.out]
  case c3 => exact map_B8_one _
  case c4 => simp [maxLen]
  case c5 => omega
  case c6 => exact Hba.out.size
  intro v1 w3 hown3 hgr _
  have HbA := Lib.hid (Hba.out.grown hgr Hba.out.size (fun b hbk => (Hown.out.lt b hbk).1))
  have HownA := Lib.hid hown3
  clear hown3 hgr Hown HsA HA hbz Hba
  have hC3 := HC.out.below HbA.out
  obtain ⟨qa, rfl, hsC⟩ : ∃ a', pa = some a' ∧ ∀ j u, (Q.map B8)[j]? = some u → w3.cell? (a'.add j) = some u := by
    rcases hC3.src with ⟨_, h, _⟩ | h
    · cases h
    · exact h
  have HsC := Lib.hid hsC
  clear hsC hC3 HC
  go_wp2_with (at_builtin; refine wpList_append_own _ rfl (.tmp 15) (.tmp 16) 23 rfl w1.heap.size 5 i0 _ 1 1 Try.underlying23 hi hz hsz hby rfl (by decide) _ 32 _ rfl HownA.out qa 8 pc (Q.map B8) rfl ?d1 HsC.out ?d3 ?d4 ?d5 ?d6 ?_)
  case d1 => rw [List.length_map, HQl.out]
  case d3 => exact map_B8_one _
  case d4 => simp [maxLen]
  case d5 => omega
  case d6 => exact HbA.out.size
  intro v2 w4 hown4 hgr4 _
  have HbB := Lib.hid (HbA.out.grown hgr4 HbA.out.size (fun b hbk => (HownA.out.lt b hbk).1))
  have hown5 : ByOwn w4 w1.heap.size v2 P := by
    unfold ByOwn
    rw [← Hpay.out, List.length_append, Hdl.out, HQl.out, List.map_append]
    exact hown4
  have hPl : P.length = 40 := by rw [← Hpay.out, List.length_append, Hdl.out, HQl.out]
  obtain ⟨ra, rc, rfl, hrb⟩ := hown5.bs
  rw [hPl] at hrb ⊢
  have HR := Lib.hid hrb
  have hfin := Lib.hid (Hb1.out.trans (HbB.out.mono Hb1.out.size))
  clear hown4 hgr4 HownA HbA hown5 hrb HbB
  go_wp2
  go_ret
  exact ⟨⟨ra, rc, rfl, HR.out⟩, hfin.out⟩
end Go.Proofs.Ytlonmghkdobhdaa
