/- What Append of the reference of package crc computes. Conditions: the slice reads as bytes, and is not too long. -/
import Derived.Test.YtmkiggcghbeacaaCrc4
set_option linter.unusedSimpArgs false
set_option linter.unusedVariables false
namespace Go.Proofs.Ytmkiggcghbeacaa
open Go.RowKit

theorem B8_of (y : Nat) : B8 (UInt8.ofNat y) = .int .u8 ((y : Int) % 256) := by
  simp only [B8, Value.int.injEq, true_and, UInt8.toNat_ofNat']
  omega
theorem be_cells (S : Nat) (hS : S < 4294967296) : (be 4 S).map B8 = [.int .u8 ((S : Int) / 16777216), .int .u8 ((S : Int) / 65536 % 256), .int .u8 ((S : Int) / 256 % 256), .int .u8 ((S : Int) % 256)] := by
  rw [be_four]
  simp only [List.map_cons, List.map_nil, B8_of]
  have e0 : ((S / 16777216 : Nat) : Int) % 256 = (S : Int) / 16777216 := by omega
  have e1 : ((S / 65536 : Nat) : Int) % 256 = (S : Int) / 65536 % 256 := by omega
  have e2 : ((S / 256 : Nat) : Int) % 256 = (S : Int) / 256 % 256 := by omega
  rw [e0, e1, e2]

set_option maxHeartbeats 1600000 in
theorem rappend_any (ad : Option Addr) (n c : Nat) (l : List UInt8) (w : World) (hl : Bs w ad n c l) (hs : n ≤ 1073741824) :
    Calls Try.prog 16 #[.slice ad n c] w fun e w' => (∃ v, e = .returned v ∧ ByOwn w' w.heap.size v (l ++ be 4 (csum l))) ∧ Below w.heap.size w w' := by
  obtain ⟨i0, hi, hz, hsz, hby⟩ := info_parts view_u8
  have hown0 : (w.alloc (.cells #[] 5)).ownsRow w.heap.size 5 1 (.slice (some ⟨w.heap.size, 0, none⟩) 0 0) 0 [] :=
    World.ownsRow_made (size := 1) w #[] 0 (Nat.le_refl _) (by simp [maxLen]) (by simp)
  have hbz := run_buildSlice_zero (P := Try.prog) w 24 5 i0 Try.underlying24 hi
  have hb0 := ba (.cells #[] 5) (Below.refl w.heap.size w)
  have hcs := csum_lt l
  have hbe := be_cells (csum l) hcs
  have hsrc := (hl.below hb0).src
  have Hlen := Lib.hid hl.1
  have Hl := Lib.hid hl
  have Hown := Lib.hid hown0
  have Hb0 := Lib.hid hb0
  clear hl hown0 hb0
  obtain ⟨S, hS⟩ : ∃ S, csum l = S := ⟨_, rfl⟩
  rw [hS] at hcs hbe
  have HS := Lib.hid hS
  have Hbe := Lib.hid hbe
  clear hS hbe
  rcases hsrc with ⟨rfl, rfl, rfl, rfl⟩ | ⟨a, rfl, hsrc⟩
  · go_enter Try.func16, Try.ntmps16
    go_wp2_with fail
    refine (rsum_any _ _ _ _ _ Hl.out).mono ?_
    rw [HS.out]
    rintro _ _ ⟨rfl, rfl⟩
    have HownA := Hown
    have HbA := Hb0
    clear Hb0
    go_wp2_with (first | (at_builtin; refine wpList_append_own_none rfl (.tmp 6) (.tmp 7) 24 rfl w.heap.size 5 i0 1 Try.underlying24 hi _ _ _ rfl Hown.out rfl ?_) | (at_builtin; refine wpList_append_own _ rfl (.tmp 8) (.tmp 20) 24 rfl w.heap.size 5 i0 _ 1 1 Try.underlying24 hi hz hsz hby rfl (by decide) _ 0 _ rfl (HownA.out.alloc _) ⟨w.heap.size + 1, 0, none⟩ 4 4 [.int .u8 ((S : Int) / 16777216), .int .u8 ((S : Int) / 65536 % 256), .int .u8 ((S : Int) / 256 % 256), .int .u8 ((S : Int) % 256)] rfl rfl ?d2 ?d3 ?d4 ?d5 ?d6 ?_))
    case d2 => exact cells_new (n := 4) (cs := #[.int .u8 ((S : Int) / 16777216), .int .u8 ((S : Int) / 65536 % 256), .int .u8 ((S : Int) / 256 % 256), .int .u8 ((S : Int) % 256)]) (by simp [go_sem])
    case d3 => intro u hu; simp at hu; rcases hu with rfl | rfl | rfl | rfl <;> rfl
    case d4 => simp only [maxLen]; omega
    case d5 => omega
    case d6 => have := HbA.out.size; simp at this ⊢; omega
    intro v2 w4 hown4 hgr4 _
    have hfin := Lib.hid ((ba _ HbA.out).grown hgr4 (by have := HbA.out.size; simp at this ⊢; omega) (fun b hbk => (HownA.out.lt b hbk).1))
    have hown5 : Hid (ByOwn w4 w.heap.size v2 (([] : List UInt8) ++ be 4 S)) := by
      show ByOwn _ _ _ _
      unfold ByOwn
      rw [List.length_append, be_length, List.map_append, Hbe.out]
      exact hown4
    clear hown4 hgr4 HownA HbA
    go_wp2
    go_ret
    exact ⟨⟨_, rfl, by rw [HS.out]; exact hown5.out⟩, hfin.out⟩
  · have Hsrc := Lib.hid hsrc
    clear hsrc
    go_enter Try.func16, Try.ntmps16
    go_wp2_with fail
    refine (rsum_any _ _ _ _ _ Hl.out).mono ?_
    rw [HS.out]
    rintro _ _ ⟨rfl, rfl⟩
    go_wp2_with (at_builtin; refine wpList_append_own _ rfl (.tmp 6) (.tmp 7) 24 rfl w.heap.size 5 i0 _ 1 1 Try.underlying24 hi hz hsz hby rfl (by decide) _ 0 _ rfl Hown.out a n c (l.map B8) rfl ?c1 Hsrc.out ?c3 ?c4 ?c5 ?c6 ?_)
    case c1 => rw [List.length_map, Hlen.out]; omega
    case c3 => exact map_B8_one _
    case c4 => simp only [maxLen]; omega
    case c5 => omega
    case c6 => exact Hb0.out.size
    intro v1 w3 hown3 hgr _
    have HbA := Lib.hid (Hb0.out.grown hgr Hb0.out.size (fun b hbk => (Hown.out.lt b hbk).1))
    have HownA := Lib.hid hown3
    clear hown3 hgr Hown Hb0
    go_wp2_with (at_builtin; refine wpList_append_own _ rfl (.tmp 8) (.tmp 20) 24 rfl w.heap.size 5 i0 _ 1 1 Try.underlying24 hi hz hsz hby rfl (by decide) _ n _ rfl (HownA.out.alloc _) ⟨w3.heap.size, 0, none⟩ 4 4 [.int .u8 ((S : Int) / 16777216), .int .u8 ((S : Int) / 65536 % 256), .int .u8 ((S : Int) / 256 % 256), .int .u8 ((S : Int) % 256)] rfl rfl ?d2 ?d3 ?d4 ?d5 ?d6 ?_)
    case d2 => exact cells_new (n := 4) (cs := #[.int .u8 ((S : Int) / 16777216), .int .u8 ((S : Int) / 65536 % 256), .int .u8 ((S : Int) / 256 % 256), .int .u8 ((S : Int) % 256)]) (by simp [go_sem])
    case d3 => intro u hu; simp at hu; rcases hu with rfl | rfl | rfl | rfl <;> rfl
    case d4 => simp only [maxLen]; omega
    case d5 => omega
    case d6 => have := HbA.out.size; simp at this ⊢; omega
    intro v2 w4 hown4 hgr4 _
    have hfin := Lib.hid ((ba _ HbA.out).grown hgr4 (by have := HbA.out.size; simp at this ⊢; omega) (fun b hbk => (HownA.out.lt b hbk).1))
    have hown5 : Hid (ByOwn w4 w.heap.size v2 (l ++ be 4 S)) := by
      show ByOwn _ _ _ _
      unfold ByOwn
      rw [List.length_append, be_length, List.map_append, Hbe.out, Hlen.out]
      exact hown4
    clear hown4 hgr4 HownA HbA
    go_wp2
    go_ret
    exact ⟨⟨_, rfl, by rw [HS.out]; exact hown5.out⟩, hfin.out⟩
end Go.Proofs.Ytmkiggcghbeacaa
