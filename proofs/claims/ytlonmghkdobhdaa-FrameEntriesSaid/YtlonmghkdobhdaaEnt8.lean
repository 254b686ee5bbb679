/- What PutNumber of the reference of wire computes for eight bytes. Conditions: the number fits 64 bits. -/
import Derived.Test.YtlonmghkdobhdaaEnt4
set_option linter.unusedSimpArgs false
set_option linter.unusedVariables false
namespace Go.Proofs.Ytlonmghkdobhdaa
open Go.RowKit

theorem be_succ_front (k n : Nat) : be (k + 1) n = UInt8.ofNat (n / 256 ^ k) :: be k n := by
  unfold be
  rw [List.range_succ_eq_map, List.map_cons, List.map_map]
  congr 1
  · apply List.map_congr_left
    intro p hp
    show UInt8.ofNat (n / 256 ^ (k + 1 - 1 - (p + 1))) = _
    congr 3
    omega
theorem own_one (w : World) (c : UInt8) (base : Nat) (hb : base ≤ w.heap.size) : (w.alloc (.cells #[B8 c] 5)).ownsRow base 5 1 (.slice (some ⟨w.heap.size, 0, none⟩) 1 1) 1 [B8 c] :=
  ⟨by simp, .inr ⟨w.heap.size, 1, #[B8 c], rfl, hb, heap_alloc_new w _, Nat.le_refl _, by simp [maxLen], by simp, by simp⟩⟩

set_option maxHeartbeats 1600000 in
theorem putnum_any (n : Nat) (w : World) (hn : n < 18446744073709551616) :
    Calls Try.prog 35 #[.int .i64 8, .int .u64 n] w fun e w' => (∃ pa pc, e = .returned (.tuple #[.slice pa 8 pc, .bool true]) ∧ Bs w' pa 8 pc (be 8 n)) ∧ Below w.heap.size w w' := by
  obtain ⟨i0, hi, hz, hsz, hby⟩ := info_parts view_u8
  go_enter Try.func35, Try.ntmps35
  go_wp2_with fail
  go_loopw [1, 6, 7] (fun x out i wr => ∃ k : Nat, k ≤ 8 ∧ i = .int .i64 k ∧ x = .int .u64 (n / 256 ^ k : Nat) ∧ (∃ pa pc, out = .slice pa k pc ∧ Bs wr pa k pc (be k n)) ∧ Below w.heap.size w wr) (fun _ _ i _ => 8 - (intOf i).toNat)
  case atStart => exact ⟨0, by omega, rfl, by simp, ⟨none, 0, rfl, Bs.nil _⟩, Below.refl _ _⟩
  case round =>
    obtain ⟨k, hk, rfl, rfl, ⟨pa, pc, rfl, hbs⟩, hb⟩ := hrel
    by_cases hlt : k < 8
    · have hby' : Value.int .u8 ((n / 256 ^ k : Nat) % 256 : Int) = B8 (UInt8.ofNat (n / 256 ^ k)) := (B8_of _).symm
      have hbf := be_succ_front k n
      have hdv : n / 256 ^ k / 256 = n / 256 ^ (k + 1) := by rw [Nat.div_div_eq_div_mul, Nat.pow_succ]
      have hlen := be_length k n
      have hR : ∃ R, be (k + 1) n = R := ⟨_, rfl⟩
      obtain ⟨R, hR⟩ := hR
      have HR := Lib.hid hR
      rw [hR] at hbf
      clear hR
      generalize be k n = F at *
      obtain ⟨N2, hN2⟩ : ∃ N2, n / 256 ^ (k + 1) = N2 := ⟨_, rfl⟩
      have HN2 := Lib.hid hN2
      rw [hN2] at hdv
      clear hN2
      have hx : n / 256 ^ k < 18446744073709551616 := Nat.lt_of_le_of_lt (Nat.div_le_self _ _) hn
      generalize n / 256 ^ k = N1 at *
      have hown0 := own_one wr (UInt8.ofNat N1) w.heap.size hb.size
      have hba := ba (.cells #[B8 (UInt8.ofNat N1)] 5) (Below.refl wr.heap.size wr)
      have Hba := Lib.hid (hb.trans (hba.mono hb.size))
      have hbs2 := hbs.below hba
      rw [← hby'] at hown0 hbs2 Hba
      have Hby' := Lib.hid hby'
      have Hown := Lib.hid hown0
      have Hbf := Lib.hid hbf
      have Hlen := Lib.hid hlen
      have Hdv := Lib.hid hdv
      clear hown0 hba hbs hbf hlen hdv hby'
      rcases hbs2.src with ⟨rfl, rfl, rfl, rfl⟩ | ⟨a, rfl, hsrc⟩
      · clear hbs2
        go_wp2_with (at_builtin; refine wpList_append_own_none rfl _ _ 23 rfl w.heap.size 5 i0 1 Try.underlying23 hi _ _ _ rfl Hown.out rfl ?_)
        go_roundw
        case rel =>
          have hd : ((N1 : Nat) : Int) / 256 = ((N2 : Nat) : Int) := by rw [← Hdv.out]; omega
          have hown := Hown.out
          rw [Hby'.out] at hown
          have hown1 : ByOwn (wr.alloc (.cells #[.int .u8 ((N1 : Int) % 256)] 5)) w.heap.size (.slice (some ⟨wr.heap.size, 0, none⟩) 1 1) [UInt8.ofNat N1] := by
            unfold ByOwn; rw [Hby'.out]; exact hown
          obtain ⟨pa, pc, hv, hb1⟩ := hown1.bs
          refine ⟨1, by omega, by go_num, by rw [HN2.out, hd], ⟨pa, pc, hv, ?_⟩, Hba.out⟩
          rw [HR.out, Hbf.out]; exact hb1
        case measure => simp [intOf]
      · have Hsrc := Lib.hid hsrc
        clear hsrc hbs2
        go_wp2_with (at_builtin; refine wpList_append_own _ rfl _ _ 23 rfl w.heap.size 5 i0 _ 1 1 Try.underlying23 hi hz hsz hby rfl (by decide) _ 1 _ rfl Hown.out a k pc (F.map B8) rfl ?c1 Hsrc.out ?c3 ?c4 ?c5 ?c6 ?_)
        case c1 => rw [List.length_map, Hlen.out]; omega
        case c3 => exact map_B8_one _
        case c4 => simp only [maxLen]; omega
        case c5 => omega
        case c6 => exact Hba.out.size
        intro v' w3 hown3 hgr _
        have hb3 := Hba.out.grown hgr Hba.out.size (fun b hbk => (Hown.out.lt b hbk).1)
        have hown4 : ByOwn w3 w.heap.size v' R := by
          unfold ByOwn
          rw [Hbf.out, List.map_cons, List.length_cons, Hlen.out]
          have h := hown3
          rw [Hby'.out, Nat.add_comm] at h
          exact h
        obtain ⟨qa, qc, rfl, hqb⟩ := hown4.bs
        have hRl : R.length = k + 1 := by rw [Hbf.out, List.length_cons, Hlen.out]
        rw [hRl] at hqb ⊢
        have Hqb := Lib.hid hqb
        have Hb3 := Lib.hid hb3
        clear hown3 hgr hown4 hqb hb3 hRl
        go_wp2
        go_roundw
        case rel =>
          have hd : ((N1 : Nat) : Int) / 256 = ((N2 : Nat) : Int) := by rw [← Hdv.out]; omega
          refine ⟨k + 1, by omega, by go_num, by rw [HN2.out, hd], ⟨qa, qc, rfl, ?_⟩, Hb3.out⟩
          rw [HR.out]; exact Hqb.out
        case measure => simp [intOf]; omega
    · obtain rfl : k = 8 := by omega
      have hz8 : n / 256 ^ 8 = 0 := Nat.div_eq_of_lt hn
      rw [hz8]
      have Hbs := Lib.hid hbs
      have Hb := Lib.hid hb
      clear hbs hb
      go_wp2
      go_ret2
      exact ⟨⟨pa, pc, rfl, Hbs.out⟩, Hb.out⟩
end Go.Proofs.Ytlonmghkdobhdaa
