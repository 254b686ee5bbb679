/- What Make of the reference of package frame computes. Conditions: the number fits 32 bits; the slice reads as at most 54 bytes. -/
import Derived.Test.YtlonmghkdobhdaaFr3
set_option linter.unusedSimpArgs false
set_option linter.unusedVariables false
namespace Go.Proofs.Ytlonmghkdobhdaa
open Go.RowKit

def zer (n : Nat) : List UInt8 := List.replicate n 0
@[simp] theorem zer_length (n : Nat) : (zer n).length = n := by simp [zer]
theorem be2_small (n : Nat) (h : n < 256) : be 2 n = [0, UInt8.ofNat n] := by
  have e : n / 256 = 0 := Nat.div_eq_of_lt h
  show [UInt8.ofNat (n / 256 ^ 1), UInt8.ofNat (n / 256 ^ 0)] = _
  rw [Nat.pow_one, e, Nat.pow_zero, Nat.div_one]; rfl
theorem set_len {α : Type} (a b : List α) (i : Nat) (c : α) (n : Nat) (h : a.length = n) (hi : n ≤ i) : (a ++ b).set i c = a ++ b.set (i - n) c := by
  subst h; exact List.set_append_right _ _ hi
theorem sl_zsec : sl zsec = zer 64 := by decide
theorem av_zsec : av zsec = bv (zer 64) := by rw [av_sl, sl_zsec]
theorem zer_cons (n : Nat) : zer (n + 1) = 0 :: zer n := rfl
theorem stage_one (n : Nat) (h : n < 256) : (zer 64).set 1 (UInt8.ofNat n) = be 2 n ++ (([] : List UInt8) ++ zer 62) := by
  rw [be2_small n h]; rfl
theorem stage_pay (p : List UInt8) (n i : Nat) (h : i < p.length) (h54 : p.length ≤ 54) : (be 2 n ++ (p.take i ++ zer (62 - i))).set (2 + i) (p.getD i 0) = be 2 n ++ (p.take (i + 1) ++ zer (62 - (i + 1))) := by
  rw [set_len _ _ _ _ 2 (be_length 2 n) (by omega), show 2 + i - 2 = i by omega, set_len _ _ _ _ i (by simp; omega) (Nat.le_refl _), Nat.sub_self, take_snoc p i 0 h]
  rw [show 62 - i = (62 - (i + 1)) + 1 by omega, zer_cons, List.set_cons_zero, List.append_assoc]; rfl
theorem stage_body (p : List UInt8) (n : Nat) (hn : p.length = n) (h54 : n ≤ 54) : be 2 n ++ (p ++ zer (62 - n)) = bodyL p ++ (zer 4 ++ beTo 4 0 7) := by
  have e : zer (62 - n) = zer (54 - n) ++ (zer 4 ++ beTo 4 0 7) := by
    rw [beTo_zero]
    show List.replicate _ _ = List.replicate _ _ ++ (List.replicate _ _ ++ List.replicate _ _)
    rw [List.replicate_append_replicate, List.replicate_append_replicate]
    congr 1; omega
  rw [e]
  unfold bodyL
  rw [hn, List.append_assoc, List.append_assoc]; rfl
theorem beTo_zero_any (k x y : Nat) : beTo k 0 x = beTo k 0 y := by rw [beTo_zero, beTo_zero]
theorem stage_tag (p m : List UInt8) (h : p.length = 56) (hm : m.length = 4) (j x : Nat) (hj : j < 4) : (p ++ (m ++ beTo 4 j x)).set (63 - j) (UInt8.ofNat (x / 256 ^ j)) = p ++ (m ++ beTo 4 (j + 1) x) := by
  rw [set_len _ _ _ _ 56 h (by omega), set_len _ _ _ _ 4 hm (by omega), show 63 - j - 56 - 4 = 4 - 1 - j by omega, beTo_succ 4 j x hj]
theorem stage_sum (p m : List UInt8) (h : p.length = 56) (j x : Nat) (hj : j < 4) : (p ++ (beTo 4 j x ++ m)).set (59 - j) (UInt8.ofNat (x / 256 ^ j)) = p ++ (beTo 4 (j + 1) x ++ m) := by
  rw [set_len _ _ _ _ 56 h (by omega), List.set_append_left _ _ (by simp; omega), show 59 - j - 56 = 4 - 1 - j by omega, beTo_succ 4 j x hj]
theorem shr_byte (x j : Nat) : Value.int .u8 ((x : Int) / 2 ^ (8 * j) % 256) = B8 (UInt8.ofNat (x / 256 ^ j)) := by
  have e : (x : Int) / 2 ^ (8 * j) = ((x / 2 ^ (8 * j) : Nat) : Int) := by push_cast; rfl
  rw [e, B8_of, Nat.pow_mul]

/-- One byte of the sector in block S is written. -/
theorem sec_set {w : World} {S i : Nat} {l : List UInt8} (c : UInt8) (hr : readAt w S 0 64 = some (bv l)) (hk : canAt w S 0 64 = true) (hl : l.length = 64) (hi : i < 64) :
    readAt (w.setCell ⟨S, i, none⟩ (B8 c)) S 0 64 = some (bv (l.set i c)) ∧ canAt (w.setCell ⟨S, i, none⟩ (B8 c)) S 0 64 = true ∧ OnlyB S w (w.setCell ⟨S, i, none⟩ (B8 c)) := by
  have hcan1 := canAt_sub hk i 1 (by omega)
  rw [setCell_setAt hcan1]
  refine ⟨?_, by rw [canAt_setAt _ _ _ _ _ _ _ (by simpa using hcan1)]; exact hk, OnlyB.setAt _ _ _ _⟩
  rw [readAt_setAt_over _ _ 0 64 _ hr hk i _ (by omega) (by simp; omega), Nat.sub_zero, bv_set _ _ (by omega)]
theorem bv_secOf (l : List UInt8) (h : l.length = 64) : bv l = av (secOf l) := by rw [av_sl, sl_secOf l h]
theorem sumOf_stage (p : List UInt8) (g : Nat) (h : (bodyL p).length = 56) : sumOf (secOf (bodyL p ++ (zer 4 ++ be 4 g))) = csum (bodyL p ++ be 4 g) := by
  unfold sumOf
  rw [sl_secOf _ (by simp [h])]
  have e1 : (bodyL p ++ (zer 4 ++ be 4 g)).take 56 = bodyL p := take_len h
  have e2 : (bodyL p ++ (zer 4 ++ be 4 g)).drop 60 = be 4 g := by
    have : (bodyL p ++ (zer 4 ++ be 4 g)).drop 60 = ((bodyL p ++ (zer 4 ++ be 4 g)).drop 56).drop 4 := by rw [List.drop_drop]
    rw [this, drop_len h, drop_len (zer_length 4)]
  rw [e1, e2]
theorem sec_cell {w : World} {S i : Nat} {l : List UInt8} (hr : readAt w S 0 64 = some (bv l)) (hl : l.length = 64) (hi : i < 64) : w.cell? ⟨S, i, none⟩ = some (.int .u8 ((l.getD i 0).toNat : Int)) := by
  have := readAt_cell hr i _ (bv_get l i (by omega))
  rwa [Nat.zero_add] at this

set_option maxHeartbeats 6400000 in
theorem rmake_any (g : Nat) (ad : Option Addr) (n c : Nat) (p : List UInt8) (w : World) (hg : g < 4294967296) (hp : Bs w ad n c p) (h : n ≤ 54) :
    Calls Try.prog 11 #[.int .u32 g, .slice ad n c] w fun e w' => e = .returned (.agg (av (recS g p))) ∧ Below w.heap.size w w' := by
  have Hp := Lib.hid hp
  have Hlen := Lib.hid hp.1
  have hb0 := ba (.cells (av zsec) 25) (ba (.cells (av zsec) 25) (Below.refl w.heap.size w))
  have hr0 : readAt ((w.alloc (.cells (av zsec) 25)).alloc (.cells (av zsec) 25)) (w.heap.size + 1) 0 64 = some (bv (zer 64)) := by rw [← av_zsec]; simp [go_sem]
  have hk0 : canAt ((w.alloc (.cells (av zsec) 25)).alloc (.cells (av zsec) 25)) (w.heap.size + 1) 0 64 = true := by simp [go_sem]
  have hc0 : canAt ((w.alloc (.cells (av zsec) 25)).alloc (.cells (av zsec) 25)) w.heap.size 0 64 = true := by simp [go_sem]
  have hcell0 := sec_cell hr0 (by simp) (show 1 < 64 by omega)
  have hfr0 := canAt_cell hk0 1
  rw [Nat.zero_add] at hfr0
  have hset0 := sec_set (UInt8.ofNat n) hr0 hk0 (by simp) (show 1 < 64 by omega)
  rw [stage_one n (by omega)] at hset0
  have hB0 : B8 (UInt8.ofNat n) = .int .u8 (n : Int) := by rw [B8_of, Int.emod_eq_of_lt (by omega) (by omega)]
  rw [hB0] at hset0
  have hc1 : canAt _ w.heap.size 0 64 = true := hc0
  generalize hW : (w.alloc (.cells (av zsec) 25)).alloc (.cells (av zsec) 25) = W at *
  have Hset0 := Lib.hid hset0
  have Hb0 := Lib.hid hb0
  have Hc0 := Lib.hid hc0
  clear hset0 hb0 hc0 hc1 hr0 hk0 hB0 hp
  have hsz : W.heap.size = w.heap.size + 2 := by rw [← hW]; simp
  have Hsz := Lib.hid hsz
  clear hsz
  go_enter Try.func11, Try.ntmps11
  go_wp2_with fail
  have hr1 := Hset0.out.1
  have hk1 := Hset0.out.2.1
  have ho1 := Hset0.out.2.2
  have hb1 : Below w.heap.size w (W.setCell ⟨w.heap.size + 1, 1, none⟩ (.int .u8 (n : Int))) := ho1.below Hb0.out (by omega)
  have hc1 : canAt (W.setCell ⟨w.heap.size + 1, 1, none⟩ (.int .u8 (n : Int))) w.heap.size 0 64 = true := by
    have := ho1.block w.heap.size (by omega)
    simp only [canAt, this]; exact Hc0.out
  have Hr1 := Lib.hid hr1
  have Hk1 := Lib.hid hk1
  have Hb1 := Lib.hid hb1
  have Hc1 := Lib.hid hc1
  clear hr1 hk1 ho1 hb1 hc1 hcell0 hfr0 Hset0 Hb0 Hc0 hW Hsz
  generalize W.setCell ⟨w.heap.size + 1, 1, none⟩ (.int .u8 (n : Int)) = w1 at *
  go_loopw [6] (fun q wr => ∃ i : Nat, i ≤ n ∧ q = .int .i64 i ∧ Hid (readAt wr (w.heap.size + 1) 0 64 = some (bv (be 2 n ++ (p.take i ++ zer (62 - i))))) ∧ Hid (canAt wr (w.heap.size + 1) 0 64 = true) ∧ OnlyB (w.heap.size + 1) w1 wr) (fun q _ => n - (intOf q).toNat)
  case atStart => exact ⟨0, by omega, rfl, Hr1.out, Hk1.out, OnlyB.refl _ _⟩
  case round =>
    obtain ⟨i, hi, rfl, hr, hk, ho⟩ := hrel
    have hlen : (be 2 n ++ (p.take i ++ zer (62 - i))).length = 64 := by
      rw [List.length_append, List.length_append, be_length, zer_length, List.length_take, Hlen.out]; omega
    by_cases hlt : i < n
    · obtain ⟨b, o, rfl, hcell⟩ := (Hp.out.below (ho.below Hb1.out (by omega))).at i hlt
      have hold := sec_cell hr.out hlen (show 2 + i < 64 by omega)
      have hfr := canAt_cell hk.out (2 + i)
      rw [Nat.zero_add] at hfr
      have hset := Lib.hid (sec_set (p.getD i 0) hr.out hk.out hlen (show 2 + i < 64 by omega))
      have hst := Lib.hid (stage_pay p n i (by rw [Hlen.out]; exact hlt) (by rw [Hlen.out]; exact h))
      have hB : Hid (B8 (p.getD i 0) = .int .u8 ((p.getD i 0).toNat : Int)) := rfl
      have hz := toNat_lt (p.getD i 0)
      have Ho := Lib.hid ho
      clear hlen ho
      generalize (p.getD i 0).toNat = z at *
      generalize ((be 2 n ++ (p.take i ++ zer (62 - i))).getD (2 + i) 0).toNat = z2 at *
      go_wp2
      go_roundw
      case rel =>
        obtain ⟨h1, h2, h3⟩ := hset.out
        rw [hB.out, hst.out] at h1
        rw [hB.out] at h2 h3
        exact ⟨i + 1, by omega, by go_num, h1, h2, Ho.out.trans h3⟩
      case measure => simp [intOf]; omega
    · obtain rfl : i = n := by omega
      have hbl := bodyL_length p (by rw [Hlen.out]; exact h)
      have Hbl := Lib.hid hbl
      have hr2 := hr.out
      rw [List.take_of_length_le (by rw [Hlen.out]; exact Nat.le_refl _), stage_body p i Hlen.out h, beTo_zero_any 4 7 g] at hr2
      have Hr2 := Lib.hid hr2
      have Hk2 := hk
      have Hb2 := Lib.hid (ho.below Hb1.out (by omega))
      have hc2 : canAt wr w.heap.size 0 64 = true := by
        have := ho.block w.heap.size (by omega)
        simp only [canAt, this]; exact Hc1.out
      have Hc2 := Lib.hid hc2
      clear hr2 hbl hc2 ho hlen hr hk Hr1 Hk1 Hb1 Hc1
      generalize hwx : wr = wx at *
      clear hwx
      go_wp2_with fail
      go_loopw [7] (fun q wr => ∃ j : Nat, j ≤ 4 ∧ q = .int .i64 j ∧ Hid (readAt wr (w.heap.size + 1) 0 64 = some (bv (bodyL p ++ (zer 4 ++ beTo 4 j g)))) ∧ Hid (canAt wr (w.heap.size + 1) 0 64 = true) ∧ OnlyB (w.heap.size + 1) wx wr) (fun q _ => 4 - (intOf q).toNat)
      case atStart => exact ⟨0, by omega, rfl, Hr2.out, Hk2.out, OnlyB.refl _ _⟩
      case round =>
        obtain ⟨j, hj, rfl, hr, hk, ho⟩ := hrel
        have hlen : (bodyL p ++ (zer 4 ++ beTo 4 j g)).length = 64 := by simp [Hbl.out]
        by_cases hlt2 : j < 4
        · have hold := sec_cell hr.out hlen (show 63 - j < 64 by omega)
          have hfr := canAt_cell hk.out (63 - j)
          rw [Nat.zero_add] at hfr
          have hset := Lib.hid (sec_set (UInt8.ofNat (g / 256 ^ j)) hr.out hk.out hlen (show 63 - j < 64 by omega))
          have hst := Lib.hid (stage_tag (bodyL p) (zer 4) Hbl.out (zer_length 4) j g hlt2)
          have hB := Lib.hid (shr_byte g j)
          have Ho := Lib.hid ho
          clear hlen ho
          generalize ((bodyL p ++ (zer 4 ++ beTo 4 j g)).getD (63 - j) 0).toNat = z2 at *
          go_wp2
          go_roundw
          case rel =>
            obtain ⟨h1, h2, h3⟩ := hset.out
            rw [hst.out, ← hB.out] at h1
            rw [← hB.out] at h2 h3
            exact ⟨j + 1, by omega, by go_num, h1, h2, Ho.out.trans h3⟩
          case measure => simp [intOf]; omega
        · obtain rfl : j = 4 := by omega
          have hr3 := hr.out
          rw [beTo_all, bv_secOf _ (by simp [Hbl.out])] at hr3
          have Hr3 := Lib.hid hr3
          have Hk3 := hk
          have Hb3 := Lib.hid (ho.below Hb2.out (by omega))
          have hc3 : canAt wr w.heap.size 0 64 = true := by
            have := ho.block w.heap.size (by omega)
            simp only [canAt, this]; exact Hc2.out
          have Hc3 := Lib.hid hc3
          have HX := Lib.hid (sumOf_stage p g Hbl.out)
          clear hr3 hc3 ho hr hk hlen Hr2 Hk2 Hb2 Hc2
          generalize hwy : wr = wy at *
          clear hwy
          have hr3 := Hr3.out
          go_wp2_with fail
          refine (rfsum_any _ _).mono ?_
          rw [HX.out]
          rintro _ w4 ⟨rfl, hb4⟩
          have hs4 := readAt_lt hr3
          have hr4 : readAt w4 (w.heap.size + 1) 0 64 = some (bv (bodyL p ++ (beTo 4 0 7 ++ be 4 g))) := by
            rw [readAt_below hb4 hs4, hr3, ← bv_secOf _ (by simp [Hbl.out])]
            rw [beTo_zero]; rfl
          have hk4 : canAt w4 (w.heap.size + 1) 0 64 = true := by rw [canAt_below hb4 hs4]; exact Hk3.out
          have hc4 : canAt w4 w.heap.size 0 64 = true := by rw [canAt_below hb4 (by omega)]; exact Hc3.out
          obtain ⟨T, hT⟩ : ∃ T, csum (bodyL p ++ be 4 g) = T := ⟨_, rfl⟩
          have hTlt : T < 4294967296 := by rw [← hT]; exact csum_lt _
          rw [hT]
          rw [beTo_zero_any 4 7 T] at hr4
          have HT := Lib.hid hT
          have Hr4 := Lib.hid hr4
          have Hk4 := Lib.hid hk4
          have Hc4 := Lib.hid hc4
          have Hb4 := Lib.hid (bt Hb3.out hb4)
          clear hT hr4 hk4 hc4 hb4 hr3 Hr3 Hk3 Hb3 Hc3 HX hs4
          go_wp2_with fail
          go_loopw [9] (fun q wr => ∃ j : Nat, j ≤ 4 ∧ q = .int .i64 j ∧ Hid (readAt wr (w.heap.size + 1) 0 64 = some (bv (bodyL p ++ (beTo 4 j T ++ be 4 g)))) ∧ Hid (canAt wr (w.heap.size + 1) 0 64 = true) ∧ OnlyB (w.heap.size + 1) w4 wr) (fun q _ => 4 - (intOf q).toNat)
          case atStart => exact ⟨0, by omega, rfl, Hr4.out, Hk4.out, OnlyB.refl _ _⟩
          case round =>
            obtain ⟨j, hj, rfl, hr, hk, ho⟩ := hrel
            have hlen : (bodyL p ++ (beTo 4 j T ++ be 4 g)).length = 64 := by simp [Hbl.out]
            by_cases hlt3 : j < 4
            · have hold := sec_cell hr.out hlen (show 59 - j < 64 by omega)
              have hfr := canAt_cell hk.out (59 - j)
              rw [Nat.zero_add] at hfr
              have hset := Lib.hid (sec_set (UInt8.ofNat (T / 256 ^ j)) hr.out hk.out hlen (show 59 - j < 64 by omega))
              have hst := Lib.hid (stage_sum (bodyL p) (be 4 g) Hbl.out j T hlt3)
              have hB := Lib.hid (shr_byte T j)
              have Ho := Lib.hid ho
              clear hlen ho
              generalize ((bodyL p ++ (beTo 4 j T ++ be 4 g)).getD (59 - j) 0).toNat = z2 at *
              go_wp2
              go_roundw
              case rel =>
                obtain ⟨h1, h2, h3⟩ := hset.out
                rw [hst.out, ← hB.out] at h1
                rw [← hB.out] at h2 h3
                exact ⟨j + 1, by omega, by go_num, h1, h2, Ho.out.trans h3⟩
              case measure => simp [intOf]; omega
            · obtain rfl : j = 4 := by omega
              have hr5 := hr.out
              have hrec : bodyL p ++ (be 4 T ++ be 4 g) = recL g p := by unfold recL; rw [HT.out]
              rw [beTo_all, hrec] at hr5
              have hav : bv (recL g p) = av (recS g p) := by rw [bv_secOf _ (recL_length g p (by rw [Hlen.out]; exact h))]; rfl
              rw [hav] at hr5
              have hc5 : canAt wr w.heap.size 0 64 = true := by
                have := ho.block w.heap.size (by omega)
                simp only [canAt, this]; exact Hc4.out
              have Hb5 := Lib.hid (ho.below Hb4.out (by omega))
              have Hc5 := Lib.hid hc5
              clear hrec hav ho hr hk hlen
              go_wp2
              refine bodyPost_ret (results_sec rfl _ _ (w.heap.size) 0 (av (recS g p)) rfl ?_) rfl ⟨rfl, setAt_below Hb5.out (Nat.le_refl _) _ _⟩
              exact readAt_setAt_same _ _ _ _ _ (by simp) Hc5.out
end Go.Proofs.Ytlonmghkdobhdaa
