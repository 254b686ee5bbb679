/- What Tear, Fill of its reference compute. Conditions: integer arguments fit their kinds; a slice of bytes reads as its bytes. -/
import Derived.Test.YtjedlcfeobhjnaaSec
import Derived.Test.YtjedlcfeobhjnaaSecM
set_option linter.unusedSimpArgs false
set_option linter.unusedVariables false
namespace Go.Proofs.Ytjedlcfeobhjnaa
open Go.RowKit


def fillTo (k : Nat) (b : UInt8) : Sec := Vector.ofFn fun i => if i.val < k then b else 0
def fill (b : UInt8) : Sec := Vector.replicate 64 b
theorem fillTo_zero (b : UInt8) : fillTo 0 b = zsec := by apply Vector.ext; intro i hi; simp [fillTo, zsec]
theorem fillTo_all (b : UInt8) : fillTo 64 b = fill b := by apply Vector.ext; intro i hi; simp [fillTo, fill]
theorem fillTo_succ (k : Nat) (b : UInt8) (hk : k < 64) : putAt (av (fillTo k b)) k #[B8 b] = av (fillTo (k + 1) b) := by
  apply Array.ext_getElem?
  intro i
  rw [putAt_get _ _ _ (by simp; omega)]
  by_cases hi : i < 64
  · rw [av_get _ i hi]
    by_cases h2 : i = k
    · subst h2; rw [if_pos (by simp), av_get _ i hi]; simp [B8, fillTo]
    · rw [if_neg (by simp; omega), av_get _ i hi]
      simp [fillTo]
      by_cases h3 : i < k
      · simp [h3, show i < k + 1 by omega]
      · simp [h3, show ¬ i < k + 1 by omega]
  · rw [if_neg (by simp; omega)]; simp [hi]

set_option maxHeartbeats 400000 in
theorem fill_any (n : Int) (w : World) (hn : 0 ≤ n ∧ n ≤ 255) :
    Calls Try.prog 14 #[.int .u8 n] w fun e w' => e = .returned (.agg (av (fill (mkU8 n)))) ∧ Below w.heap.size w w' := by
  have hB := B8_u8 n hn
  have HB := Lib.hid hB; clear hB
  go_enter Try.func14, Try.ntmps14
  go_wp2
  go_loopw [4] (fun i wr => ∃ k : Nat, k ≤ 64 ∧ i = .int .i64 k ∧ readAt wr (w.heap.size + 1) 0 64 = some (av (fillTo k (mkU8 n))) ∧ canAt wr (w.heap.size + 1) 0 64 = true ∧ canAt wr w.heap.size 0 64 = true ∧ Below w.heap.size w wr) (fun i _ => 64 - (intOf i).toNat)
  case atStart => exact ⟨0, by omega, rfl, by rw [fillTo_zero]; simp [go_sem], by simp [go_sem], by simp [go_sem], ba _ (ba _ (Below.refl _ _))⟩
  case round =>
    obtain ⟨k, hk, rfl, hr, hc, hc0, hb⟩ := hrel
    by_cases hlt : k < 64
    · have hcell := readAt_cell hr k _ (av_get _ k hlt)
      have hfr := canAt_cell hc k
      rw [Nat.zero_add] at hcell hfr
      have Hr := Lib.hid hr
      have Hc := Lib.hid hc
      have Hc0 := Lib.hid hc0
      clear hr hc hc0
      go_wp2
      go_roundw
      case rel =>
        refine ⟨k + 1, by omega, by go_num, ?_⟩
        have hcan1 := canAt_sub Hc.out k 1 (by omega)
        rw [setCell_setAt hcan1, ← HB.out]
        refine ⟨?_, ?_, ?_, setAt_below hb (by omega) _ _⟩
        · rw [readAt_setAt_over _ _ 0 64 _ Hr.out Hc.out k _ (by omega) (by simp; omega), Nat.sub_zero]
          exact congrArg some (fillTo_succ k _ hlt)
        · rw [canAt_setAt _ _ _ _ _ _ _ (by simpa using hcan1)]; exact Hc.out
        · rw [canAt_setAt _ _ _ _ _ _ _ (by simpa using hcan1)]; exact Hc0.out
      case measure => simp [intOf]; omega
    · obtain rfl : k = 64 := by omega
      rw [fillTo_all] at hr
      go_wp2
      refine bodyPost_ret (results_sec rfl _ _ (w.heap.size) 0 (av (fill (mkU8 n))) rfl ?_) rfl ⟨rfl, setAt_below hb (Nat.le_refl _) _ _⟩
      exact readAt_setAt_same _ _ _ _ _ (by simp) hc0

def tearTo (k : Nat) (x y : Sec) (c : Int) : Sec := Vector.ofFn fun i => if i.val < k then (if (i.val : Int) < c then y[i] else x[i]) else 0
theorem tearTo_zero (x y : Sec) (c : Int) : tearTo 0 x y c = zsec := by apply Vector.ext; intro i hi; simp [tearTo, zsec]
theorem tearTo_all (x y : Sec) (c : Int) : tearTo 64 x y c = tear x y c := by apply Vector.ext; intro i hi; simp [tearTo, tear]
theorem tearTo_succ (k : Nat) (x y : Sec) (c : Int) (hk : k < 64) (b : UInt8) (hb : b = if (k : Int) < c then y[k] else x[k]) : putAt (av (tearTo k x y c)) k #[B8 b] = av (tearTo (k + 1) x y c) := by
  subst hb
  apply Array.ext_getElem?
  intro i
  rw [putAt_get _ _ _ (by simp; omega)]
  by_cases hi : i < 64
  · rw [av_get _ i hi]
    by_cases h2 : i = k
    · subst h2; rw [if_pos (by simp), av_get _ i hi]; simp [B8, tearTo]
    · rw [if_neg (by simp; omega), av_get _ i hi]
      by_cases h3 : i < k
      · simp [tearTo, h3, show i < k + 1 by omega]
      · simp [tearTo, h3, show ¬ i < k + 1 by omega]
  · rw [if_neg (by simp; omega)]; simp [hi]

set_option maxHeartbeats 400000 in
theorem rtear_any (x y : Sec) (c : Int) (w : World) :
    Calls Try.prog 54 #[.agg (av x), .agg (av y), .int .i64 c] w fun e w' => e = .returned (.agg (av (tear x y c))) ∧ Below w.heap.size w w' := by
  go_enter Try.func54, Try.ntmps54
  go_wp2
  go_loopw [8] (fun i wr => ∃ k : Nat, k ≤ 64 ∧ i = .int .i64 k ∧ readAt wr (w.heap.size + 1 + 1 + 1) 0 64 = some (av (tearTo k x y c)) ∧ canAt wr (w.heap.size + 1 + 1 + 1) 0 64 = true ∧ canAt wr (w.heap.size + 1 + 1) 0 64 = true ∧
    readAt wr w.heap.size 0 64 = some (av x) ∧ readAt wr (w.heap.size + 1) 0 64 = some (av y) ∧ Below w.heap.size w wr) (fun i _ => 64 - (intOf i).toNat)
  case atStart => exact ⟨0, by omega, rfl, by rw [tearTo_zero]; simp [go_sem], by simp [go_sem], by simp [go_sem], by simp [go_sem], by simp [go_sem], ba _ (ba _ (ba _ (ba _ (Below.refl _ _))))⟩
  case round =>
    obtain ⟨k, hk, rfl, hr, hc, hc0, hx, hy, hb⟩ := hrel
    by_cases hlt : k < 64
    · have hcell := readAt_cell hr k _ (av_get _ k hlt)
      have hfr := canAt_cell hc k
      have hxc := readAt_cell hx k _ (av_get _ k hlt)
      have hyc := readAt_cell hy k _ (av_get _ k hlt)
      rw [Nat.zero_add] at hcell hfr hxc hyc
      have hcan1 := canAt_sub hc k 1 (by omega)
      have Hr := Lib.hid hr
      have Hc := Lib.hid hc
      have Hc0 := Lib.hid hc0
      have Hx := Lib.hid hx
      have Hy := Lib.hid hy
      have H1 := Lib.hid hcan1
      clear hr hc hc0 hx hy hcan1
      by_cases hkc : (k : Int) < c
      · have hcell2 : (wr.setCell ⟨w.heap.size + 1 + 1 + 1, k, none⟩ (.int .u8 (x[k].toNat : Int))).cell? ⟨w.heap.size + 1 + 1 + 1, k, none⟩ = some (.int .u8 (x[k].toNat : Int)) := World.cell?_setCell_same _ _ _ hcell
        go_wp2
        go_roundw
        case rel =>
          refine ⟨k + 1, by omega, by go_num, ?_⟩
          have e1 : (wr.setCell ⟨w.heap.size + 1 + 1 + 1, k, none⟩ (.int .u8 (x[k].toNat : Int))).setCell ⟨w.heap.size + 1 + 1 + 1, k, none⟩ (.int .u8 (y[k].toNat : Int)) = setAt wr (w.heap.size + 1 + 1 + 1) k #[B8 y[k]] := by
            rw [setCell_setAt H1.out, setCell_setAt (by rw [canAt_setAt _ _ _ _ _ _ _ (by simpa using H1.out)]; exact H1.out), setAt_setAt _ _ (by simpa using H1.out) (by simp)]
            rfl
          rw [e1]
          refine ⟨?_, ?_, ?_, ?_, ?_, setAt_below hb (by omega) _ _⟩
          · rw [readAt_setAt_over _ _ 0 64 _ Hr.out Hc.out k _ (by omega) (by simp; omega), Nat.sub_zero]
            exact congrArg some (tearTo_succ k x y c hlt _ (by rw [if_pos hkc]))
          · rw [canAt_setAt _ _ _ _ _ _ _ (by simpa using H1.out)]; exact Hc.out
          · rw [canAt_setAt _ _ _ _ _ _ _ (by simpa using H1.out)]; exact Hc0.out
          · rw [readAt_setAt_other _ _ _ _ _ _ _ (by omega)]; exact Hx.out
          · rw [readAt_setAt_other _ _ _ _ _ _ _ (by omega)]; exact Hy.out
        case measure => simp [intOf]; omega
      · go_wp2
        go_roundw
        case rel =>
          refine ⟨k + 1, by omega, by go_num, ?_⟩
          rw [setCell_setAt H1.out, show Value.int .u8 (x[k].toNat : Int) = B8 x[k] from rfl]
          refine ⟨?_, ?_, ?_, ?_, ?_, setAt_below hb (by omega) _ _⟩
          · rw [readAt_setAt_over _ _ 0 64 _ Hr.out Hc.out k _ (by omega) (by simp; omega), Nat.sub_zero]
            exact congrArg some (tearTo_succ k x y c hlt _ (by rw [if_neg hkc]))
          · rw [canAt_setAt _ _ _ _ _ _ _ (by simpa using H1.out)]; exact Hc.out
          · rw [canAt_setAt _ _ _ _ _ _ _ (by simpa using H1.out)]; exact Hc0.out
          · rw [readAt_setAt_other _ _ _ _ _ _ _ (by omega)]; exact Hx.out
          · rw [readAt_setAt_other _ _ _ _ _ _ _ (by omega)]; exact Hy.out
        case measure => simp [intOf]; omega
    · obtain rfl : k = 64 := by omega
      rw [tearTo_all] at hr
      go_wp2
      refine bodyPost_ret (results_sec rfl _ _ (w.heap.size + 1 + 1) 0 (av (tear x y c)) rfl ?_) rfl ⟨rfl, setAt_below hb (by omega) _ _⟩
      exact readAt_setAt_same _ _ _ _ _ (by simp) hc0
end Go.Proofs.Ytjedlcfeobhjnaa
