/- What slices.Backward gives at a slice of writes: the writes, the last one first, with their indexes. Conditions: the slice reads as the writes; not nil. -/
import Derived.Test.YtemjeppneahgeaaSec11
import Derived.RangeFuncNested
import Derived.RangeFuncBound
import Derived.RangeFuncCalls
import Derived.RangeFuncLeaves
import Derived.RangeFuncBox
import Derived.Shelf.Abstract
import Derived.Shelf.RegionOpen
import Derived.WalkKit
import Derived.OwnWalkIn
import Derived.TacticsInMore
import Derived.LoopNIn
import Derived.LoopIn
set_option linter.unusedSimpArgs false
set_option linter.unusedVariables false
namespace Go.Proofs.Ytemjeppneahgeaa
open Go.RowKit Go.Shelf
attribute [local go_sem] Oper.semAt_some

abbrev El := Nat × Int × Sec
def upto {α : Type} (f : Nat → α) (k : Nat) : List α := (List.range k).map f
theorem upto_succ {α : Type} (f : Nat → α) (k : Nat) : upto f (k + 1) = upto f k ++ [f k] := by simp [upto, List.range_succ]
theorem upto_length {α : Type} (f : Nat → α) (k : Nat) : (upto f k).length = k := by simp [upto]
/-- The element that comes in round k. -/
def bk (W : List (Int × Sec)) (k : Nat) : El := (W.length - 1 - k, (W.getD (W.length - 1 - k) (0, zsec)).1, (W.getD (W.length - 1 - k) (0, zsec)).2)
def enc (x : El) : Array Value := #[.int .i64 (x.1 : Int), .agg (wv x.2.1 x.2.2)]

/-- What a round keeps: what lay below n₀, and the box Bs. -/
def KpB (n₀ Bs : Nat) (W W' : World) : Prop := Below n₀ W W' ∧ ∀ v, W.cell? ⟨Bs, 0, none⟩ = some v → W'.cell? ⟨Bs, 0, none⟩ = some v
theorem KpB.refl (n₀ Bs : Nat) (W : World) : KpB n₀ Bs W W := ⟨Below.refl _ _, fun _ h => h⟩
theorem kpB_t {n₀ Bs : Nat} {A B C : World} (h : KpB n₀ Bs A B) (k : KpB n₀ Bs B C) : KpB n₀ Bs A C := ⟨h.1.trans k.1, fun v hv => k.2 v (h.2 v hv)⟩
theorem kpB_b {n₀ Bs : Nat} {w : World} (hm : n₀ ≤ w.heap.size) (W : World) (l : Nat) (o o' : Obj) (hl : w.heap.size ≤ l) (ho : W.heap[l]? = some o) (hc : o.isCells = false) (hw : o.isWalk = false) : KpB n₀ Bs W (W.putObj l o') :=
  ⟨belowK_b hm W l o o' hl ho hc hw, fun v hv => cell_kept hv (grownBy_putObj' W l o') (fun r e => by cases e; exact ⟨o, ho, hc⟩)⟩

set_option maxRecDepth 100000 in
set_option maxHeartbeats 2000000 in
theorem back1_in (F : Fence) (n : Nat) (h7 : F.fn 27) (hro : F.round = none) (hn : 1 ≤ n) (l Bs n₀ b off len cap : Nat) (V : List (Int × Sec)) (hV : V.length = len) (hreach : len ≤ 100000) (hb : b < n₀) (J Jx : List El → World → Prop)
    (hY : ∀ pre x W, J pre W → pre.length < len → YieldAt F (n - 1) Try.prog l (enc x) W fun e W' =>
      (e = .returned (.bool true) ∧ J (pre ++ [x]) W' ∧ KpB n₀ Bs W W') ∨ (e = .returned (.bool false) ∧ Jx (pre ++ [x]) W'))
    (W : World) (hBs : W.cell? ⟨Bs, 0, none⟩ = some (.slice (some ⟨b, off, none⟩) len cap)) (hc : readAt W b off (len * 65) = some (flat wp2 V).toArray) (h0 : J [] W) :
    CallsIn F n Try.prog 27 #[.func (.yield l) #[] #[], .pointer (some ⟨Bs, 0, none⟩)] W fun e W' => (∃ v, e = .returned v) ∧
      ((∃ ys, ys = upto (bk V) len ∧ J ys W') ∨ (∃ pre, (∃ k, k ≤ len ∧ pre = upto (bk V) k) ∧ Jx pre W')) := by
  have HV := Lib.hid hV
  have Hc := Lib.hid hc
  clear hV hc
  refine callsIn_of_wp Try.func27 rfl h7 ?_ hro
  simp only [Try.ntmps27, List.size_toArray, List.length_cons, List.length_nil, Nat.reduceAdd, Nat.reduceSub, Array.replicate_succ, Array.replicate_zero, List.push_toArray, List.append_toArray, List.nil_append, List.cons_append]
  gi_wp2
  gi_loopw [3] (fun i wr => ∃ k : Nat, k ≤ len ∧ i = .int .i64 ((len : Int) - 1 - k) ∧ J (upto (bk V) k) wr ∧ Below n₀ W wr ∧ wr.cell? ⟨Bs, 0, none⟩ = some (.slice (some ⟨b, off, none⟩) len cap))
    (fun i _ => (intOf i + 1).toNat)
  case atStart => exact ⟨0, Nat.zero_le _, by go_num, h0, Below.refl _ _, hBs⟩
  case round =>
    obtain ⟨k, hk, rfl, hJs, hnx, hcs⟩ := hrel
    by_cases hlt : k < len
    · obtain ⟨fn, tmps, assign, body, hy, hR⟩ := hY _ (bk V k) wr hJs (by rw [upto_length]; exact hlt)
      obtain ⟨i, hi⟩ : ∃ i : Nat, len - 1 - k = i := ⟨_, rfl⟩
      have hi2 : i < len := by omega
      have hbk : bk V k = (i, (V.getD i (0, zsec)).1, (V.getD i (0, zsec)).2) := by unfold bk; rw [HV.out, hi]
      have hrd : readAt wr b (off + i * 65) 65 = some (wv (V.getD i (0, zsec)).1 (V.getD i (0, zsec)).2) := by
        rw [readAt_below (hnx.mono (Nat.le_refl _)) hb]
        have hle : i * 65 + 65 ≤ len * 65 := by omega
        rw [readAt_sub Hc.out (off + i * 65) 65 (by omega) (by omega), show off + i * 65 - off = i * 65 by omega, flat_get wp2 65 size_wp2 V i (by rw [HV.out]; exact hi2), List.getD_eq_getElem?_getD, List.getElem?_eq_getElem (by rw [HV.out]; exact hi2)]
        rfl
      rw [hbk] at hy
      simp only [enc] at hy
      generalize (V.getD i (0, zsec)).1 = x at hy hrd
      generalize (V.getD i (0, zsec)).2 = dx at hy hrd
      clear hbk
      rw [show ((len : Int) - 1 - k) = (i : Int) by omega]
      gi_wp2
      refine hR.mono ?_
      rintro e W3 (⟨rfl, hJ3, hk3⟩ | ⟨rfl, hJx3⟩)
      · have hcs3 := hk3.2 _ hcs
        gi_wp2
        go_roundw
        case rel => exact ⟨k + 1, by omega, by go_num, by rw [upto_succ]; exact hJ3, hnx.trans hk3.1, hcs3⟩
        case measure => simp [intOf]
      · gi_wp2
        refine bodyPost_ret (results_none rfl _ _ _) rfl ?_
        exact ⟨⟨_, rfl⟩, .inr ⟨_, ⟨k + 1, by omega, (upto_succ _ _).symm⟩, hJx3⟩⟩
    · obtain rfl : k = len := by omega
      gi_wp2
      go_end0
      exact ⟨⟨_, rfl⟩, .inl ⟨_, rfl, hJs⟩⟩

set_option maxRecDepth 100000 in
set_option maxHeartbeats 1000000 in
theorem back1_nil_in (F : Fence) (n : Nat) (h7 : F.fn 27) (hro : F.round = none) (l Bs : Nat) (J : List El → World → Prop) (W : World) (ad : Option Addr) (cap : Nat) (hBs : W.cell? ⟨Bs, 0, none⟩ = some (.slice ad 0 cap)) (h0 : J [] W) :
    CallsIn F n Try.prog 27 #[.func (.yield l) #[] #[], .pointer (some ⟨Bs, 0, none⟩)] W fun e W' => (∃ v, e = .returned v) ∧ J [] W' := by
  refine callsIn_of_wp Try.func27 rfl h7 ?_ hro
  simp only [Try.ntmps27, List.size_toArray, List.length_cons, List.length_nil, Nat.reduceAdd, Nat.reduceSub, Array.replicate_succ, Array.replicate_zero, List.push_toArray, List.append_toArray, List.nil_append, List.cons_append]
  gi_wp2
  gi_loopw [3] (fun i wr => i = .int .i64 (-1) ∧ J [] wr) (fun _ _ => 0)
  case atStart => exact ⟨rfl, h0⟩
  case round =>
    obtain ⟨rfl, hJs⟩ := hrel
    gi_wp2
    go_end0
    exact ⟨⟨_, rfl⟩, hJs⟩

set_option maxHeartbeats 1000000 in
theorem back_in (F : Fence) (n : Nat) (h5 : F.fn 25) (hro : F.round = none) (a : Option Addr) (len cap : Nat) (w : World) :
    CallsIn F n Try.prog 25 #[.slice a len cap] w fun e w' => e = .returned (.func (.func 27) #[] #[.pointer (some ⟨w.heap.size, 0, none⟩)]) ∧ w' = w.alloc (.cells #[.slice a len cap] 35) := by
  refine callsIn_of_wp Try.func25 rfl h5 ?_ hro
  simp only [Try.ntmps25, List.size_toArray, List.length_cons, List.length_nil, Nat.reduceAdd, Nat.reduceSub, Array.replicate_succ, Array.replicate_zero, List.push_toArray, List.append_toArray, List.nil_append, List.cons_append]
  gi_wp2
  go_ret
  exact ⟨rfl, rfl⟩

theorem back_stops (F : Fence) (n : Nat) (h8 : F.fn 27) (hro : F.round = none) (hn : 1 ≤ n) (Bs n₀ : Nat) (ad : Option Addr) (len cap : Nat) (V : List (Int × Sec)) (hV : V.length = len) (hreach : len ≤ 100000) (w : World) (hBs : Bs < w.heap.size) (hn₀ : n₀ ≤ w.heap.size)
    (hc : w.cell? ⟨Bs, 0, none⟩ = some (.slice ad len cap)) (hI : RdS w (.slice ad len cap) len 65 (flat wp2 V)) (hlow : ∀ a, ad = some a → a.block < n₀) :
    SeqStopsK F n Try.prog 27 #[.pointer (some ⟨Bs, 0, none⟩)] enc (KpB n₀ Bs) (fun ys => ys = upto (bk V) len) (fun pre => ∃ k, k ≤ len ∧ pre = upto (bk V) k) len w := fun l J Jx W hW _ _ hY h0 => by
  have hc' := (hW.cell (p := ⟨Bs, 0, none⟩) hBs).trans hc
  have hI' := hI.below hW
  by_cases h0l : 0 < len
  · obtain ⟨ad', cap', e, _, _, _, _, h6⟩ := hI'
    obtain ⟨b, o, e2, hr⟩ := h6 h0l
    simp only [Value.slice.injEq, true_and] at e
    rw [← e.1] at e2
    subst e2
    exact back1_in F n h8 hro hn l Bs n₀ b o len cap V hV hreach (hlow _ rfl) J Jx hY W hc' hr h0
  · obtain rfl : len = 0 := by omega
    exact (back1_nil_in F n h8 hro l Bs J W ad cap hc' h0).mono fun e W' ⟨he, hj⟩ => ⟨he, .inl ⟨_, rfl, hj⟩⟩
end Go.Proofs.Ytemjeppneahgeaa
