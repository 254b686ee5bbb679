/- What Make of package sector and Tear, Fill of its reference compute. Conditions: integer arguments fit their kinds; a slice of bytes reads as its bytes. -/
import Derived.Test.YtemjeppneahgeaaSec
set_option linter.unusedSimpArgs false
set_option linter.unusedVariables false
namespace Go.Proofs.Ytemjeppneahgeaa
open Go.RowKit

def bv (l : List UInt8) : Array Value := (l.map B8).toArray
@[simp] theorem size_bv (l : List UInt8) : (bv l).size = l.length := by simp [bv]
theorem bv_one (l : List UInt8) : ∀ v ∈ bv l, v.oneCell' = true := by
  intro v hv; simp only [bv, List.mem_toArray, List.mem_map] at hv; obtain ⟨a, _, rfl⟩ := hv; rfl
/-- A slice of bytes reads as l. -/
def BytesAt (w : World) (ad : Option Addr) (n : Nat) (l : List UInt8) : Prop :=
  l.length = n ∧ n ≤ 9223372036854775807 ∧ (0 < n → ∃ b o, ad = some ⟨b, o, none⟩ ∧ readAt w b o n = some (bv l))
theorem BytesAt.below {w w1 : World} {ad : Option Addr} {n : Nat} {l : List UInt8} (h : BytesAt w ad n l) (hb : Below w.heap.size w w1) : BytesAt w1 ad n l := by
  obtain ⟨h1, h2, h4⟩ := h
  refine ⟨h1, h2, fun h0 => ?_⟩
  obtain ⟨b, o, e, hr⟩ := h4 h0
  exact ⟨b, o, e, by rw [readAt_below hb (readAt_lt hr)]; exact hr⟩
theorem readAt_of_cells (w : World) (b o n : Nat) (f : Nat → Value) (h0 : 0 < n) (h : ∀ j, j < n → w.cell? ⟨b, o + j, none⟩ = some (f j)) : readAt w b o n = some (Array.ofFn (n := n) fun i => f i) := by
  have hc := h (n - 1) (by omega)
  unfold World.cell? at hc
  unfold readAt
  split at hc
  · rename_i c t fr hb
    simp only [Option.isSome_none, Bool.false_eq_true, if_false] at hc
    have hlt : o + (n - 1) < c.size := by
      rcases Nat.lt_or_ge (o + (n - 1)) c.size with h' | h'
      · exact h'
      · simp [Array.getElem?_eq_none h'] at hc
    simp only at hb
    simp only [hb]
    rw [if_pos (by omega)]
    congr 1
    apply Array.ext_getElem?
    intro i
    rw [extract_get _ _ _ _ (by omega)]
    by_cases hi : i < n
    · rw [if_pos hi]
      have := h i hi
      simp only [World.cell?, hb, Option.isSome_none, Bool.false_eq_true, if_false] at this
      rw [this]; simp [hi]
    · rw [if_neg hi]; simp [hi]
  · simp at hc

def secOf (l : List UInt8) : Sec := Vector.ofFn fun i => l.getD i 0
theorem av_secOf (l : List UInt8) (h : l.length ≤ 64) : putAt (av zsec) 0 (bv l) = av (secOf l) := by
  apply Array.ext_getElem?
  intro i
  rw [putAt_get _ _ _ (by simpa using h)]
  by_cases hi : i < 64
  · rw [av_get _ i hi]
    by_cases h2 : i < l.length
    · rw [if_pos (by simp; exact h2)]
      simp [bv, B8, secOf, h2]
      rw [av_get _ i hi]
      simp [h2]
    · rw [if_neg (by simp; omega), av_get _ i hi]
      simp [secOf, zsec, List.getD, h2]
  · rw [if_neg (by simp; omega)]; simp [hi]

theorem results_sec_tmp {fn : Func} {p q : Tmp} (h : fn.results = #[.cell p 22, .tmp q]) (tmps : Array Value) (w : World) (b o : Nat) (cs : Array Value) (v : Value)
    (hp : tmps.getD p undef = .pointer (some ⟨b, o, none⟩)) (hq : tmps.getD q undef = v) (hg : readAt w b o 64 = some cs) : (results fn tmps).run Try.prog w = .ok (.tuple #[.agg cs, v]) w := by
  have hp' : tmps[p]?.getD undef = .pointer (some ⟨b, o, none⟩) := by simpa using hp
  have hq' : tmps[q]?.getD undef = v := by simpa using hq
  simp [results, h, hp', hq', asAddr, run_loadVar_at w b o 64 22 _ cs hg Try.underlying22 rfl info_sec]

theorem make_no (ad : Option Addr) (n c : Nat) (w : World) (h : 64 < n) :
    Calls Try.prog 12 #[.slice ad n c] w fun e w' => e = .returned (.tuple #[.agg (av zsec), .bool false]) ∧ Below w.heap.size w w' := by
  go_enter Try.func12, Try.ntmps12
  go_wp2
  refine bodyPost_ret (results_sec_tmp rfl _ _ (w.heap.size) 0 (av zsec) _ rfl rfl ?_) rfl ⟨rfl, setAt_below (ba _ (ba _ (Below.refl _ _))) (Nat.le_refl _) _ _⟩
  exact readAt_setAt_same _ _ _ _ _ (by simp) (by simp [go_sem])

theorem make_yes (ad : Option Addr) (n c : Nat) (l : List UInt8) (w : World) (hr : BytesAt w ad n l) (h : n ≤ 64) :
    Calls Try.prog 12 #[.slice ad n c] w fun e w' => e = .returned (.tuple #[.agg (av (secOf l)), .bool true]) ∧ Below w.heap.size w w' := by
  obtain ⟨hl, _, hr⟩ := hr
  obtain ⟨W, hW⟩ : ∃ W, W = ((w.alloc (.cells (av zsec) 22)).alloc (.cells (av zsec) 22)) := ⟨_, rfl⟩
  have hb : Below w.heap.size w W := by subst hW; exact (ba _ (ba _ (Below.refl _ _)))
  have hcp : ∃ W2, (Builtin.copy_ #[27, 27] 3 #[.slice (some ⟨w.heap.size + 1, 0, none⟩) 64 64, .slice ad n c]).run Try.prog W = .ok (goInt n) W2 ∧
      readAt W2 (w.heap.size + 1) 0 64 = some (av (secOf l)) ∧ canAt W2 w.heap.size 0 64 = true ∧ Below w.heap.size w W2 := by
    by_cases h0 : 0 < n
    · obtain ⟨b, o, rfl, hrd⟩ := hr h0
      have hlt := readAt_lt hrd
      refine ⟨setAt W (w.heap.size + 1) 0 (bv l), copy_sec W 3 (w.heap.size + 1) 0 64 64 b o n c n (by simp only [Nat.min_def]; split <;> omega) (bv l) ?_ ?_ (bv_one l), ?_, ?_, setAt_below hb (by omega) _ _⟩
      · subst hW; simp [go_sem, h]
      · rw [readAt_below hb hlt]; exact hrd
      · subst hW
        rw [readAt_setAt_over _ _ 0 64 (av zsec) (by simp [go_sem]) (by simp [go_sem]) 0 _ (Nat.le_refl _) (by simp [hl, h])]
        exact congrArg some (av_secOf l (by omega))
      · subst hW; simp [go_sem]
    · obtain rfl : n = 0 := by omega
      obtain rfl : l = [] := List.eq_nil_of_length_eq_zero hl
      refine ⟨W, run_copy_none W _ _ _ 5 _ _ _ _ _ _ Try.underlying27 info_u8 (by simp), ?_, ?_, hb⟩
      · subst hW; simp [go_sem]
        congr 1
      · subst hW; simp [go_sem]
  obtain ⟨W2, hcp, h1, h2, h3⟩ := hcp
  subst hW
  go_enter Try.func12, Try.ntmps12
  go_wp2
  refine bodyPost_ret (results_sec_tmp rfl _ _ (w.heap.size) 0 (av (secOf l)) _ rfl rfl ?_) rfl ⟨rfl, setAt_below h3 (Nat.le_refl _) _ _⟩
  exact readAt_setAt_same _ _ _ _ _ (by simp) h2

def mkU8 (n : Int) : UInt8 := UInt8.ofNat n.toNat
theorem B8_u8 (n : Int) (h : 0 ≤ n ∧ n ≤ 255) : B8 (mkU8 n) = .int .u8 n := by
  simp only [B8, mkU8, Value.int.injEq, true_and, UInt8.toNat_ofNat']
  omega
def fillTo (k : Nat) (b : UInt8) : Sec := Vector.ofFn fun i => if i.val < k then b else 0
def fill (b : UInt8) : Sec := Vector.replicate 64 b
theorem fillTo_zero (b : UInt8) : fillTo 0 b = zsec := by apply Vector.ext; intro i hi; simp [fillTo, zsec]
theorem fillTo_all (b : UInt8) : fillTo 64 b = fill b := by apply Vector.ext; intro i hi; simp [fillTo, fill]
theorem fillTo_succ (k : Nat) (b : UInt8) (hk : k < 64) : putAt (av (fillTo k b)) k #[B8 b] = av (fillTo (k + 1) b) := by
  apply Array.ext_getElem?
  intro i
  rw [putAt_get _ _ _ (by simp; omega)]
  by_cases hi : i < 64
  · rw [av_get _ i hi]
    by_cases h2 : i = k
    · subst h2; rw [if_pos (by simp), av_get _ i hi]; simp [B8, fillTo]
    · rw [if_neg (by simp; omega), av_get _ i hi]
      simp [fillTo]
      by_cases h3 : i < k
      · simp [h3, show i < k + 1 by omega]
      · simp [h3, show ¬ i < k + 1 by omega]
  · rw [if_neg (by simp; omega)]; simp [hi]

set_option maxHeartbeats 400000 in
theorem fill_any (n : Int) (w : World) (hn : 0 ≤ n ∧ n ≤ 255) :
    Calls Try.prog 21 #[.int .u8 n] w fun e w' => e = .returned (.agg (av (fill (mkU8 n)))) ∧ Below w.heap.size w w' := by
  have hB := B8_u8 n hn
  have HB := Lib.hid hB; clear hB
  go_enter Try.func21, Try.ntmps21
  go_wp2
  go_loopw [4] (fun i wr => ∃ k : Nat, k ≤ 64 ∧ i = .int .i64 k ∧ readAt wr (w.heap.size + 1) 0 64 = some (av (fillTo k (mkU8 n))) ∧ canAt wr (w.heap.size + 1) 0 64 = true ∧ canAt wr w.heap.size 0 64 = true ∧ Below w.heap.size w wr) (fun i _ => 64 - (intOf i).toNat)
  case atStart => exact ⟨0, by omega, rfl, by rw [fillTo_zero]; simp [go_sem], by simp [go_sem], by simp [go_sem], ba _ (ba _ (Below.refl _ _))⟩
  case round =>
    obtain ⟨k, hk, rfl, hr, hc, hc0, hb⟩ := hrel
    by_cases hlt : k < 64
    · have hcell := readAt_cell hr k _ (av_get _ k hlt)
      have hfr := canAt_cell hc k
      rw [Nat.zero_add] at hcell hfr
      have Hr := Lib.hid hr
      have Hc := Lib.hid hc
      have Hc0 := Lib.hid hc0
      clear hr hc hc0
      go_wp2
      go_roundw
      case rel =>
        refine ⟨k + 1, by omega, by go_num, ?_⟩
        have hcan1 := canAt_sub Hc.out k 1 (by omega)
        rw [setCell_setAt hcan1, ← HB.out]
        refine ⟨?_, ?_, ?_, setAt_below hb (by omega) _ _⟩
        · rw [readAt_setAt_over _ _ 0 64 _ Hr.out Hc.out k _ (by omega) (by simp; omega), Nat.sub_zero]
          exact congrArg some (fillTo_succ k _ hlt)
        · rw [canAt_setAt _ _ _ _ _ _ _ (by simpa using hcan1)]; exact Hc.out
        · rw [canAt_setAt _ _ _ _ _ _ _ (by simpa using hcan1)]; exact Hc0.out
      case measure => simp [intOf]; omega
    · obtain rfl : k = 64 := by omega
      rw [fillTo_all] at hr
      go_wp2
      refine bodyPost_ret (results_sec rfl _ _ (w.heap.size) 0 (av (fill (mkU8 n))) rfl ?_) rfl ⟨rfl, setAt_below hb (Nat.le_refl _) _ _⟩
      exact readAt_setAt_same _ _ _ _ _ (by simp) hc0

def tearTo (k : Nat) (x y : Sec) (c : Int) : Sec := Vector.ofFn fun i => if i.val < k then (if (i.val : Int) < c then y[i] else x[i]) else 0
theorem tearTo_zero (x y : Sec) (c : Int) : tearTo 0 x y c = zsec := by apply Vector.ext; intro i hi; simp [tearTo, zsec]
theorem tearTo_all (x y : Sec) (c : Int) : tearTo 64 x y c = tear x y c := by apply Vector.ext; intro i hi; simp [tearTo, tear]
theorem tearTo_succ (k : Nat) (x y : Sec) (c : Int) (hk : k < 64) (b : UInt8) (hb : b = if (k : Int) < c then y[k] else x[k]) : putAt (av (tearTo k x y c)) k #[B8 b] = av (tearTo (k + 1) x y c) := by
  subst hb
  apply Array.ext_getElem?
  intro i
  rw [putAt_get _ _ _ (by simp; omega)]
  by_cases hi : i < 64
  · rw [av_get _ i hi]
    by_cases h2 : i = k
    · subst h2; rw [if_pos (by simp), av_get _ i hi]; simp [B8, tearTo]
    · rw [if_neg (by simp; omega), av_get _ i hi]
      by_cases h3 : i < k
      · simp [tearTo, h3, show i < k + 1 by omega]
      · simp [tearTo, h3, show ¬ i < k + 1 by omega]
  · rw [if_neg (by simp; omega)]; simp [hi]

set_option maxHeartbeats 400000 in
theorem rtear_any (x y : Sec) (c : Int) (w : World) :
    Calls Try.prog 10 #[.agg (av x), .agg (av y), .int .i64 c] w fun e w' => e = .returned (.agg (av (tear x y c))) ∧ Below w.heap.size w w' := by
  go_enter Try.func10, Try.ntmps10
  go_wp2
  go_loopw [8] (fun i wr => ∃ k : Nat, k ≤ 64 ∧ i = .int .i64 k ∧ readAt wr (w.heap.size + 1 + 1 + 1) 0 64 = some (av (tearTo k x y c)) ∧ canAt wr (w.heap.size + 1 + 1 + 1) 0 64 = true ∧ canAt wr (w.heap.size + 1 + 1) 0 64 = true ∧
    readAt wr w.heap.size 0 64 = some (av x) ∧ readAt wr (w.heap.size + 1) 0 64 = some (av y) ∧ Below w.heap.size w wr) (fun i _ => 64 - (intOf i).toNat)
  case atStart => exact ⟨0, by omega, rfl, by rw [tearTo_zero]; simp [go_sem], by simp [go_sem], by simp [go_sem], by simp [go_sem], by simp [go_sem], ba _ (ba _ (ba _ (ba _ (Below.refl _ _))))⟩
  case round =>
    obtain ⟨k, hk, rfl, hr, hc, hc0, hx, hy, hb⟩ := hrel
    by_cases hlt : k < 64
    · have hcell := readAt_cell hr k _ (av_get _ k hlt)
      have hfr := canAt_cell hc k
      have hxc := readAt_cell hx k _ (av_get _ k hlt)
      have hyc := readAt_cell hy k _ (av_get _ k hlt)
      rw [Nat.zero_add] at hcell hfr hxc hyc
      have hcan1 := canAt_sub hc k 1 (by omega)
      have Hr := Lib.hid hr
      have Hc := Lib.hid hc
      have Hc0 := Lib.hid hc0
      have Hx := Lib.hid hx
      have Hy := Lib.hid hy
      have H1 := Lib.hid hcan1
      clear hr hc hc0 hx hy hcan1
      by_cases hkc : (k : Int) < c
      · have hcell2 : (wr.setCell ⟨w.heap.size + 1 + 1 + 1, k, none⟩ (.int .u8 (x[k].toNat : Int))).cell? ⟨w.heap.size + 1 + 1 + 1, k, none⟩ = some (.int .u8 (x[k].toNat : Int)) := World.cell?_setCell_same _ _ _ hcell
        go_wp2
        go_roundw
        case rel =>
          refine ⟨k + 1, by omega, by go_num, ?_⟩
          have e1 : (wr.setCell ⟨w.heap.size + 1 + 1 + 1, k, none⟩ (.int .u8 (x[k].toNat : Int))).setCell ⟨w.heap.size + 1 + 1 + 1, k, none⟩ (.int .u8 (y[k].toNat : Int)) = setAt wr (w.heap.size + 1 + 1 + 1) k #[B8 y[k]] := by
            rw [setCell_setAt H1.out, setCell_setAt (by rw [canAt_setAt _ _ _ _ _ _ _ (by simpa using H1.out)]; exact H1.out), setAt_setAt _ _ (by simpa using H1.out) (by simp)]
            rfl
          rw [e1]
          refine ⟨?_, ?_, ?_, ?_, ?_, setAt_below hb (by omega) _ _⟩
          · rw [readAt_setAt_over _ _ 0 64 _ Hr.out Hc.out k _ (by omega) (by simp; omega), Nat.sub_zero]
            exact congrArg some (tearTo_succ k x y c hlt _ (by rw [if_pos hkc]))
          · rw [canAt_setAt _ _ _ _ _ _ _ (by simpa using H1.out)]; exact Hc.out
          · rw [canAt_setAt _ _ _ _ _ _ _ (by simpa using H1.out)]; exact Hc0.out
          · rw [readAt_setAt_other _ _ _ _ _ _ _ (by omega)]; exact Hx.out
          · rw [readAt_setAt_other _ _ _ _ _ _ _ (by omega)]; exact Hy.out
        case measure => simp [intOf]; omega
      · go_wp2
        go_roundw
        case rel =>
          refine ⟨k + 1, by omega, by go_num, ?_⟩
          rw [setCell_setAt H1.out, show Value.int .u8 (x[k].toNat : Int) = B8 x[k] from rfl]
          refine ⟨?_, ?_, ?_, ?_, ?_, setAt_below hb (by omega) _ _⟩
          · rw [readAt_setAt_over _ _ 0 64 _ Hr.out Hc.out k _ (by omega) (by simp; omega), Nat.sub_zero]
            exact congrArg some (tearTo_succ k x y c hlt _ (by rw [if_neg hkc]))
          · rw [canAt_setAt _ _ _ _ _ _ _ (by simpa using H1.out)]; exact Hc.out
          · rw [canAt_setAt _ _ _ _ _ _ _ (by simpa using H1.out)]; exact Hc0.out
          · rw [readAt_setAt_other _ _ _ _ _ _ _ (by omega)]; exact Hx.out
          · rw [readAt_setAt_other _ _ _ _ _ _ _ (by omega)]; exact Hy.out
        case measure => simp [intOf]; omega
    · obtain rfl : k = 64 := by omega
      rw [tearTo_all] at hr
      go_wp2
      refine bodyPost_ret (results_sec rfl _ _ (w.heap.size + 1 + 1) 0 (av (tear x y c)) rfl ?_) rfl ⟨rfl, setAt_below hb (by omega) _ _⟩
      exact readAt_setAt_same _ _ _ _ _ (by simp) hc0
end Go.Proofs.Ytemjeppneahgeaa
