/- What the functions Cut, Tear, Make of package sector and Tear, Fill of its reference compute on sectors of 64 bytes. Conditions: integer arguments fit their kinds. -/
import Derived.Test.YtjedlcfeobhjnaaSecB
import Derived.Deep.RegionWith
import Derived.Deep.RegionHeld3
set_option linter.unusedSimpArgs false
set_option linter.unusedVariables false
namespace Go.Proofs.Ytjedlcfeobhjnaa
open Go.RowKit

def cutN (c : Int) : Nat := (min (max c 0) 64).toNat
theorem cutN_le (c : Int) : cutN c ≤ 64 := by unfold cutN; omega
theorem cut_any (c : Int) (w : World) :
    Calls Try.prog 56 #[.int .i64 c] w fun e w' => e = .returned (.int .i64 (cutN c : Nat)) ∧ w = w' := by
  by_cases h1 : c < 0
  · go_enter Try.func56, Try.ntmps56
    go_wp2
    go_ret
    exact ⟨ret_int (by unfold cutN; omega), rfl⟩
  · by_cases h2 : c < 64
    · go_enter Try.func56, Try.ntmps56
      go_wp2
      all_goals
        go_ret
        exact ⟨ret_int (by unfold cutN; omega), rfl⟩
    · go_enter Try.func56, Try.ntmps56
      go_wp2
      all_goals
        go_ret
        exact ⟨ret_int (by unfold cutN; omega), rfl⟩

def tear (x y : Sec) (c : Int) : Sec := Vector.ofFn fun i => if (i.val : Int) < c then y[i] else x[i]

theorem av_tear (x y : Sec) (c : Int) : putAt (av x) 0 ((av y).extract 0 (cutN c)) = av (tear x y c) := by
  apply Array.ext
  · rw [putAt_size _ _ _ (by simp; omega)]; simp
  · intro i h1 h2
    simp only [size_av] at h2
    simp only [putAt, List.getElem_toArray, List.take_zero, List.nil_append, Nat.zero_add]
    have hk := cutN_le c
    by_cases hi : i < cutN c
    · rw [List.getElem_append_left (by simp; omega)]
      have : ((i : Nat) : Int) < c := by unfold cutN at hi; omega
      simp [av, tear, this]
    · rw [List.getElem_append_right (by simp; omega)]
      have : ¬ ((i : Nat) : Int) < c := by unfold cutN at hi; omega
      have e : min (cutN c) 64 = cutN c := by omega
      simp only [av, tear, List.getElem_drop, Array.length_toList, Array.size_extract, Array.size_map, Vector.size_toArray, Nat.sub_zero, e, Array.getElem_toList, Array.getElem_map, Vector.getElem_toArray, Vector.getElem_ofFn, this, if_false]
      congr 2; simp; omega
theorem tear_any (x y : Sec) (c : Int) (w : World) :
    Calls Try.prog 52 #[.agg (av x), .agg (av y), .int .i64 c] w fun e w' => e = .returned (.agg (av (tear x y c))) ∧ Below w.heap.size w w' := by
  have hk := cutN_le c
  obtain ⟨W, hW⟩ : ∃ W, W = (((w.alloc (.cells (av x) 35)).alloc (.cells (av y) 35)).alloc (.cells (av zsec) 35)).drew := ⟨_, rfl⟩
  have hcp := copy_sec W 3 w.heap.size 0 (cutN c) 64 (w.heap.size + 1) 0 64 64 (cutN c) (by simp only [Nat.min_def]; split <;> omega) ((av y).extract 0 (cutN c))
    (by subst hW; simp [go_sem, hk]) (by subst hW; simp [go_sem, hk]) (av_all y _ _)
  have hb : Below w.heap.size w W := by subst hW; exact (ba _ (ba _ (ba _ (Below.refl _ _)))).drew
  have hset : readAt (setAt W w.heap.size 0 ((av y).extract 0 (cutN c))) w.heap.size 0 64 = some (av (tear x y c)) := by
    subst hW
    rw [readAt_setAt_over _ _ 0 64 (av x) (by simp [go_sem]) (by simp [go_sem]) 0 _ (Nat.le_refl _) (by simp; omega)]
    exact congrArg some (av_tear x y c)
  have hcan : canAt (setAt W w.heap.size 0 ((av y).extract 0 (cutN c))) (w.heap.size + 2) 0 64 = true := by
    subst hW; simp [go_sem]
  have hb2 := setAt_below hb (Nat.le_refl _) 0 ((av y).extract 0 (cutN c))
  generalize setAt W w.heap.size 0 ((av y).extract 0 (cutN c)) = W2 at *
  subst hW
  go_enter Try.func52, Try.ntmps52
  go_wp2
  go_region_with (first | (go_at_call 56; refine (cut_any _ _).mono ?_; rintro e w' ⟨rfl, rfl⟩))
  go_wp2
  refine bodyPost_ret (results_sec rfl _ _ (w.heap.size + 1 + 1) 0 (av (tear x y c)) rfl ?_) rfl ⟨rfl, setAt_below hb2 (by omega) _ _⟩
  exact readAt_setAt_same _ _ _ _ _ (by simp) hcan

end Go.Proofs.Ytjedlcfeobhjnaa
