/- What New of package disk computes. No conditions. -/
import Derived.Test.YtjedlcfeobhjnaaDisk9
import Derived.Laws.MakeOwn
set_option linter.unusedSimpArgs false
set_option linter.unusedVariables false
namespace Go.Proofs.Ytjedlcfeobhjnaa
open Go.RowKit Go.ChangeMaps

theorem av_zero : av zsec = Array.replicate 64 (.int .u8 0) := by
  apply Array.ext_getElem?
  intro i
  by_cases hi : i < 64
  · rw [av_get _ i hi]; simp [hi, zsec]
  · simp [hi]
theorem flat_zero (N : Nat) : flat av (List.replicate N zsec) = List.replicate (N * 64) (.int .u8 0) := by
  induction N with
  | zero => simp [flat]
  | succ N ih =>
    rw [List.replicate_succ', flat_snoc, ih, av_zero, Array.toList_replicate, List.replicate_append_replicate]
    congr 1; omega
theorem made_zero (N : Nat) : madeCells (av zsec) N = (List.replicate N (.int .u8 0)).toArray := by
  apply Array.ext_getElem?
  intro i
  unfold madeCells
  by_cases hi : i < N
  · have h64 : i % 64 < 64 := Nat.mod_lt _ (by decide)
    simp [hi, av_zero, h64]
  · simp [hi]
theorem DAt.base {w : World} {base base' n : Nat} {p : DP} {D : DM} (h : DAt w base p n D) (hb : base' ≤ base) : DAt w base' p n D :=
  ⟨⟨h.ok.d, h.ok.o, h.ok.c, fun b h1 => Nat.le_trans hb (h.ok.lo b h1)⟩, h.r, h.k, h.sr, h.sk, h.sc, ownsRow_base h.op hb, h.la, h.fa, h.cr, h.lt⟩

/-- The world behind New. -/
def newU (w : World) (N : Nat) : World := ((((w.alloc (.cells (Array.replicate (N * 64) (Value.int .u8 0)) 35)).alloc (.map #[] 0)).alloc (.map #[] 0)).alloc (.map #[] 0)).alloc (.cells #[.slice (some ⟨w.heap.size, 0, none⟩) N N, .slice none 0 0, .map (some (w.heap.size + 1)), .bool false, .int .i64 0, .map (some (w.heap.size + 2)), .map (some (w.heap.size + 3))] 64)
def newP (w : World) (N : Nat) : DP := { B := w.heap.size + 4, gs := w.heap.size, gc := N, vo := .slice none 0 0, bl := w.heap.size + 1, bf := w.heap.size + 2, bc := w.heap.size + 3, cb := [] }
theorem newU_heap (w : World) (N : Nat) : (newU w N).heap = ((((w.heap.push (.cells (Array.replicate (N * 64) (Value.int .u8 0)) 35)).push (.map #[] 0)).push (.map #[] 0)).push (.map #[] 0)).push (.cells #[.slice (some ⟨w.heap.size, 0, none⟩) N N, .slice none 0 0, .map (some (w.heap.size + 1)), .bool false, .int .i64 0, .map (some (w.heap.size + 2)), .map (some (w.heap.size + 3))] 64) := rfl
theorem newU_get (w : World) (N : Nat) : (newU w N).heap[w.heap.size]? = some (.cells (Array.replicate (N * 64) (Value.int .u8 0)) 35) ∧ (newU w N).heap[w.heap.size + 1]? = some (.map #[] 0) ∧ (newU w N).heap[w.heap.size + 2]? = some (.map #[] 0) ∧ (newU w N).heap[w.heap.size + 3]? = some (.map #[] 0) ∧ (newU w N).heap[w.heap.size + 4]? = some (.cells #[.slice (some ⟨w.heap.size, 0, none⟩) N N, .slice none 0 0, .map (some (w.heap.size + 1)), .bool false, .int .i64 0, .map (some (w.heap.size + 2)), .map (some (w.heap.size + 3))] 64) := by
  rw [newU_heap]
  generalize Array.replicate (N * 64) (Value.int .u8 0) = Z
  refine ⟨?_, ?_, ?_, ?_, ?_⟩
  · rw [Array.getElem?_push_lt (by simp <;> omega), Array.getElem_push_lt (by simp <;> omega), Array.getElem_push_lt (by simp <;> omega), Array.getElem_push_lt (by simp), Array.getElem_push_eq]
  · rw [Array.getElem?_push_lt (by simp <;> omega), Array.getElem_push_lt (by simp <;> omega), Array.getElem_push_lt (by simp <;> omega)]; simp [Array.getElem_push]
  · rw [Array.getElem?_push_lt (by simp <;> omega), Array.getElem_push_lt (by simp <;> omega)]; simp [Array.getElem_push]
  · rw [Array.getElem?_push_lt (by simp <;> omega)]; simp [Array.getElem_push]
  · simp [Array.getElem?_push, Array.getElem_push]
theorem IM.empty {w : World} {b : Nat} (h : w.heap[b]? = some (.map #[] 0)) : IM w b (fun _ => none) := ⟨#[], 0, h, by simp, by simp, by simp⟩
theorem new_dat (w : World) (k : Int) (N : Nat) (hst : (min (max k 0) 4096).toNat = N) (hN : N ≤ 4096) : DAt (newU w N) w.heap.size (newP w N) N (newD k) := by
  obtain ⟨g0, g1, g2, g3, g4⟩ := newU_get w N
  have hst' : (newD k).st = List.replicate N zsec := by unfold newD; rw [hst]
  have e0 : (Array.replicate (N * 64) (Value.int .u8 0)).extract 0 (0 + N * 64) = (List.replicate (N * 64) (Value.int .u8 0)).toArray := by
    apply Array.ext'
    simp [List.extract_eq_take_drop]
  refine ⟨⟨?_, fun g hg => (by cases hg), fun g hg => (by cases hg), fun b hb => ?_⟩, ?_, ?_, ?_, ?_, ⟨Nat.le_refl _, by simp [newP, maxLen]; omega⟩, World.ownsRow_nil _ _ _ _, IM.empty g1, ⟨_, IM.empty g2, fun _ _ => rfl, fun _ _ h => (by cases h)⟩, ⟨_, IM.empty g3, fun _ _ => .inl ⟨rfl, rfl⟩⟩, fun b hb => (by cases hb)⟩
  · simp [DP.five, newP]
  · rcases hb with hb | hb | hb
    · simp only [DP.five, newP, List.mem_cons, List.not_mem_nil, or_false] at hb
      omega
    · cases hb
    · cases hb
  · simp only [readAt, newP, g4]; rfl
  · simp [canAt, newP, g4]
  · simp only [readAt, newP, g0]
    rw [if_pos (by simp), e0, hst', flat_zero]
  · simp [canAt, newP, g0]
theorem newU_below (w : World) (N : Nat) : Below w.heap.size w (newU w N) := ba _ (ba _ (ba _ (ba _ (ba _ (Below.refl _ _)))))

set_option maxRecDepth 100000 in
set_option maxHeartbeats 1600000 in
theorem new_pos (w : World) (N : Nat) (hN : N ≤ 4096) :
    Calls Try.prog 10 #[.int .i64 (N : Int)] w fun e w' => e = .returned (.pointer (some ⟨(newP w N).B, 0, none⟩)) ∧ w' = newU w N := by
  obtain ⟨i, hi, hz, hs, hby⟩ := info_parts view_sec
  have hmk := run_make (P := Try.prog) w 40 35 i _ Try.underlying40 hi hz .i64 .i64 (N : Int) (N : Int) (by omega) (by omega) (by rw [hby]; omega) (by omega)
  rw [hs] at hmk
  simp only [Int.toNat_natCast, Value.cells, made_zero] at hmk
  have h0 : (0 : Int) ≤ (N : Int) := by omega
  have h1 : (N : Int) ≤ 4096 := by omega
  have hmm := @run_makeMap Try.prog
  go_enter Try.func10, Try.ntmps10
  go_wp2
  go_ret
  exact ⟨rfl, rfl⟩
set_option maxRecDepth 100000 in
set_option maxHeartbeats 1600000 in
theorem new_neg (w : World) (k : Int) (hk : k < 0) :
    Calls Try.prog 10 #[.int .i64 k] w fun e w' => e = .returned (.pointer (some ⟨(newP w 0).B, 0, none⟩)) ∧ w' = newU w 0 := by
  obtain ⟨i, hi, hz, hs, hby⟩ := info_parts view_sec
  have hmk := run_make (P := Try.prog) w 40 35 i _ Try.underlying40 hi hz .i64 .i64 0 0 (by omega) (by omega) (by rw [hby]; omega) (by omega)
  rw [hs] at hmk
  simp only [Int.toNat_zero, Value.cells, made_zero] at hmk
  have h1 : ¬ 0 ≤ k := by omega
  have hmm := @run_makeMap Try.prog
  go_enter Try.func10, Try.ntmps10
  go_wp2
  all_goals first
    | (go_ret; exact ⟨rfl, rfl⟩)
    | (exfalso; omega)
theorem new_any (w : World) (k : Int) (hk : k ≤ 4096) :
    Calls Try.prog 10 #[.int .i64 k] w fun e w' => (∃ p, e = .returned (.pointer (some ⟨p.B, 0, none⟩)) ∧ DAt w' w.heap.size p k.toNat (newD k)) ∧ Below w.heap.size w w' := by
  by_cases h0 : k < 0
  · refine (new_neg w k h0).mono ?_
    rintro _ w' ⟨rfl, rfl⟩
    have e : k.toNat = 0 := by omega
    rw [e]
    exact ⟨⟨_, rfl, new_dat w k 0 (by omega) (by omega)⟩, newU_below w 0⟩
  · obtain ⟨N, rfl⟩ := Int.eq_ofNat_of_zero_le (show 0 ≤ k by omega)
    refine (new_pos w N (by omega)).mono ?_
    rintro _ w' ⟨rfl, rfl⟩
    rw [Int.toNat_natCast]
    exact ⟨⟨_, rfl, new_dat w N N (by omega) (by omega)⟩, newU_below w N⟩
end Go.Proofs.Ytjedlcfeobhjnaa
