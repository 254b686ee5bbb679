/- What New of the reference's disk computes. -/
import Derived.Test.YtjedlcfeobhjnaaRRead
set_option linter.unusedSimpArgs false
set_option linter.unusedVariables false
namespace Go.Proofs.Ytjedlcfeobhjnaa
open Go.RowKit Go.ChangeMaps

theorem rnew_rat (w1 : World) (X : Nat → Prop) (g N : Nat) (hN : N ≤ 4096) (k : Int) (hst : (min (max k 0) 4096).toNat = N) (hx : ¬ X g) (hg : w1.heap[g]? = some (.cells (Array.replicate (N * 64) (Value.int .u8 0)) 35)) :
    RAt w1 X N (newD k) (.slice (some ⟨g, 0, none⟩) N N) (.slice none 0 0) (.slice none 0 0) := by
  have hst' : (newD k).st = List.replicate N zsec := by unfold newD; rw [hst]
  have e0 : (Array.replicate (N * 64) (Value.int .u8 0)).extract 0 (0 + N * 64) = (List.replicate (N * 64) (Value.int .u8 0)).toArray := by
    apply Array.ext'
    simp [List.extract_eq_take_drop]
  refine ⟨⟨g, 0, N, rfl, Nat.le_refl _, by simp [maxLen]; omega, ?_, hx⟩, RO.nil _ _ _, [], rfl, RO.nil _ _ _, fun q hq => (by cases hq)⟩
  simp only [readAt, hg]
  rw [if_pos (by simp), e0, hst', flat_zero]
theorem rnew_end (w : World) (X : Nat → Prop) (hX : ∀ g, X g → g < w.heap.size) (N : Nat) (hN : N ≤ 4096) (k : Int) (hst : (min (max k 0) 4096).toNat = N) (Z : Array Value) (tz : TypeId) :
    RAt ((w.alloc (.cells Z tz)).alloc (.cells (Array.replicate (N * 64) (Value.int .u8 0)) 35)) X N (newD k) (.slice (some ⟨w.heap.size + 1, 0, none⟩) N N) (.slice none 0 0) (.slice none 0 0) ∧
    Below w.heap.size w ((w.alloc (.cells Z tz)).alloc (.cells (Array.replicate (N * 64) (Value.int .u8 0)) 35)) := by
  refine ⟨rnew_rat _ X (w.heap.size + 1) N hN k hst (fun h => by have := hX _ h; omega) ?_, ba _ (ba _ (Below.refl _ _))⟩
  generalize Array.replicate (N * 64) (Value.int .u8 0) = Q
  show ((w.heap.push (.cells Z tz)).push _)[w.heap.size + 1]? = _
  rw [show w.heap.size + 1 = (w.heap.push (.cells Z tz)).size from (Array.size_push _).symm]
  exact Array.getElem?_push_size
set_option maxRecDepth 100000 in
set_option maxHeartbeats 1600000 in
theorem rdnew_pos (w : World) (X : Nat → Prop) (hX : ∀ g, X g → g < w.heap.size) (N : Nat) (hN : N ≤ 4096) (hp : 0 < N) :
    Calls Try.prog 21 #[.int .i64 (N : Int)] w fun e w' => (∃ v, e = .returned v ∧ RNext w' X N (newD (N : Int)) v) ∧ Below w.heap.size w w' := by
  obtain ⟨i, hi, hz, hs, hby⟩ := info_parts view_sec
  have hmk := run_make (P := Try.prog) (w.alloc (.cells #[.slice none 0 0, .slice none 0 0, .bool false, .int .i64 0, .slice none 0 0] 46)) 40 35 i _ Try.underlying40 hi hz .i64 .i64 (N : Int) (N : Int) (by omega) (by omega) (by rw [hby]; omega) (by omega)
  rw [hs] at hmk
  simp only [Int.toNat_natCast, Value.cells, made_zero] at hmk
  have h0 : (0 : Int) ≤ (N : Int) := by omega
  have h1 : (N : Int) ≤ 4096 := by omega
  have hr := fun Z => rnew_end w X hX N hN (N : Int) (by omega) Z 46
  have Hr := Lib.hid hr
  have hEd : (newD (N : Int)).down = false := rfl
  have hEs : (newD (N : Int)).steps = 0 := rfl
  clear hX hr
  generalize newD (N : Int) = E at *
  go_enter Try.func21, Try.ntmps21
  go_wp2
  refine bodyPost_ret (v := .agg #[.slice (some ⟨w.heap.size + 1, 0, none⟩) N N, .slice none 0 0, .bool false, .int .i64 0, .slice none 0 0]) (by simp [results, Try.results21, go_sem]) rfl ⟨⟨_, rfl, _, _, _, by unfold rV; rw [hEd, hEs], (Hr.out _).1⟩, (Hr.out _).2⟩
set_option maxRecDepth 100000 in
set_option maxHeartbeats 1600000 in
theorem rdnew_neg (w : World) (X : Nat → Prop) (hX : ∀ g, X g → g < w.heap.size) (k : Int) (hk : k ≤ 0) :
    Calls Try.prog 21 #[.int .i64 k] w fun e w' => (∃ v, e = .returned v ∧ RNext w' X 0 (newD k) v) ∧ Below w.heap.size w w' := by
  obtain ⟨i, hi, hz, hs, hby⟩ := info_parts view_sec
  have hmk := run_make (P := Try.prog) (w.alloc (.cells #[.slice none 0 0, .slice none 0 0, .bool false, .int .i64 0, .slice none 0 0] 46)) 40 35 i _ Try.underlying40 hi hz .i64 .i64 0 0 (by omega) (by omega) (by rw [hby]; omega) (by omega)
  rw [hs] at hmk
  simp only [Int.toNat_zero, Value.cells, made_zero] at hmk
  have hr := fun Z => rnew_end w X hX 0 (by omega) k (by omega) Z 46
  have e0 : Array.replicate (0 * 64) (Value.int .u8 0) = #[] := rfl
  simp only [e0] at hr
  have Hr := Lib.hid hr
  have hEd : (newD k).down = false := rfl
  have hEs : (newD k).steps = 0 := rfl
  clear hX hr e0
  have h1 : k ≤ 4096 := by omega
  generalize newD k = E at *
  go_enter Try.func21, Try.ntmps21
  go_wp2
  refine bodyPost_ret (v := .agg #[.slice (some ⟨w.heap.size + 1, 0, none⟩) 0 0, .slice none 0 0, .bool false, .int .i64 0, .slice none 0 0]) (by simp [results, Try.results21, go_sem]) rfl ⟨⟨_, rfl, _, _, _, by unfold rV; rw [hEd, hEs], (Hr.out _).1⟩, (Hr.out _).2⟩
theorem rdnew_any (w : World) (X : Nat → Prop) (hX : ∀ g, X g → g < w.heap.size) (k : Int) (hk : k ≤ 4096) :
    Calls Try.prog 21 #[.int .i64 k] w fun e w' => (∃ v, e = .returned v ∧ RNext w' X k.toNat (newD k) v) ∧ Below w.heap.size w w' := by
  by_cases h0 : k ≤ 0
  · rw [show k.toNat = 0 by omega]; exact rdnew_neg w X hX k h0
  · obtain ⟨N, rfl⟩ := Int.eq_ofNat_of_zero_le (show 0 ≤ k by omega)
    rw [Int.toNat_natCast]; exact rdnew_pos w X hX N (by omega) (by omega)
end Go.Proofs.Ytjedlcfeobhjnaa
