/- Writes of sectors as values: building, loading, storing; slices of sectors and of writes. No conditions. -/
import Derived.Test.YtjedlcfeobhjnaaSec3
import Derived.Test.YtjedlcfeobhjnaaSlices
set_option linter.unusedSimpArgs false
set_option linter.unusedVariables false
namespace Go.Proofs.Ytjedlcfeobhjnaa
open Go.RowKit

def wv (a : Int) (x : Sec) : Array Value := #[.int .i64 a] ++ av x
@[simp] theorem size_wv (a : Int) (x : Sec) : (wv a x).size = 65 := by simp [wv]
theorem wv_one (a : Int) (x : Sec) : ∀ v ∈ wv a x, v.oneCell' = true := by
  intro v hv
  simp only [wv, Array.mem_append] at hv
  rcases hv with hv | hv
  · simp at hv; subst hv; rfl
  · exact av_one x v hv
@[go_sem] theorem wv_at (a : Int) (x : Sec) : (wv a x)[0]? = some (.int .i64 a) := by simp [wv]
@[go_sem] theorem wv_data (a : Int) (x : Sec) : (wv a x).extract 1 65 = av x := by
  apply Array.ext'
  simp [wv, List.extract_eq_take_drop]
  exact List.take_of_length_le (by simp)
@[go_sem] theorem wv_all (a : Int) (x : Sec) : (wv a x).extract 0 65 = wv a x := by
  apply Array.ext'
  simp [List.extract_eq_take_drop]
  exact List.take_of_length_le (by simp)
theorem wv_inj {a b : Int} {x y : Sec} (h : wv a x = wv b y) : a = b ∧ x = y := by
  have h1 := wv_at a x
  rw [h, wv_at] at h1
  have h2 := wv_data a x
  rw [h, wv_data] at h2
  simp only [Option.some.injEq, Value.int.injEq, true_and] at h1
  exact ⟨h1.symm, (av_inj h2).symm⟩
attribute [go_sem] size_wv

theorem view_sec : (Try.prog.info? 35).map (fun i => (i.zero, i.size, i.bytes)) = some (some (.agg (av zsec)), 64, 64) := by kernel_rfl
def SliceSec (n : Nat) (parts : Array (Nat × Value)) : Sem Value := Instr.buildSlice 40 n parts
@[go_sem ↓] theorem slice_sec (n : Nat) (parts : Array (Nat × Value)) : Instr.buildSlice 40 n parts = SliceSec n parts := rfl
@[go_sem] theorem run_SliceSec1 (w : World) (x : Sec) : (SliceSec 1 #[(0, .agg (av x))]).run Try.prog w = .ok (.slice (some ⟨w.heap.size, 0, none⟩) 1 1) (w.alloc (.cells (av x) 35)) := by
  obtain ⟨i, hi, hz, hs, hb⟩ := info_parts view_sec
  exact run_buildSlice_one w _ _ i _ (.agg (av x)) Try.underlying40 hi hz (by simp [hs, Value.cells]) (by simp [Value.cells]) (by simp [Value.cells]) (by simp [Value.cells])
@[go_sem] theorem run_SliceSec0 (w : World) : (SliceSec 0 #[]).run Try.prog w = .ok (.slice (some ⟨w.heap.size, 0, none⟩) 0 0) (w.alloc (.cells #[] 35)) := by
  obtain ⟨i, hi, hz, hs, hb⟩ := info_parts view_sec
  exact run_buildSlice_zero w _ _ i Try.underlying40 hi

/-! ### sector.Write -/
theorem view_Wr : (Try.prog.info? 74).map (fun i => (i.zero, i.size, i.bytes)) = some (some (.agg (wv 0 zsec)), 65, 72) := by kernel_rfl
theorem info_Wr : (Try.prog.info? 74).map (·.size) = some 65 := by kernel_rfl
def LoadWr (v : Value) : Sem Value := Instr.loadAt 74 v
def StoreWr (v x : Value) : Sem Unit := Instr.storeAt 74 v x
def AllocWr : Sem Value := Instr.alloc 74 true (.tuple #[])
def BuildWr (parts : Array (Nat × Value)) : Sem Value := Instr.build 74 parts
def SliceWr (n : Nat) (parts : Array (Nat × Value)) : Sem Value := Instr.buildSlice 62 n parts
@[go_sem ↓] theorem loadAt_Wr (v : Value) : Instr.loadAt 74 v = LoadWr v := rfl
@[go_sem ↓] theorem storeAt_Wr (v x : Value) : Instr.storeAt 74 v x = StoreWr v x := rfl
@[go_sem ↓] theorem alloc_Wr : Instr.alloc 74 true (.tuple #[]) = AllocWr := rfl
@[go_sem ↓] theorem build_Wr (parts : Array (Nat × Value)) : Instr.build 74 parts = BuildWr parts := rfl
@[go_sem ↓] theorem slice_Wr (n : Nat) (parts : Array (Nat × Value)) : Instr.buildSlice 62 n parts = SliceWr n parts := rfl
@[go_sem ↓] theorem run_LoadWr (w : World) (b o : Nat) (h : (readAt w b o 65).isSome = true) :
    (LoadWr (.pointer (some ⟨b, o, none⟩))).run Try.prog w = .ok (.agg ((readAt w b o 65).getD #[])) w := by
  obtain ⟨cs, hc⟩ := Option.isSome_iff_exists.1 h
  unfold LoadWr
  rw [run_loadAt_at w b o 65 74 _ cs hc Try.underlying74 rfl info_Wr, hc]; rfl
@[go_sem ↓] theorem run_StoreWr (w : World) (b o : Nat) (a : Int) (x : Sec) (h : canAt w b o 65 = true) :
    (StoreWr (.pointer (some ⟨b, o, none⟩)) (.agg (wv a x))).run Try.prog w = .ok () (setAt w b o (wv a x)) :=
  run_storeAt_at w b o 65 74 (wv a x) h (size_wv a x) info_Wr (wv_one a x)
@[go_sem] theorem run_AllocWr (w : World) :
    AllocWr.run Try.prog w = .ok (.pointer (some ⟨w.heap.size, 0, none⟩)) (w.alloc (.cells (wv 0 zsec) 74)) := by
  obtain ⟨i, hi, hz, hs, hb⟩ := info_parts view_Wr
  unfold AllocWr
  simp [Instr.alloc, zeroValue, typeInfo, hi, hz, newVar, newRow, Value.cells]
@[go_sem] theorem run_SliceWr1 (w : World) (a : Int) (x : Sec) : (SliceWr 1 #[(0, .agg (wv a x))]).run Try.prog w = .ok (.slice (some ⟨w.heap.size, 0, none⟩) 1 1) (w.alloc (.cells (wv a x) 74)) := by
  obtain ⟨i, hi, hz, hs, hb⟩ := info_parts view_Wr
  exact run_buildSlice_one w _ _ i _ (.agg (wv a x)) Try.underlying62 hi hz (by simp [hs, Value.cells]) (by simp [Value.cells]) (by simp [Value.cells]) (by simp [Value.cells])
theorem places_Wr : (match Try.prog.underlying 74 with | some (.struct fields) => fields.toList.mapM (fun f => (Try.prog.info? f.type).map fun i => (f.offset, i.size)) | _ => none) = some [(0, 1), (1, 64)] := by kernel_rfl
set_option maxRecDepth 100000 in
theorem built_Wr (a : Int) (x : Sec) : Try.prog.built 74 [(0, .int .i64 a), (1, .agg (av x))] = some (wv a x) := by
  obtain ⟨i, hi, hz, hs, hb⟩ := info_parts view_Wr
  have hp := places_Wr
  rw [Try.underlying74] at hp
  simp only [Program.built, hi, Try.underlying74, hz]
  simp only at hp
  rw [hp]
  simp only [Value.cells, Instr.fill, List.getElem?_toArray, List.getElem?_cons_zero, List.getElem?_cons_succ, Nat.zero_add]
  rw [if_neg (by simp), if_neg (by simp)]
  have h1 := fill_put (wv 0 zsec) #[.int .i64 a] 0 (by simp)
  simp only [Nat.zero_add] at h1
  rw [h1, fill_put _ (av x) 1 (by rw [putAt_size _ _ _ (by simp)]; simp)]
  congr 1
  apply Array.ext_getElem?
  intro j
  rw [putAt_get _ _ _ (by rw [putAt_size _ _ _ (by simp)]; simp), putAt_get _ _ _ (by simp)]
  by_cases h1 : 1 ≤ j ∧ j < 1 + (av x).size
  · rw [if_pos h1]
    simp only [wv]
    rw [Array.getElem?_append_right (by simp; omega)]
    simp
  · rw [if_neg h1]
    simp only [size_av] at h1
    by_cases h2 : j = 0
    · subst h2; simp [wv]
    · rw [if_neg (by simp; omega), Array.getElem?_eq_none (by simp; omega), Array.getElem?_eq_none (by simp; omega)]
@[go_sem] theorem run_BuildWr (w : World) (a : Int) (x : Sec) : (BuildWr #[(0, .int .i64 a), (1, .agg (av x))]).run Try.prog w = .ok (.agg (wv a x)) w := run_build w _ _ _ (built_Wr a x)

/-! ### tollref15.Write -/
theorem view_Rw : (Try.prog.info? 92).map (fun i => (i.zero, i.size, i.bytes)) = some (some (.agg (wv 0 zsec)), 65, 72) := by kernel_rfl
theorem info_Rw : (Try.prog.info? 92).map (·.size) = some 65 := by kernel_rfl
def LoadRw (v : Value) : Sem Value := Instr.loadAt 92 v
def StoreRw (v x : Value) : Sem Unit := Instr.storeAt 92 v x
def AllocRw : Sem Value := Instr.alloc 92 true (.tuple #[])
def BuildRw (parts : Array (Nat × Value)) : Sem Value := Instr.build 92 parts
def SliceRw (n : Nat) (parts : Array (Nat × Value)) : Sem Value := Instr.buildSlice 43 n parts
@[go_sem ↓] theorem loadAt_Rw (v : Value) : Instr.loadAt 92 v = LoadRw v := rfl
@[go_sem ↓] theorem storeAt_Rw (v x : Value) : Instr.storeAt 92 v x = StoreRw v x := rfl
@[go_sem ↓] theorem alloc_Rw : Instr.alloc 92 true (.tuple #[]) = AllocRw := rfl
@[go_sem ↓] theorem build_Rw (parts : Array (Nat × Value)) : Instr.build 92 parts = BuildRw parts := rfl
@[go_sem ↓] theorem slice_Rw (n : Nat) (parts : Array (Nat × Value)) : Instr.buildSlice 43 n parts = SliceRw n parts := rfl
@[go_sem ↓] theorem run_LoadRw (w : World) (b o : Nat) (h : (readAt w b o 65).isSome = true) :
    (LoadRw (.pointer (some ⟨b, o, none⟩))).run Try.prog w = .ok (.agg ((readAt w b o 65).getD #[])) w := by
  obtain ⟨cs, hc⟩ := Option.isSome_iff_exists.1 h
  unfold LoadRw
  rw [run_loadAt_at w b o 65 92 _ cs hc Try.underlying92 rfl info_Rw, hc]; rfl
@[go_sem ↓] theorem run_StoreRw (w : World) (b o : Nat) (a : Int) (x : Sec) (h : canAt w b o 65 = true) :
    (StoreRw (.pointer (some ⟨b, o, none⟩)) (.agg (wv a x))).run Try.prog w = .ok () (setAt w b o (wv a x)) :=
  run_storeAt_at w b o 65 92 (wv a x) h (size_wv a x) info_Rw (wv_one a x)
@[go_sem] theorem run_AllocRw (w : World) :
    AllocRw.run Try.prog w = .ok (.pointer (some ⟨w.heap.size, 0, none⟩)) (w.alloc (.cells (wv 0 zsec) 92)) := by
  obtain ⟨i, hi, hz, hs, hb⟩ := info_parts view_Rw
  unfold AllocRw
  simp [Instr.alloc, zeroValue, typeInfo, hi, hz, newVar, newRow, Value.cells]
@[go_sem] theorem run_SliceRw1 (w : World) (a : Int) (x : Sec) : (SliceRw 1 #[(0, .agg (wv a x))]).run Try.prog w = .ok (.slice (some ⟨w.heap.size, 0, none⟩) 1 1) (w.alloc (.cells (wv a x) 92)) := by
  obtain ⟨i, hi, hz, hs, hb⟩ := info_parts view_Rw
  exact run_buildSlice_one w _ _ i _ (.agg (wv a x)) Try.underlying43 hi hz (by simp [hs, Value.cells]) (by simp [Value.cells]) (by simp [Value.cells]) (by simp [Value.cells])
theorem places_Rw : (match Try.prog.underlying 92 with | some (.struct fields) => fields.toList.mapM (fun f => (Try.prog.info? f.type).map fun i => (f.offset, i.size)) | _ => none) = some [(0, 1), (1, 64)] := by kernel_rfl
set_option maxRecDepth 100000 in
theorem built_Rw (a : Int) (x : Sec) : Try.prog.built 92 [(0, .int .i64 a), (1, .agg (av x))] = some (wv a x) := by
  obtain ⟨i, hi, hz, hs, hb⟩ := info_parts view_Rw
  have hp := places_Rw
  rw [Try.underlying92] at hp
  simp only [Program.built, hi, Try.underlying92, hz]
  simp only at hp
  rw [hp]
  simp only [Value.cells, Instr.fill, List.getElem?_toArray, List.getElem?_cons_zero, List.getElem?_cons_succ, Nat.zero_add]
  rw [if_neg (by simp), if_neg (by simp)]
  have h1 := fill_put (wv 0 zsec) #[.int .i64 a] 0 (by simp)
  simp only [Nat.zero_add] at h1
  rw [h1, fill_put _ (av x) 1 (by rw [putAt_size _ _ _ (by simp)]; simp)]
  congr 1
  apply Array.ext_getElem?
  intro j
  rw [putAt_get _ _ _ (by rw [putAt_size _ _ _ (by simp)]; simp), putAt_get _ _ _ (by simp)]
  by_cases h1 : 1 ≤ j ∧ j < 1 + (av x).size
  · rw [if_pos h1]
    simp only [wv]
    rw [Array.getElem?_append_right (by simp; omega)]
    simp
  · rw [if_neg h1]
    simp only [size_av] at h1
    by_cases h2 : j = 0
    · subst h2; simp [wv]
    · rw [if_neg (by simp; omega), Array.getElem?_eq_none (by simp; omega), Array.getElem?_eq_none (by simp; omega)]
@[go_sem] theorem run_BuildRw (w : World) (a : Int) (x : Sec) : (BuildRw #[(0, .int .i64 a), (1, .agg (av x))]).run Try.prog w = .ok (.agg (wv a x)) w := run_build w _ _ _ (built_Rw a x)
end Go.Proofs.Ytjedlcfeobhjnaa
