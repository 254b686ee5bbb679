/- Entries as values: loading, storing, building, comparing; digests. Lemmas; no conditions on the program. -/
import Derived.Test.YtlonmghkdobhdaaFrAw
import Derived.Laws.StructEq
set_option linter.unusedSimpArgs false
set_option linter.unusedVariables false
namespace Go.Proofs.Ytlonmghkdobhdaa
open Go.RowKit

abbrev Dig := Vector UInt8 32
def zdig : Dig := Vector.replicate 32 0
def ev (d : Dig) (x : Int) : Array Value := (av d).push (.int .i64 x)
@[simp, go_sem] theorem size_ev (d : Dig) (x : Int) : (ev d x).size = 33 := by simp [ev]
section
variable (d : Dig) (x : Int)
theorem ev_one : ∀ v ∈ ev d x, v.oneCell' = true := by
  intro v hv
  simp only [ev, Array.mem_push] at hv
  rcases hv with hv | hv
  · exact av_one d v hv
  · subst hv; rfl
theorem ev_32 : (ev d x)[32]? = some (.int .i64 x) := by
  have h := Array.getElem?_push_size (xs := av d) (x := Value.int .i64 x)
  rwa [size_av] at h
theorem ev_pop : (ev d x).pop = av d := Array.pop_push
theorem ev_all : (ev d x).extract 0 33 = ev d x := by
  apply Array.ext'
  simp [List.extract_eq_take_drop]
  exact List.take_of_length_le (by simp)
end
theorem view_E : (Try.prog.info? 39).map (fun i => (i.zero, i.size, i.bytes)) = some (some (.agg (ev zdig 0)), 33, 40) := by kernel_rfl
theorem info_E : (Try.prog.info? 39).map (·.size) = some 33 := by kernel_rfl
theorem info_D : (Try.prog.info? 37).map (·.size) = some 32 := by kernel_rfl
def LoadE (v : Value) : Sem Value := Instr.loadAt 39 v
def StoreE (v x : Value) : Sem Unit := Instr.storeAt 39 v x
def AllocE : Sem Value := Instr.alloc 39 true (.tuple #[])
def BuildE (parts : Array (Nat × Value)) : Sem Value := Instr.build 39 parts
def LoadD (v : Value) : Sem Value := Instr.loadAt 37 v
@[go_sem ↓] theorem loadAt_E (v : Value) : Instr.loadAt 39 v = LoadE v := rfl
@[go_sem ↓] theorem storeAt_E (v x : Value) : Instr.storeAt 39 v x = StoreE v x := rfl
@[go_sem ↓] theorem alloc_E : Instr.alloc 39 true (.tuple #[]) = AllocE := rfl
@[go_sem ↓] theorem build_E (parts : Array (Nat × Value)) : Instr.build 39 parts = BuildE parts := rfl
@[go_sem ↓] theorem loadAt_D (v : Value) : Instr.loadAt 37 v = LoadD v := rfl
@[go_sem ↓] theorem run_LoadE (w : World) (b o : Nat) (h : (readAt w b o 33).isSome = true) :
    (LoadE (.pointer (some ⟨b, o, none⟩))).run Try.prog w = .ok (.agg ((readAt w b o 33).getD #[])) w := by
  obtain ⟨cs, hc⟩ := Option.isSome_iff_exists.1 h
  unfold LoadE
  rw [run_loadAt_at w b o 33 39 _ cs hc Try.underlying39 rfl info_E, hc]; rfl
@[go_sem ↓] theorem run_LoadD (w : World) (b o : Nat) (h : (readAt w b o 32).isSome = true) :
    (LoadD (.pointer (some ⟨b, o, none⟩))).run Try.prog w = .ok (.agg ((readAt w b o 32).getD #[])) w := by
  obtain ⟨cs, hc⟩ := Option.isSome_iff_exists.1 h
  unfold LoadD
  rw [run_loadAt_at w b o 32 37 _ cs hc Try.underlying37 rfl info_D, hc]; rfl
@[go_sem ↓] theorem run_StoreE (w : World) (b o : Nat) (d : Dig) (x : Int) (h : canAt w b o 33 = true) :
    (StoreE (.pointer (some ⟨b, o, none⟩)) (.agg (ev d x))).run Try.prog w = .ok () (setAt w b o (ev d x)) :=
  run_storeAt_at w b o 33 39 (ev d x) h (size_ev ..) info_E (ev_one d x)
@[go_sem] theorem run_AllocE (w : World) :
    AllocE.run Try.prog w = .ok (.pointer (some ⟨w.heap.size, 0, none⟩)) (w.alloc (.cells (ev zdig 0) 39)) := by
  obtain ⟨i, hi, hz, hs, hb⟩ := info_parts view_E
  unfold AllocE
  simp [Instr.alloc, zeroValue, typeInfo, hi, hz, newVar, newRow, Value.cells]
theorem builtE0 : Try.prog.built 39 [] = some (ev zdig 0) := by kernel_rfl
@[go_sem] theorem run_buildE0 (w : World) : (BuildE #[]).run Try.prog w = .ok (.agg (ev zdig 0)) w := run_build w _ _ _ builtE0
theorem fold_set (f : Array Value → Value × Nat → Array Value) (hf : f = fun cs cj => cs.setIfInBounds cj.2 cj.1) : ∀ (xs : List Value) (k : Nat) (cs : Array Value), k + xs.length ≤ cs.size → (xs.zipIdx k).foldl f cs = putAt cs k xs.toArray
  | [], k, cs, _ => by apply Array.ext'; simp [putAt]
  | x :: xs, k, cs, h => by
    simp only [List.length_cons] at h
    rw [List.zipIdx_cons, List.foldl_cons, fold_set f hf xs (k + 1) _ (by rw [hf]; simp; omega)]
    subst hf
    apply Array.ext'
    simp only [putAt, Array.toList_setIfInBounds, List.size_toArray, List.length_cons]
    rw [show k + 1 + xs.length = k + (xs.length + 1) by omega, List.drop_set_of_lt (by omega)]
    have e : (cs.toList.set k x).take (k + 1) = cs.toList.take k ++ [x] := by
      rw [List.take_set, List.take_add_one, List.getElem?_eq_getElem (by simpa using (by omega : k < cs.size))]
      simp only [Option.toList_some]
      rw [List.set_append_right _ _ (by simp; omega)]
      simp
      have : min k cs.size = k := by omega
      simp [this]
    rw [e]
    simp [List.append_assoc]
theorem builtE2 (d : Dig) (x : Int) : Try.prog.built 39 [(0, .agg (av d)), (1, .int .i64 x)] = some (ev d x) := by
  obtain ⟨i, hi, hz, hs, hb⟩ := info_parts view_E
  obtain ⟨j, hj, hjs⟩ := Option.map_eq_some_iff.1 info_D
  have h64 : (Try.prog.info? 2).map (·.size) = some 1 := by kernel_rfl
  obtain ⟨k, hk, hks⟩ := Option.map_eq_some_iff.1 h64
  have hf : Array.foldl (fun (cs : Array Value) (cj : Value × Nat) => cs.setIfInBounds cj.2 cj.1) (ev zdig 0) (av d).zipIdx 0 32 = (av d).push (.int .i64 0) := by
    have e32 : (av d).zipIdx.size = 32 := by simp
    rw [show Array.foldl (fun (cs : Array Value) (cj : Value × Nat) => cs.setIfInBounds cj.2 cj.1) (ev zdig 0) (av d).zipIdx 0 32 = Array.foldl (fun (cs : Array Value) (cj : Value × Nat) => cs.setIfInBounds cj.2 cj.1) (ev zdig 0) (av d).zipIdx 0 (av d).zipIdx.size by rw [e32]]
    rw [← Array.foldl_toList, Array.toList_zipIdx]
    rw [fold_set _ rfl (av d).toList 0 (ev zdig 0) (by simp)]
    apply Array.ext'
    have hd : (ev zdig 0).toList.drop 32 = [.int .i64 0] := by
      rw [ev, Array.toList_push]
      exact drop_len (by simp)
    simp only [putAt, List.take_zero, List.nil_append, Nat.zero_add, List.size_toArray, Array.length_toList, size_av, hd, Array.toList_push]
  simp [Program.built, hi, Try.underlying39, hz, hj, hk, hjs, hks, Instr.fill, Value.cells]
  rw [hf]
  refine ⟨by simp, ?_⟩
  unfold ev
  apply Array.ext'
  rw [Array.toList_setIfInBounds, Array.toList_push, Array.toList_push, List.set_append_right _ _ (by simp)]
  simp
@[go_sem] theorem run_buildE2 (w : World) (d : Dig) (x : Int) : (BuildE #[(0, .agg (av d)), (1, .int .i64 x)]).run Try.prog w = .ok (.agg (ev d x)) w := run_build w _ _ _ (builtE2 d x)

theorem isAgg_D (w : World) : (isAgg 37).run Try.prog w = .ok true w := by
  simp [isAgg, run_underlying Try.underlying37]
theorem part_dig (w : World) (d : Dig) (x : Int) : (part 37 (ev d x) 0).run Try.prog w = .ok (.agg (av d)) w := by
  obtain ⟨i, hi, hs⟩ := Option.map_eq_some_iff.1 info_D
  simp [part, isAgg_D, sizeOf, typeInfo, hi, hs, ev_pop]
theorem part_exp (w : World) (d : Dig) (x : Int) : (part 2 (ev d x) 32).run Try.prog w = .ok (.int .i64 x) w :=
  run_part_plain w (by kernel_rfl) (ev_32 d x)
theorem run_eq_dig (w : World) (k : Nat) (x y : Dig) : (Op.equalIn (k + 2) 37 (.agg (av x)) (.agg (av y))).run Try.prog w = .ok (x == y) w := by
  cases hq : Try.prog.info? 5 with
  | none => have := info_u8; simp [hq] at this
  | some i =>
    rw [run_equalIn_array w (k + 1) (av x) (av y) Try.underlying37 hq, run_eqItems_av w k x y _ (by simp), all_range_eq]
theorem held_E : Try.prog.stoodInHeld 39 = false := by kernel_rfl
theorem fields_E : (Try.prog.fieldsOf 39).toList = [{ name := "Digest", type := 37, offset := 0, embedded := false, tag := "", pkgPath := "", byteOffset := 0 }, { name := "Expiry", type := 2, offset := 32, embedded := false, tag := "", pkgPath := "", byteOffset := 32 }] := by kernel_rfl
theorem und_E : Try.prog.underlying 39 = some (.struct (Try.prog.fieldsOf 39)) := by kernel_rfl
@[go_sem ↓ high] theorem run_equalIn_E (w : World) (d f : Dig) (x y : Int) : (Op.equalIn 10000 39 (.agg (ev d x)) (.agg (ev f y))).run Try.prog w = .ok (d == f && x == y) w := by
  rw [run_equalIn_struct w 9999 _ _ _ und_E held_E, fields_E]
  have h2 : (Op.equalIn 9999 2 (.int .i64 x) (.int .i64 y)).run Try.prog w = .ok (x == y) w := run_equalIn_int w 9998 _ _ .i64 _ _ Try.underlying2
  have h1 := run_eq_dig w 9997 d f
  cases hh : (d == f) <;> simp [Op.eqFields, part_dig, part_exp, h1, h2, hh]
  cases hx : (x == y) <;> simpa using hx
@[go_sem] theorem eqGuardType_E : Try.prog.eqGuardType Try.prog.depth 39 = false := by kernel_rfl
attribute [irreducible] ev
end Go.Proofs.Ytlonmghkdobhdaa
