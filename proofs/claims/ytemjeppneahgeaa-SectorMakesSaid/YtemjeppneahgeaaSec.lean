/- What the functions Cut, Tear, Make of package sector and Tear, Fill of its reference compute on sectors of 64 bytes. Conditions: integer arguments fit their kinds. -/
import Derived.Test.YtemjeppneahgeaaCells
import Derived.Deep.RegionWith
import Derived.Deep.RegionHeld3
set_option linter.unusedSimpArgs false
set_option linter.unusedVariables false
namespace Go.Proofs.Ytemjeppneahgeaa
open Go.RowKit

theorem ret_int {k : IntKind} {a b : Int} (h : a = b) : Ending.returned (.int k a) = .returned (.int k b) := by rw [h]
theorem bt {w w1 w2 : World} (h : Below w.heap.size w w1) (h2 : Below w1.heap.size w1 w2) : Below w.heap.size w w2 := h.trans (h2.mono h.size)
theorem ba {w w1 : World} (o : Obj) (h : Below w.heap.size w w1) : Below w.heap.size w (w1.alloc o) := h.alloc h.size o

abbrev Sec := Vector UInt8 64
def zsec : Sec := Vector.replicate 64 0
theorem info_sec : (Try.prog.info? 22).map (·.size) = some 64 := by kernel_rfl
theorem info_u8 : (Try.prog.info? 5).map (·.size) = some 1 := by kernel_rfl

def LoadSec (v : Value) : Sem Value := Instr.loadAt 22 v
def StoreSec (v x : Value) : Sem Unit := Instr.storeAt 22 v x
def AllocSec : Sem Value := Instr.alloc 22 true (.tuple #[])
@[go_sem ↓] theorem loadAt_sec (v : Value) : Instr.loadAt 22 v = LoadSec v := rfl
@[go_sem ↓] theorem storeAt_sec (v x : Value) : Instr.storeAt 22 v x = StoreSec v x := rfl
@[go_sem ↓] theorem alloc_sec : Instr.alloc 22 true (.tuple #[]) = AllocSec := rfl
@[go_sem ↓] theorem run_LoadSec (w : World) (b o : Nat) (h : (readAt w b o 64).isSome = true) :
    (LoadSec (.pointer (some ⟨b, o, none⟩))).run Try.prog w = .ok (.agg ((readAt w b o 64).getD #[])) w := by
  obtain ⟨cs, hc⟩ := Option.isSome_iff_exists.1 h
  unfold LoadSec
  rw [run_loadAt_at w b o 64 22 _ cs hc Try.underlying22 rfl info_sec, hc]; rfl
@[go_sem ↓] theorem run_StoreSec (w : World) (b o : Nat) (x : Sec) (h : canAt w b o 64 = true) :
    (StoreSec (.pointer (some ⟨b, o, none⟩)) (.agg (av x))).run Try.prog w = .ok () (setAt w b o (av x)) :=
  run_storeAt_at w b o 64 22 (av x) h (size_av x) info_sec (av_one x)
theorem zero_sec : (Try.prog.info? 22).bind (·.zero) = some (.agg (av zsec)) := by kernel_rfl
@[go_sem] theorem run_AllocSec (w : World) :
    AllocSec.run Try.prog w = .ok (.pointer (some ⟨w.heap.size, 0, none⟩)) (w.alloc (.cells (av zsec) 22)) := by
  obtain ⟨i, hi, hz⟩ := Option.bind_eq_some_iff.1 zero_sec
  unfold AllocSec
  simp [Instr.alloc, zeroValue, typeInfo, hi, hz, newVar, newRow, Value.cells]
@[go_sem] theorem extract_av {n : Nat} (x : Vector UInt8 n) : (av x).extract 0 n = av x := by
  apply Array.ext'; simp; exact List.take_of_length_le (by simp)
attribute [go_sem] readAt_alloc_at readAt_alloc_past canAt_alloc_at canAt_alloc_past readAt_drew canAt_drew readAt_setAt_same readAt_setAt_other canAt_setAt_other canAt_setAt setAt_size size_av
theorem copy_sec (w : World) (ty : TypeId) (b o dLen dCap b2 o2 sLen sCap : Nat) (n : Nat) (hn : n = Nat.min sLen dLen) (cs : Array Value)
    (h : canAt w b o n = true) (hr : readAt w b2 o2 n = some cs) (h1 : ∀ v ∈ cs, v.oneCell' = true) :
    (Builtin.copy_ #[27, 27] ty #[.slice (some ⟨b, o, none⟩) dLen dCap, .slice (some ⟨b2, o2, none⟩) sLen sCap]).run Try.prog w = .ok (goInt n) (setAt w b o cs) :=
  run_copy_at w 27 27 ty 5 b o dLen dCap b2 o2 sLen sCap n cs Try.underlying27 info_u8 hn h hr h1

@[go_sem] theorem slice_sec_hi (w : World) (b o h : Nat) (kk : IntKind) (hk : h ≤ 64) :
    (Instr.sliceAt 22 (.pointer (some ⟨b, o, none⟩)) none (some (.int kk (h : Int))) none).run Try.prog w = .ok (.slice (some ⟨b, o, none⟩) h 64) w := by
  have h3 : ¬ 64 < h := by omega
  cases hq : Try.prog.info? 5 with
  | none => have := info_u8; simp [hq] at this
  | some i => simp [Instr.sliceAt, run_underlying Try.underlying22, Instr.sureAddr, Instr.sliceBounds, Instr.sliceBound, asIntOf, h3, sizeOf, typeInfo, hq, Addr.add]
def cutN (c : Int) : Nat := (min (max c 0) 64).toNat
theorem cutN_le (c : Int) : cutN c ≤ 64 := by unfold cutN; omega
theorem cut_any (c : Int) (w : World) :
    Calls Try.prog 11 #[.int .i64 c] w fun e w' => e = .returned (.int .i64 (cutN c : Nat)) ∧ w = w' := by
  by_cases h1 : c < 0
  · go_enter Try.func11, Try.ntmps11
    go_wp2
    go_ret
    exact ⟨ret_int (by unfold cutN; omega), rfl⟩
  · by_cases h2 : c < 64
    · go_enter Try.func11, Try.ntmps11
      go_wp2
      all_goals
        go_ret
        exact ⟨ret_int (by unfold cutN; omega), rfl⟩
    · go_enter Try.func11, Try.ntmps11
      go_wp2
      all_goals
        go_ret
        exact ⟨ret_int (by unfold cutN; omega), rfl⟩

theorem results_sec {fn : Func} {p : Tmp} (h : fn.results = #[.cell p 22]) (tmps : Array Value) (w : World) (b o : Nat) (cs : Array Value)
    (hp : tmps.getD p undef = .pointer (some ⟨b, o, none⟩)) (hg : readAt w b o 64 = some cs) : (results fn tmps).run Try.prog w = .ok (.agg cs) w := by
  have hp' : tmps[p]?.getD undef = .pointer (some ⟨b, o, none⟩) := by simpa using hp
  simp [results, h, hp', asAddr, run_loadVar_at w b o 64 22 _ cs hg Try.underlying22 rfl info_sec]

def tear (x y : Sec) (c : Int) : Sec := Vector.ofFn fun i => if (i.val : Int) < c then y[i] else x[i]

theorem av_tear (x y : Sec) (c : Int) : putAt (av x) 0 ((av y).extract 0 (cutN c)) = av (tear x y c) := by
  apply Array.ext
  · rw [putAt_size _ _ _ (by simp; omega)]; simp
  · intro i h1 h2
    simp only [size_av] at h2
    simp only [putAt, List.getElem_toArray, List.take_zero, List.nil_append, Nat.zero_add]
    have hk := cutN_le c
    by_cases hi : i < cutN c
    · rw [List.getElem_append_left (by simp; omega)]
      have : ((i : Nat) : Int) < c := by unfold cutN at hi; omega
      simp [av, tear, this]
    · rw [List.getElem_append_right (by simp; omega)]
      have : ¬ ((i : Nat) : Int) < c := by unfold cutN at hi; omega
      have e : min (cutN c) 64 = cutN c := by omega
      simp only [av, tear, List.getElem_drop, Array.length_toList, Array.size_extract, Array.size_map, Vector.size_toArray, Nat.sub_zero, e, Array.getElem_toList, Array.getElem_map, Vector.getElem_toArray, Vector.getElem_ofFn, this, if_false]
      congr 2; simp; omega
theorem av_all {n : Nat} (x : Vector UInt8 n) (i j : Nat) : ∀ v ∈ (av x).extract i j, v.oneCell' = true := fun v hv => av_one x v (by
  simp only [Array.mem_extract_iff_getElem] at hv
  obtain ⟨k, h1, rfl⟩ := hv
  simp)

theorem tear_any (x y : Sec) (c : Int) (w : World) :
    Calls Try.prog 9 #[.agg (av x), .agg (av y), .int .i64 c] w fun e w' => e = .returned (.agg (av (tear x y c))) ∧ Below w.heap.size w w' := by
  have hk := cutN_le c
  obtain ⟨W, hW⟩ : ∃ W, W = (((w.alloc (.cells (av x) 22)).alloc (.cells (av y) 22)).alloc (.cells (av zsec) 22)).drew := ⟨_, rfl⟩
  have hcp := copy_sec W 3 w.heap.size 0 (cutN c) 64 (w.heap.size + 1) 0 64 64 (cutN c) (by simp only [Nat.min_def]; split <;> omega) ((av y).extract 0 (cutN c))
    (by subst hW; simp [go_sem, hk]) (by subst hW; simp [go_sem, hk]) (av_all y _ _)
  have hb : Below w.heap.size w W := by subst hW; exact (ba _ (ba _ (ba _ (Below.refl _ _)))).drew
  have hset : readAt (setAt W w.heap.size 0 ((av y).extract 0 (cutN c))) w.heap.size 0 64 = some (av (tear x y c)) := by
    subst hW
    rw [readAt_setAt_over _ _ 0 64 (av x) (by simp [go_sem]) (by simp [go_sem]) 0 _ (Nat.le_refl _) (by simp; omega)]
    exact congrArg some (av_tear x y c)
  have hcan : canAt (setAt W w.heap.size 0 ((av y).extract 0 (cutN c))) (w.heap.size + 2) 0 64 = true := by
    subst hW; simp [go_sem]
  have hb2 := setAt_below hb (Nat.le_refl _) 0 ((av y).extract 0 (cutN c))
  generalize setAt W w.heap.size 0 ((av y).extract 0 (cutN c)) = W2 at *
  subst hW
  go_enter Try.func9, Try.ntmps9
  go_wp2
  go_region_with (first | (go_at_call 11; refine (cut_any _ _).mono ?_; rintro e w' ⟨rfl, rfl⟩))
  go_wp2
  refine bodyPost_ret (results_sec rfl _ _ (w.heap.size + 1 + 1) 0 (av (tear x y c)) rfl ?_) rfl ⟨rfl, setAt_below hb2 (by omega) _ _⟩
  exact readAt_setAt_same _ _ _ _ _ (by simp) hcan

end Go.Proofs.Ytemjeppneahgeaa
