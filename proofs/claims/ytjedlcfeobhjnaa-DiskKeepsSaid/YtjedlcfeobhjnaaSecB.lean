/- Sectors of 64 bytes by value: loading, storing, slicing, copying, results. Lemmas; no conditions on the program. -/
import Derived.Test.YtjedlcfeobhjnaaBytes
set_option linter.unusedSimpArgs false
set_option linter.unusedVariables false
namespace Go.Proofs.Ytjedlcfeobhjnaa
open Go.RowKit

abbrev Sec := Vector UInt8 64
def zsec : Sec := Vector.replicate 64 0
theorem info_sec : (Try.prog.info? 35).map (·.size) = some 64 := by kernel_rfl

def LoadSec (v : Value) : Sem Value := Instr.loadAt 35 v
def StoreSec (v x : Value) : Sem Unit := Instr.storeAt 35 v x
def AllocSec : Sem Value := Instr.alloc 35 true (.tuple #[])
@[go_sem ↓] theorem loadAt_sec (v : Value) : Instr.loadAt 35 v = LoadSec v := rfl
@[go_sem ↓] theorem storeAt_sec (v x : Value) : Instr.storeAt 35 v x = StoreSec v x := rfl
@[go_sem ↓] theorem alloc_sec : Instr.alloc 35 true (.tuple #[]) = AllocSec := rfl
@[go_sem ↓] theorem run_LoadSec (w : World) (b o : Nat) (h : (readAt w b o 64).isSome = true) :
    (LoadSec (.pointer (some ⟨b, o, none⟩))).run Try.prog w = .ok (.agg ((readAt w b o 64).getD #[])) w := by
  obtain ⟨cs, hc⟩ := Option.isSome_iff_exists.1 h
  unfold LoadSec
  rw [run_loadAt_at w b o 64 35 _ cs hc Try.underlying35 rfl info_sec, hc]; rfl
@[go_sem ↓] theorem run_StoreSec (w : World) (b o : Nat) (x : Sec) (h : canAt w b o 64 = true) :
    (StoreSec (.pointer (some ⟨b, o, none⟩)) (.agg (av x))).run Try.prog w = .ok () (setAt w b o (av x)) :=
  run_storeAt_at w b o 64 35 (av x) h (size_av x) info_sec (av_one x)
theorem zero_sec : (Try.prog.info? 35).bind (·.zero) = some (.agg (av zsec)) := by kernel_rfl
@[go_sem] theorem run_AllocSec (w : World) :
    AllocSec.run Try.prog w = .ok (.pointer (some ⟨w.heap.size, 0, none⟩)) (w.alloc (.cells (av zsec) 35)) := by
  obtain ⟨i, hi, hz⟩ := Option.bind_eq_some_iff.1 zero_sec
  unfold AllocSec
  simp [Instr.alloc, zeroValue, typeInfo, hi, hz, newVar, newRow, Value.cells]
theorem copy_sec (w : World) (ty : TypeId) (b o dLen dCap b2 o2 sLen sCap : Nat) (n : Nat) (hn : n = Nat.min sLen dLen) (cs : Array Value)
    (h : canAt w b o n = true) (hr : readAt w b2 o2 n = some cs) (h1 : ∀ v ∈ cs, v.oneCell' = true) :
    (Builtin.copy_ #[107, 107] ty #[.slice (some ⟨b, o, none⟩) dLen dCap, .slice (some ⟨b2, o2, none⟩) sLen sCap]).run Try.prog w = .ok (goInt n) (setAt w b o cs) :=
  run_copy_at w 107 107 ty 5 b o dLen dCap b2 o2 sLen sCap n cs Try.underlying107 info_u8 hn h hr h1

@[go_sem] theorem slice_sec_hi (w : World) (b o h : Nat) (kk : IntKind) (hk : h ≤ 64) :
    (Instr.sliceAt 35 (.pointer (some ⟨b, o, none⟩)) none (some (.int kk (h : Int))) none).run Try.prog w = .ok (.slice (some ⟨b, o, none⟩) h 64) w := by
  have h3 : ¬ 64 < h := by omega
  cases hq : Try.prog.info? 5 with
  | none => have := info_u8; simp [hq] at this
  | some i => simp [Instr.sliceAt, run_underlying Try.underlying35, Instr.sureAddr, Instr.sliceBounds, Instr.sliceBound, asIntOf, h3, sizeOf, typeInfo, hq, Addr.add]
theorem results_sec {fn : Func} {p : Tmp} (h : fn.results = #[.cell p 35]) (tmps : Array Value) (w : World) (b o : Nat) (cs : Array Value)
    (hp : tmps.getD p undef = .pointer (some ⟨b, o, none⟩)) (hg : readAt w b o 64 = some cs) : (results fn tmps).run Try.prog w = .ok (.agg cs) w := by
  have hp' : tmps[p]?.getD undef = .pointer (some ⟨b, o, none⟩) := by simpa using hp
  simp [results, h, hp', asAddr, run_loadVar_at w b o 64 35 _ cs hg Try.underlying35 rfl info_sec]

theorem av_all {n : Nat} (x : Vector UInt8 n) (i j : Nat) : ∀ v ∈ (av x).extract i j, v.oneCell' = true := fun v hv => av_one x v (by
  simp only [Array.mem_extract_iff_getElem] at hv
  obtain ⟨k, h1, rfl⟩ := hv
  simp)
end Go.Proofs.Ytjedlcfeobhjnaa
