/- How an argument that is an entry is opened. No conditions. -/
import Derived.Test.YtlonmghkdobhdaaEnt1
import Derived.Test.YtlonmghkdobhdaaOpenG
import Derived.ProofKit
import Derived.OpenShut
import Derived.ShutString
import Derived.ChangeOld
import Derived.Below
import Derived.Lib.SmallJoins
set_option linter.unusedSimpArgs false
set_option linter.unusedVariables false
namespace Go.Proofs.Ytlonmghkdobhdaa
open Go.RowKit Go.ChangeShapes Go.WideShapes Go.ChangeAt

section
variable {H : Type} {enc : TypeId × Value → H} {w : World} {base b0 : Nat} {r : Reach} {spare : Nat → Bool} {held : Bool} {v : Value} {d : DataW H} {p : List MemPlace}
theorem cells_i64 : Try.prog.cellsOf 2 = 1 := by kernel_rfl
theorem cells_D : Try.prog.cellsOf 37 = 32 := by kernel_rfl
theorem cells_E : Try.prog.cellsOf 39 = 33 := by kernel_rfl
theorem open_dig {fuel : Nat} {cs : List Value} {x : DataW H × List MemPlace} (h : DataW.trod enc Try.prog w base spare held fuel 37 cs = some x) : ∃ k : Dig, cs = (av k).toList := by
  obtain ⟨xs, m, _, _, hsz, hl, hx⟩ := DataW.trod_array Try.underlying37 h
  rw [cells_D] at hsz
  obtain ⟨k, hk⟩ := bytes_of_ints (cs := cs.toArray) (n := 32) (by simpa using hsz) (fun i hi => by
    have h1 := hx i hi
    rw [cells_u8', Nat.mul_one] at h1
    have hi2 : i < xs.length := by omega
    rw [List.getElem?_eq_getElem hi2] at h1
    have hi3 : i < cs.length := by omega
    have e : ((cs.drop i).take 1) = [cs[i]] := by rw [List.drop_eq_getElem_cons hi3]; rfl
    rw [e] at h1
    obtain ⟨z, hz, _, wz⟩ := DataW.trod_int Try.underlying5 h1
    have hz1 : cs[i] = .int .u8 z := by simpa using hz
    exact ⟨z, by simp [hi3, hz1], bounds_u8 wz⟩)
  exact ⟨k, by rw [← hk]⟩
theorem open_ent (hv : Value.okWide Try.prog w r b0 39 v) (h : DataW.Trod enc Try.prog w base spare held 39 v d p) :
    ∃ (k : Dig) (x : Int), v = .agg (ev k x) ∧ (-9223372036854775808 ≤ x ∧ x ≤ 9223372036854775807) := by
  unfold Value.okWide at hv
  rw [Try.underlying39] at hv
  obtain ⟨cs, rfl, hsz, _⟩ := hv
  rw [cells_E] at hsz
  obtain ⟨fuel, hf⟩ := h
  obtain ⟨y0, y1, m, _, hl, h0, h1⟩ := trod_struct2 Try.underlying39 hf
  simp only [Value.cells, cells_D, cells_i64] at h0 h1
  obtain ⟨k, e0⟩ := open_dig h0
  obtain ⟨z1, e1, _, w1⟩ := DataW.trod_int Try.underlying2 h1
  refine ⟨k, z1, ?_, bounds_i64 w1⟩
  congr 1
  apply Array.ext'
  have hl : cs.toList.length = 33 := by simpa using hsz
  have key : cs.toList = cs.toList.take 32 ++ (cs.toList.drop 32).take 1 := by
    rw [List.take_of_length_le (l := cs.toList.drop 32) (by rw [List.length_drop, hl]; omega), List.take_append_drop]
  rw [key]
  simp only [List.drop_zero] at e0
  rw [e0, e1]
  unfold ev
  rw [Array.toList_push]
end
end Go.Proofs.Ytlonmghkdobhdaa
