/- How an argument that is an array of 64 bytes by value is opened. No conditions. -/
import Derived.Test.YtlonmghkdobhdaaSecB
import Derived.Test.YtlonmghkdobhdaaOpenG
import Derived.ProofKit
import Derived.OpenShut
import Derived.ShutString
import Derived.ChangeOld
import Derived.Below
set_option linter.unusedSimpArgs false
set_option linter.unusedVariables false
namespace Go.Proofs.Ytlonmghkdobhdaa
open Go.RowKit Go.ChangeShapes Go.WideShapes Go.ChangeAt

section
variable {H : Type} {enc : TypeId × Value → H} {w : World} {base b0 : Nat} {r : Reach} {spare : Nat → Bool} {held : Bool} {v : Value} {d : DataW H} {p : List MemPlace}

theorem cells_sec : Try.prog.cellsOf 25 = 64 := by kernel_rfl


theorem open_sec (hv : Value.okWide Try.prog w r b0 25 v) (h : DataW.Trod enc Try.prog w base spare held 25 v d p) : ∃ x : Sec, v = .agg (av x) := by
  unfold Value.okWide at hv
  rw [Try.underlying25] at hv
  obtain ⟨cs, rfl, hsz, _⟩ := hv
  rw [cells_sec] at hsz
  obtain ⟨fuel, hf⟩ := h
  obtain ⟨xs, m, _, _, _, hl, hx⟩ := DataW.trod_array Try.underlying25 hf
  obtain ⟨x, rfl⟩ := bytes_of_ints hsz (fun i hi => by
    have h1 := hx i hi
    rw [cells_u8', Nat.mul_one] at h1
    have hi2 : i < xs.length := by omega
    rw [List.getElem?_eq_getElem hi2] at h1
    have hi3 : i < cs.size := by omega
    have e : (((Value.agg cs).cells.toList.drop i).take 1) = [cs[i]] := by
      simp only [Value.cells]
      rw [List.drop_eq_getElem_cons (by simpa using hi3)]
      simp
    rw [e] at h1
    obtain ⟨z, hz, _, wz⟩ := DataW.trod_int Try.underlying5 h1
    have hz1 : cs[i] = .int .u8 z := by simpa using hz
    exact ⟨z, by rw [Array.getElem?_eq_getElem hi3, hz1], bounds_u8 wz⟩)
  exact ⟨x, rfl⟩
end
end Go.Proofs.Ytlonmghkdobhdaa
