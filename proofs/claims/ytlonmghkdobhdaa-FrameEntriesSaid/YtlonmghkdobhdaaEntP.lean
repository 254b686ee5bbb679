/- The payload of an entry. No conditions. -/
import Derived.Test.YtlonmghkdobhdaaEnt5
set_option linter.unusedSimpArgs false
set_option linter.unusedVariables false
namespace Go.Proofs.Ytlonmghkdobhdaa
open Go.RowKit

def dl (d : Dig) : List UInt8 := d.toList
@[simp] theorem dl_length (d : Dig) : (dl d).length = 32 := by simp [dl]
theorem av_dl (d : Dig) : av d = bv (dl d) := by
  apply Array.ext_getElem?
  intro i
  by_cases hi : i < 32
  · rw [av_get _ i hi, bv_get _ i (by simpa using hi)]
    simp [dl, List.getD, hi]
  · simp [bv, hi]
/-- The payload of an entry. -/
def payE (d : Dig) (x : Nat) : List UInt8 := dl d ++ be 8 x
@[simp] theorem payE_length (d : Dig) (x : Nat) : (payE d x).length = 40 := by simp [payE]
theorem dig_bs {w : World} {S : Nat} {d : Dig} {x : Int} (h : readAt w S 0 33 = some (ev d x)) : Bs w (some ⟨S, 0, none⟩) 32 32 (dl d) := by
  refine ⟨by simp, by omega, by omega, fun h => (by cases h), fun h0 => ⟨S, 0, rfl, ?_⟩⟩
  have h1 := readAt_sub h 0 32 (by omega) (by omega)
  rw [h1, ← av_dl]
  simp only [Nat.sub_zero, Nat.zero_add]
  have e : (ev d x).extract 0 32 = (ev d x).pop := by simp
  rw [e, ev_pop]

theorem newE0 (w : World) (d : Dig) (x : Int) : readAt (w.alloc (.cells (ev d x) 39)) w.heap.size 0 33 = some (ev d x) := by
  rw [readAt_alloc_at _ _ _ _ _ _ _ rfl (by simp), ev_all]
end Go.Proofs.Ytlonmghkdobhdaa
